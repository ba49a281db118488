/- The fixed examples at the head of the statements about package sketch hold. -/
import Derived.Test.YtiobkccmgigmhaaDoorX0
import Derived.Test.YtiobkccmgigmhaaDoorX1
import Derived.Test.YtiobkccmgigmhaaDoorX2
import Derived.Test.YtiobkccmgigmhaaDoorPx2
import Derived.Test.YtiobkccmgigmhaaDoorPx3
import Derived.Test.YtiobkccmgigmhaaDoorPx5
import Derived.Test.YtiobkccmgigmhaaDoorPx7
import Derived.Test.YtiobkccmgigmhaaDoorPx8
set_option linter.unusedVariables false
set_option linter.unusedSimpArgs false
namespace Go.Proofs.YtiobkccmgigmhaaDoor.X
open Go.RowKit Go.Proofs.YtiobkccmgigmhaaDoorW.PrintWords Go.Proofs.YtiobkccmgigmhaaDoorW.PrintMore

/-! the closed values -/
theorem e1 : Px.sketch_Make.f 100 [] 3 = some ([-1, -1, -1], 0) := by decide +kernel
theorem e2 : Px.sketch_Estimate.f 100 [1, 2, 3, 4] [1, 5, 3, 4] = some (3, 4, 0) := by decide +kernel
theorem e3 : Px.sketch_Bands.f 100 [7, 8, 9, 10] 2 = some ([⟨#[48, 58, 55, 46, 56]⟩, ⟨#[49, 58, 57, 46, 49, 48]⟩], 0) := by decide +kernel
theorem e4 : Px.sketch_Make.f 100 [⟨#[97]⟩] 65 = some ([], 1) := by decide +kernel
theorem e5 : Px.sketch_Bands.f 100 [7, 8, 9] 2 = some ([], 1) := by decide +kernel
theorem e6 : Px.sketch_Union.f 100 [1, -1] [1, 1] = some ([], 1) := by decide +kernel
theorem e7 : Px.sketch_Union.f 100 [1, 9] [5, 2] = some ([1, 2], 0) := by decide +kernel
theorem e8 : sketch_Hash.f ⟨#[]⟩ 0 = some 11 := by decide +kernel
theorem e9 : sketch_Hash.f ⟨#[]⟩ 1 = some 48282 := by decide +kernel
theorem e10 : sketch_Hash.f ⟨#[97]⟩ 0 = some 4730569 := by decide +kernel
theorem e11 : Px.cleanseref05_Ints.f 100 [-1, -1, -1] [-1, -1, -1] = some true := by decide +kernel
theorem e12 : Px.cleanseref05_Ints.f 100 [1, 2] [1, 2] = some true := by decide +kernel
theorem e13 : Px.cleanseref05_Strings.f 100 [⟨#[48, 58, 55, 46, 56]⟩, ⟨#[49, 58, 57, 46, 49, 48]⟩] [⟨#[48, 58, 55, 46, 56]⟩, ⟨#[49, 58, 57, 46, 49, 48]⟩] = some true := by decide +kernel

theorem lit_of {α : Type} (enc : α → Value) (d : α) (h1 : ∀ x, (enc x).oneCell' = true) (W : World) (e : TypeId) (g : Nat) (hg : g = W.heap.size) (xs : List α) (hl : xs.length ≤ 9223372036854775807) :
    Kd.C (Kd.scalar enc h1) (W.alloc (.cells (xs.map enc).toArray e)) (some ⟨g, 0, none⟩) xs.length xs := by
  subst hg
  refine Kd.C_of_reads (d := d) ⟨rfl, hl, fun _ => ⟨_, rfl, fun j hj => ?_⟩⟩
  rw [add_at, World.cell?_alloc_new]
  simp [hj, List.getD_eq_getElem?_getD]
theorem lit_int (W : World) (g : Nat) (hg : g = W.heap.size) (xs : List Int) (hl : xs.length ≤ 9223372036854775807) : Kd.C (Kd.int .i64) (W.alloc (.cells (xs.map (Value.int .i64)).toArray 3)) (some ⟨g, 0, none⟩) xs.length xs := lit_of (Value.int .i64) 0 _ W 3 g hg xs hl
theorem lit_str (W : World) (g : Nat) (hg : g = W.heap.size) (xs : List ByteArray) (hl : xs.length ≤ 9223372036854775807) : Kd.C Kd.string (W.alloc (.cells (xs.map Value.string).toArray 9)) (some ⟨g, 0, none⟩) xs.length xs := lit_of Value.string ⟨#[]⟩ _ W 9 g hg xs hl
theorem nil_C {α : Type} (d : Kd α) (W : World) : Kd.C d W none ([] : List α).length [] := ⟨rfl, by simp, fun h => absurd h (by simp)⟩
theorem below_then' {w w1 w2 : World} (h : Below w.heap.size w w1) (k : Below w1.heap.size w1 w2) : Below w.heap.size w w2 := below_then h h.size k

set_option maxHeartbeats 1000000 in
set_option maxRecDepth 100000 in
theorem cleanselaw05_head.walk (w : World) (hG : GT w) : Calls Tryd.prog 10 #[] w fun e w' => e = .returned (.bool true) ∧ Below w.heap.size w w' := by
  have HG := Lib.hid hG
  clear hG
  go_enter Tryd.func10, Tryd.ntmps10
  have HB0 := Lib.hid (Below.refl w.heap.size w)
  go_wp2_with fail
  refine (Px.sketch_Make.calls 100 none 0 [] 3 _ _ _ (nil_C _ _) (Nat.le_refl _) e1).mono ?_
  rintro e w1 ⟨v1, rfl, hR, hb⟩
  have HB1 := Lib.hid (show Below w.heap.size w w1 from below_then (by repeat (first | exact HB0.out | apply below_alloc)) (Below.size (by repeat (first | exact HB0.out | apply below_alloc))) hb)
  clear hb HB0
  obtain ⟨A1, c1, rfl, hc1, hC⟩ := Kd.R_reads hR
  have HC1 := Lib.hid hC
  clear hC hR
  go_wp2_with fail
  refine (Px.sketch_Estimate.calls 100 _ 4 [1, 2, 3, 4] _ 4 [1, 5, 3, 4] _ _ _ _ (Kd.C_alloc (lit_int _ _ (by first | rfl | simp) [1, 2, 3, 4] (by decide)) _) (Nat.le_refl _) (lit_int _ _ (by first | rfl | simp) [1, 5, 3, 4] (by decide)) (Nat.le_refl _) e2).mono ?_
  rintro e w2 ⟨rfl, hb⟩
  have HB2 := Lib.hid (show Below w.heap.size w w2 from below_then (by repeat (first | exact HB1.out | apply below_alloc)) (Below.size (by repeat (first | exact HB1.out | apply below_alloc))) hb)
  have X_ := Lib.hid (show Kd.C (Kd.int .i64) w2 A1 ([-1, -1, -1] : List _).length [-1, -1, -1] from Kd.C_below (by repeat (first | exact HC1.out | refine Kd.C_alloc ?_ _)) hb)
  clear HC1
  have HC1 := X_
  clear X_
  clear hb HB1
  have hu31 := Tryd.underlying31
  go_wp2_with fail
  refine (Px.sketch_Bands.calls 100 _ 4 [7, 8, 9, 10] 2 _ _ _ (lit_int _ _ (by first | rfl | simp) [7, 8, 9, 10] (by decide)) (Nat.le_refl _) (GT.below HG.out (by repeat (first | exact HB2.out | apply below_alloc))) e3).mono ?_
  rintro e w3 ⟨v3, rfl, hR, hb⟩
  have HB3 := Lib.hid (show Below w.heap.size w w3 from below_then (by repeat (first | exact HB2.out | apply below_alloc)) (Below.size (by repeat (first | exact HB2.out | apply below_alloc))) hb)
  have X_ := Lib.hid (show Kd.C (Kd.int .i64) w3 A1 ([-1, -1, -1] : List _).length [-1, -1, -1] from Kd.C_below (by repeat (first | exact HC1.out | refine Kd.C_alloc ?_ _)) hb)
  clear HC1
  have HC1 := X_
  clear X_
  have BX0 := Lib.hid (show w3.cell? ⟨w2.heap.size, 0, none⟩ = some (.int .i64 3) from pw_cell_below hb (by simp))
  have BX1 := Lib.hid (show w3.cell? ⟨w2.heap.size, 1, none⟩ = some (.int .i64 4) from pw_cell_below hb (by simp))
  clear hb HB2
  obtain ⟨A3, c3, rfl, hc3, hC⟩ := Kd.R_reads hR
  have HC3 := Lib.hid hC
  clear hC hR
  go_wp2_with fail
  refine (Px.sketch_Make.calls 100 _ 1 [⟨#[97]⟩] 65 _ _ _ (lit_str _ _ (by first | rfl | simp) [⟨#[97]⟩] (by decide)) (Nat.le_refl _) e4).mono ?_
  rintro e w4 ⟨v4, rfl, hR, hb⟩
  have HB4 := Lib.hid (show Below w.heap.size w w4 from below_then (by repeat (first | exact HB3.out | apply below_alloc)) (Below.size (by repeat (first | exact HB3.out | apply below_alloc))) hb)
  have X_ := Lib.hid (show Kd.C (Kd.int .i64) w4 A1 ([-1, -1, -1] : List _).length [-1, -1, -1] from Kd.C_below (by repeat (first | exact HC1.out | refine Kd.C_alloc ?_ _)) hb)
  clear HC1
  have HC1 := X_
  clear X_
  have X_ := Lib.hid (show Kd.C Kd.string w4 A3 (([⟨#[48, 58, 55, 46, 56]⟩, ⟨#[49, 58, 57, 46, 49, 48]⟩] : List ByteArray) : List _).length ([⟨#[48, 58, 55, 46, 56]⟩, ⟨#[49, 58, 57, 46, 49, 48]⟩] : List ByteArray) from Kd.C_below (by repeat (first | exact HC3.out | refine Kd.C_alloc ?_ _)) hb)
  clear HC3
  have HC3 := X_
  clear X_
  have X_ := Lib.hid (pw_cell_below (show Below w3.heap.size w3 w4 from below_then' (by repeat (first | exact Below.refl _ _ | apply below_alloc)) hb) BX0.out)
  clear BX0
  have BX0 := X_
  clear X_
  have X_ := Lib.hid (pw_cell_below (show Below w3.heap.size w3 w4 from below_then' (by repeat (first | exact Below.refl _ _ | apply below_alloc)) hb) BX1.out)
  clear BX1
  have BX1 := X_
  clear X_
  clear hb HB3
  obtain ⟨A4, c4, rfl, hc4, hC⟩ := Kd.R_reads hR
  have HC4 := Lib.hid hC
  clear hC hR
  go_wp2_with fail
  refine (Px.sketch_Bands.calls 100 _ 3 [7, 8, 9] 2 _ _ _ (lit_int _ _ (by first | rfl | simp) [7, 8, 9] (by decide)) (Nat.le_refl _) (GT.below HG.out (by repeat (first | exact HB4.out | apply below_alloc))) e5).mono ?_
  rintro e w5 ⟨v5, rfl, hR, hb⟩
  have HB5 := Lib.hid (show Below w.heap.size w w5 from below_then (by repeat (first | exact HB4.out | apply below_alloc)) (Below.size (by repeat (first | exact HB4.out | apply below_alloc))) hb)
  have X_ := Lib.hid (show Kd.C (Kd.int .i64) w5 A1 ([-1, -1, -1] : List _).length [-1, -1, -1] from Kd.C_below (by repeat (first | exact HC1.out | refine Kd.C_alloc ?_ _)) hb)
  clear HC1
  have HC1 := X_
  clear X_
  have X_ := Lib.hid (show Kd.C Kd.string w5 A3 (([⟨#[48, 58, 55, 46, 56]⟩, ⟨#[49, 58, 57, 46, 49, 48]⟩] : List ByteArray) : List _).length ([⟨#[48, 58, 55, 46, 56]⟩, ⟨#[49, 58, 57, 46, 49, 48]⟩] : List ByteArray) from Kd.C_below (by repeat (first | exact HC3.out | refine Kd.C_alloc ?_ _)) hb)
  clear HC3
  have HC3 := X_
  clear X_
  have X_ := Lib.hid (show Kd.C (Kd.int .i64) w5 A4 ([] : List _).length [] from Kd.C_below (by repeat (first | exact HC4.out | refine Kd.C_alloc ?_ _)) hb)
  clear HC4
  have HC4 := X_
  clear X_
  have X_ := Lib.hid (pw_cell_below (show Below w4.heap.size w4 w5 from below_then' (by repeat (first | exact Below.refl _ _ | apply below_alloc)) hb) BX0.out)
  clear BX0
  have BX0 := X_
  clear X_
  have X_ := Lib.hid (pw_cell_below (show Below w4.heap.size w4 w5 from below_then' (by repeat (first | exact Below.refl _ _ | apply below_alloc)) hb) BX1.out)
  clear BX1
  have BX1 := X_
  clear X_
  clear hb HB4
  obtain ⟨A5, c5, rfl, hc5, hC⟩ := Kd.R_reads hR
  have HC5 := Lib.hid hC
  clear hC hR
  go_wp2_with fail
  refine (Px.sketch_Union.calls 100 _ 2 [1, -1] _ 2 [1, 1] _ _ _ (Kd.C_alloc (lit_int _ _ (by first | rfl | simp) [1, -1] (by decide)) _) (Nat.le_refl _) (lit_int _ _ (by first | rfl | simp) [1, 1] (by decide)) (Nat.le_refl _) e6).mono ?_
  rintro e w6 ⟨v6, rfl, hR, hb⟩
  have HB6 := Lib.hid (show Below w.heap.size w w6 from below_then (by repeat (first | exact HB5.out | apply below_alloc)) (Below.size (by repeat (first | exact HB5.out | apply below_alloc))) hb)
  have X_ := Lib.hid (show Kd.C (Kd.int .i64) w6 A1 ([-1, -1, -1] : List _).length [-1, -1, -1] from Kd.C_below (by repeat (first | exact HC1.out | refine Kd.C_alloc ?_ _)) hb)
  clear HC1
  have HC1 := X_
  clear X_
  have X_ := Lib.hid (show Kd.C Kd.string w6 A3 (([⟨#[48, 58, 55, 46, 56]⟩, ⟨#[49, 58, 57, 46, 49, 48]⟩] : List ByteArray) : List _).length ([⟨#[48, 58, 55, 46, 56]⟩, ⟨#[49, 58, 57, 46, 49, 48]⟩] : List ByteArray) from Kd.C_below (by repeat (first | exact HC3.out | refine Kd.C_alloc ?_ _)) hb)
  clear HC3
  have HC3 := X_
  clear X_
  have X_ := Lib.hid (show Kd.C (Kd.int .i64) w6 A4 ([] : List _).length [] from Kd.C_below (by repeat (first | exact HC4.out | refine Kd.C_alloc ?_ _)) hb)
  clear HC4
  have HC4 := X_
  clear X_
  have X_ := Lib.hid (show Kd.C Kd.string w6 A5 ([] : List _).length [] from Kd.C_below (by repeat (first | exact HC5.out | refine Kd.C_alloc ?_ _)) hb)
  clear HC5
  have HC5 := X_
  clear X_
  have X_ := Lib.hid (pw_cell_below (show Below w5.heap.size w5 w6 from below_then' (by repeat (first | exact Below.refl _ _ | apply below_alloc)) hb) BX0.out)
  clear BX0
  have BX0 := X_
  clear X_
  have X_ := Lib.hid (pw_cell_below (show Below w5.heap.size w5 w6 from below_then' (by repeat (first | exact Below.refl _ _ | apply below_alloc)) hb) BX1.out)
  clear BX1
  have BX1 := X_
  clear X_
  clear hb HB5
  obtain ⟨A6, c6, rfl, hc6, hC⟩ := Kd.R_reads hR
  have HC6 := Lib.hid hC
  clear hC hR
  go_wp2_with fail
  refine (Px.sketch_Union.calls 100 _ 2 [1, 9] _ 2 [5, 2] _ _ _ (Kd.C_alloc (lit_int _ _ (by first | rfl | simp) [1, 9] (by decide)) _) (Nat.le_refl _) (lit_int _ _ (by first | rfl | simp) [5, 2] (by decide)) (Nat.le_refl _) e7).mono ?_
  rintro e w7 ⟨v7, rfl, hR, hb⟩
  have HB7 := Lib.hid (show Below w.heap.size w w7 from below_then (by repeat (first | exact HB6.out | apply below_alloc)) (Below.size (by repeat (first | exact HB6.out | apply below_alloc))) hb)
  have X_ := Lib.hid (show Kd.C (Kd.int .i64) w7 A1 ([-1, -1, -1] : List _).length [-1, -1, -1] from Kd.C_below (by repeat (first | exact HC1.out | refine Kd.C_alloc ?_ _)) hb)
  clear HC1
  have HC1 := X_
  clear X_
  have X_ := Lib.hid (show Kd.C Kd.string w7 A3 (([⟨#[48, 58, 55, 46, 56]⟩, ⟨#[49, 58, 57, 46, 49, 48]⟩] : List ByteArray) : List _).length ([⟨#[48, 58, 55, 46, 56]⟩, ⟨#[49, 58, 57, 46, 49, 48]⟩] : List ByteArray) from Kd.C_below (by repeat (first | exact HC3.out | refine Kd.C_alloc ?_ _)) hb)
  clear HC3
  have HC3 := X_
  clear X_
  have X_ := Lib.hid (show Kd.C (Kd.int .i64) w7 A4 ([] : List _).length [] from Kd.C_below (by repeat (first | exact HC4.out | refine Kd.C_alloc ?_ _)) hb)
  clear HC4
  have HC4 := X_
  clear X_
  have X_ := Lib.hid (show Kd.C Kd.string w7 A5 ([] : List _).length [] from Kd.C_below (by repeat (first | exact HC5.out | refine Kd.C_alloc ?_ _)) hb)
  clear HC5
  have HC5 := X_
  clear X_
  have X_ := Lib.hid (show Kd.C (Kd.int .i64) w7 A6 ([] : List _).length [] from Kd.C_below (by repeat (first | exact HC6.out | refine Kd.C_alloc ?_ _)) hb)
  clear HC6
  have HC6 := X_
  clear X_
  have X_ := Lib.hid (pw_cell_below (show Below w6.heap.size w6 w7 from below_then' (by repeat (first | exact Below.refl _ _ | apply below_alloc)) hb) BX0.out)
  clear BX0
  have BX0 := X_
  clear X_
  have X_ := Lib.hid (pw_cell_below (show Below w6.heap.size w6 w7 from below_then' (by repeat (first | exact Below.refl _ _ | apply below_alloc)) hb) BX1.out)
  clear BX1
  have BX1 := X_
  clear X_
  clear hb HB6
  obtain ⟨A7, c7, rfl, hc7, hC⟩ := Kd.R_reads hR
  have HC7 := Lib.hid hC
  clear hC hR
  go_wp2_with fail
  refine (sketch_Hash.calls ⟨#[]⟩ 0 _ _ e8).mono ?_
  rintro e w8 ⟨rfl, hb⟩
  have HB8 := Lib.hid (show Below w.heap.size w w8 from below_then (by repeat (first | exact HB7.out | apply below_alloc)) (Below.size (by repeat (first | exact HB7.out | apply below_alloc))) hb)
  have X_ := Lib.hid (show Kd.C (Kd.int .i64) w8 A1 ([-1, -1, -1] : List _).length [-1, -1, -1] from Kd.C_below (by repeat (first | exact HC1.out | refine Kd.C_alloc ?_ _)) hb)
  clear HC1
  have HC1 := X_
  clear X_
  have X_ := Lib.hid (show Kd.C Kd.string w8 A3 (([⟨#[48, 58, 55, 46, 56]⟩, ⟨#[49, 58, 57, 46, 49, 48]⟩] : List ByteArray) : List _).length ([⟨#[48, 58, 55, 46, 56]⟩, ⟨#[49, 58, 57, 46, 49, 48]⟩] : List ByteArray) from Kd.C_below (by repeat (first | exact HC3.out | refine Kd.C_alloc ?_ _)) hb)
  clear HC3
  have HC3 := X_
  clear X_
  have X_ := Lib.hid (show Kd.C (Kd.int .i64) w8 A4 ([] : List _).length [] from Kd.C_below (by repeat (first | exact HC4.out | refine Kd.C_alloc ?_ _)) hb)
  clear HC4
  have HC4 := X_
  clear X_
  have X_ := Lib.hid (show Kd.C Kd.string w8 A5 ([] : List _).length [] from Kd.C_below (by repeat (first | exact HC5.out | refine Kd.C_alloc ?_ _)) hb)
  clear HC5
  have HC5 := X_
  clear X_
  have X_ := Lib.hid (show Kd.C (Kd.int .i64) w8 A6 ([] : List _).length [] from Kd.C_below (by repeat (first | exact HC6.out | refine Kd.C_alloc ?_ _)) hb)
  clear HC6
  have HC6 := X_
  clear X_
  have X_ := Lib.hid (show Kd.C (Kd.int .i64) w8 A7 ([1, 2] : List _).length [1, 2] from Kd.C_below (by repeat (first | exact HC7.out | refine Kd.C_alloc ?_ _)) hb)
  clear HC7
  have HC7 := X_
  clear X_
  have X_ := Lib.hid (pw_cell_below (show Below w7.heap.size w7 w8 from below_then' (by repeat (first | exact Below.refl _ _ | apply below_alloc)) hb) BX0.out)
  clear BX0
  have BX0 := X_
  clear X_
  have X_ := Lib.hid (pw_cell_below (show Below w7.heap.size w7 w8 from below_then' (by repeat (first | exact Below.refl _ _ | apply below_alloc)) hb) BX1.out)
  clear BX1
  have BX1 := X_
  clear X_
  clear hb HB7
  go_wp2_with fail
  refine (sketch_Hash.calls ⟨#[]⟩ 1 _ _ e9).mono ?_
  rintro e w9 ⟨rfl, hb⟩
  have HB9 := Lib.hid (show Below w.heap.size w w9 from below_then (by repeat (first | exact HB8.out | apply below_alloc)) (Below.size (by repeat (first | exact HB8.out | apply below_alloc))) hb)
  have X_ := Lib.hid (show Kd.C (Kd.int .i64) w9 A1 ([-1, -1, -1] : List _).length [-1, -1, -1] from Kd.C_below (by repeat (first | exact HC1.out | refine Kd.C_alloc ?_ _)) hb)
  clear HC1
  have HC1 := X_
  clear X_
  have X_ := Lib.hid (show Kd.C Kd.string w9 A3 (([⟨#[48, 58, 55, 46, 56]⟩, ⟨#[49, 58, 57, 46, 49, 48]⟩] : List ByteArray) : List _).length ([⟨#[48, 58, 55, 46, 56]⟩, ⟨#[49, 58, 57, 46, 49, 48]⟩] : List ByteArray) from Kd.C_below (by repeat (first | exact HC3.out | refine Kd.C_alloc ?_ _)) hb)
  clear HC3
  have HC3 := X_
  clear X_
  have X_ := Lib.hid (show Kd.C (Kd.int .i64) w9 A4 ([] : List _).length [] from Kd.C_below (by repeat (first | exact HC4.out | refine Kd.C_alloc ?_ _)) hb)
  clear HC4
  have HC4 := X_
  clear X_
  have X_ := Lib.hid (show Kd.C Kd.string w9 A5 ([] : List _).length [] from Kd.C_below (by repeat (first | exact HC5.out | refine Kd.C_alloc ?_ _)) hb)
  clear HC5
  have HC5 := X_
  clear X_
  have X_ := Lib.hid (show Kd.C (Kd.int .i64) w9 A6 ([] : List _).length [] from Kd.C_below (by repeat (first | exact HC6.out | refine Kd.C_alloc ?_ _)) hb)
  clear HC6
  have HC6 := X_
  clear X_
  have X_ := Lib.hid (show Kd.C (Kd.int .i64) w9 A7 ([1, 2] : List _).length [1, 2] from Kd.C_below (by repeat (first | exact HC7.out | refine Kd.C_alloc ?_ _)) hb)
  clear HC7
  have HC7 := X_
  clear X_
  have X_ := Lib.hid (pw_cell_below (show Below w8.heap.size w8 w9 from below_then' (by repeat (first | exact Below.refl _ _ | apply below_alloc)) hb) BX0.out)
  clear BX0
  have BX0 := X_
  clear X_
  have X_ := Lib.hid (pw_cell_below (show Below w8.heap.size w8 w9 from below_then' (by repeat (first | exact Below.refl _ _ | apply below_alloc)) hb) BX1.out)
  clear BX1
  have BX1 := X_
  clear X_
  clear hb HB8
  go_wp2_with fail
  refine (sketch_Hash.calls ⟨#[97]⟩ 0 _ _ e10).mono ?_
  rintro e w10 ⟨rfl, hb⟩
  have HB10 := Lib.hid (show Below w.heap.size w w10 from below_then (by repeat (first | exact HB9.out | apply below_alloc)) (Below.size (by repeat (first | exact HB9.out | apply below_alloc))) hb)
  have X_ := Lib.hid (show Kd.C (Kd.int .i64) w10 A1 ([-1, -1, -1] : List _).length [-1, -1, -1] from Kd.C_below (by repeat (first | exact HC1.out | refine Kd.C_alloc ?_ _)) hb)
  clear HC1
  have HC1 := X_
  clear X_
  have X_ := Lib.hid (show Kd.C Kd.string w10 A3 (([⟨#[48, 58, 55, 46, 56]⟩, ⟨#[49, 58, 57, 46, 49, 48]⟩] : List ByteArray) : List _).length ([⟨#[48, 58, 55, 46, 56]⟩, ⟨#[49, 58, 57, 46, 49, 48]⟩] : List ByteArray) from Kd.C_below (by repeat (first | exact HC3.out | refine Kd.C_alloc ?_ _)) hb)
  clear HC3
  have HC3 := X_
  clear X_
  have X_ := Lib.hid (show Kd.C (Kd.int .i64) w10 A4 ([] : List _).length [] from Kd.C_below (by repeat (first | exact HC4.out | refine Kd.C_alloc ?_ _)) hb)
  clear HC4
  have HC4 := X_
  clear X_
  have X_ := Lib.hid (show Kd.C Kd.string w10 A5 ([] : List _).length [] from Kd.C_below (by repeat (first | exact HC5.out | refine Kd.C_alloc ?_ _)) hb)
  clear HC5
  have HC5 := X_
  clear X_
  have X_ := Lib.hid (show Kd.C (Kd.int .i64) w10 A6 ([] : List _).length [] from Kd.C_below (by repeat (first | exact HC6.out | refine Kd.C_alloc ?_ _)) hb)
  clear HC6
  have HC6 := X_
  clear X_
  have X_ := Lib.hid (show Kd.C (Kd.int .i64) w10 A7 ([1, 2] : List _).length [1, 2] from Kd.C_below (by repeat (first | exact HC7.out | refine Kd.C_alloc ?_ _)) hb)
  clear HC7
  have HC7 := X_
  clear X_
  have X_ := Lib.hid (pw_cell_below (show Below w9.heap.size w9 w10 from below_then' (by repeat (first | exact Below.refl _ _ | apply below_alloc)) hb) BX0.out)
  clear BX0
  have BX0 := X_
  clear X_
  have X_ := Lib.hid (pw_cell_below (show Below w9.heap.size w9 w10 from below_then' (by repeat (first | exact Below.refl _ _ | apply below_alloc)) hb) BX1.out)
  clear BX1
  have BX1 := X_
  clear X_
  clear hb HB9
  go_wp2_with fail
  refine (Px.cleanseref05_Ints.calls 100 A1 c1 [-1, -1, -1] _ 3 [-1, -1, -1] _ _ (Kd.C_alloc HC1.out _) hc1 (lit_int _ _ (by first | rfl | simp) [-1, -1, -1] (by decide)) (Nat.le_refl _) e11).mono ?_
  rintro e w11 ⟨rfl, hd⟩
  have hb := hd.below
  have HB11 := Lib.hid (show Below w.heap.size w w11 from below_then (by repeat (first | exact HB10.out | apply below_alloc)) (Below.size (by repeat (first | exact HB10.out | apply below_alloc))) hb)
  have X_ := Lib.hid (show Kd.C (Kd.int .i64) w11 A1 ([-1, -1, -1] : List _).length [-1, -1, -1] from Kd.C_below (by repeat (first | exact HC1.out | refine Kd.C_alloc ?_ _)) hb)
  clear HC1
  have HC1 := X_
  clear X_
  have X_ := Lib.hid (show Kd.C Kd.string w11 A3 (([⟨#[48, 58, 55, 46, 56]⟩, ⟨#[49, 58, 57, 46, 49, 48]⟩] : List ByteArray) : List _).length ([⟨#[48, 58, 55, 46, 56]⟩, ⟨#[49, 58, 57, 46, 49, 48]⟩] : List ByteArray) from Kd.C_below (by repeat (first | exact HC3.out | refine Kd.C_alloc ?_ _)) hb)
  clear HC3
  have HC3 := X_
  clear X_
  have X_ := Lib.hid (show Kd.C (Kd.int .i64) w11 A4 ([] : List _).length [] from Kd.C_below (by repeat (first | exact HC4.out | refine Kd.C_alloc ?_ _)) hb)
  clear HC4
  have HC4 := X_
  clear X_
  have X_ := Lib.hid (show Kd.C Kd.string w11 A5 ([] : List _).length [] from Kd.C_below (by repeat (first | exact HC5.out | refine Kd.C_alloc ?_ _)) hb)
  clear HC5
  have HC5 := X_
  clear X_
  have X_ := Lib.hid (show Kd.C (Kd.int .i64) w11 A6 ([] : List _).length [] from Kd.C_below (by repeat (first | exact HC6.out | refine Kd.C_alloc ?_ _)) hb)
  clear HC6
  have HC6 := X_
  clear X_
  have X_ := Lib.hid (show Kd.C (Kd.int .i64) w11 A7 ([1, 2] : List _).length [1, 2] from Kd.C_below (by repeat (first | exact HC7.out | refine Kd.C_alloc ?_ _)) hb)
  clear HC7
  have HC7 := X_
  clear X_
  have X_ := Lib.hid (pw_cell_below (show Below w10.heap.size w10 w11 from below_then' (by repeat (first | exact Below.refl _ _ | apply below_alloc)) hb) BX0.out)
  clear BX0
  have BX0 := X_
  clear X_
  have X_ := Lib.hid (pw_cell_below (show Below w10.heap.size w10 w11 from below_then' (by repeat (first | exact Below.refl _ _ | apply below_alloc)) hb) BX1.out)
  clear BX1
  have BX1 := X_
  clear X_
  clear hb HB10 hd
  have x0 := BX0.out
  have x1 := BX1.out
  go_wp2_with fail
  refine (Px.cleanseref05_Strings.calls 100 A3 c3 ([⟨#[48, 58, 55, 46, 56]⟩, ⟨#[49, 58, 57, 46, 49, 48]⟩] : List ByteArray) _ 2 ([⟨#[48, 58, 55, 46, 56]⟩, ⟨#[49, 58, 57, 46, 49, 48]⟩] : List ByteArray) _ _ (Kd.C_alloc HC3.out _) hc3 (lit_str _ _ (by first | rfl | simp) ([⟨#[48, 58, 55, 46, 56]⟩, ⟨#[49, 58, 57, 46, 49, 48]⟩] : List ByteArray) (by decide)) (Nat.le_refl _) e13).mono ?_
  rintro e w12 ⟨rfl, hd⟩
  have hb := hd.below
  have HB12 := Lib.hid (show Below w.heap.size w w12 from below_then (by repeat (first | exact HB11.out | apply below_alloc)) (Below.size (by repeat (first | exact HB11.out | apply below_alloc))) hb)
  have X_ := Lib.hid (show Kd.C (Kd.int .i64) w12 A1 ([-1, -1, -1] : List _).length [-1, -1, -1] from Kd.C_below (by repeat (first | exact HC1.out | refine Kd.C_alloc ?_ _)) hb)
  clear HC1
  have HC1 := X_
  clear X_
  have X_ := Lib.hid (show Kd.C Kd.string w12 A3 (([⟨#[48, 58, 55, 46, 56]⟩, ⟨#[49, 58, 57, 46, 49, 48]⟩] : List ByteArray) : List _).length ([⟨#[48, 58, 55, 46, 56]⟩, ⟨#[49, 58, 57, 46, 49, 48]⟩] : List ByteArray) from Kd.C_below (by repeat (first | exact HC3.out | refine Kd.C_alloc ?_ _)) hb)
  clear HC3
  have HC3 := X_
  clear X_
  have X_ := Lib.hid (show Kd.C (Kd.int .i64) w12 A4 ([] : List _).length [] from Kd.C_below (by repeat (first | exact HC4.out | refine Kd.C_alloc ?_ _)) hb)
  clear HC4
  have HC4 := X_
  clear X_
  have X_ := Lib.hid (show Kd.C Kd.string w12 A5 ([] : List _).length [] from Kd.C_below (by repeat (first | exact HC5.out | refine Kd.C_alloc ?_ _)) hb)
  clear HC5
  have HC5 := X_
  clear X_
  have X_ := Lib.hid (show Kd.C (Kd.int .i64) w12 A6 ([] : List _).length [] from Kd.C_below (by repeat (first | exact HC6.out | refine Kd.C_alloc ?_ _)) hb)
  clear HC6
  have HC6 := X_
  clear X_
  have X_ := Lib.hid (show Kd.C (Kd.int .i64) w12 A7 ([1, 2] : List _).length [1, 2] from Kd.C_below (by repeat (first | exact HC7.out | refine Kd.C_alloc ?_ _)) hb)
  clear HC7
  have HC7 := X_
  clear X_
  have X_ := Lib.hid (pw_cell_below (show Below w11.heap.size w11 w12 from below_then' (by repeat (first | exact Below.refl _ _ | apply below_alloc)) hb) BX0.out)
  clear BX0
  have BX0 := X_
  clear X_
  have X_ := Lib.hid (pw_cell_below (show Below w11.heap.size w11 w12 from below_then' (by repeat (first | exact Below.refl _ _ | apply below_alloc)) hb) BX1.out)
  clear BX1
  have BX1 := X_
  clear X_
  clear hb HB11 hd
  go_wp2_with fail
  refine (Px.cleanseref05_Ints.calls 100 A7 c7 [1, 2] _ 2 [1, 2] _ _ (Kd.C_alloc HC7.out _) hc7 (lit_int _ _ (by first | rfl | simp) [1, 2] (by decide)) (Nat.le_refl _) e12).mono ?_
  rintro e w13 ⟨rfl, hd⟩
  have hb := hd.below
  have HB13 := Lib.hid (show Below w.heap.size w w13 from below_then (by repeat (first | exact HB12.out | apply below_alloc)) (Below.size (by repeat (first | exact HB12.out | apply below_alloc))) hb)
  have X_ := Lib.hid (show Kd.C (Kd.int .i64) w13 A1 ([-1, -1, -1] : List _).length [-1, -1, -1] from Kd.C_below (by repeat (first | exact HC1.out | refine Kd.C_alloc ?_ _)) hb)
  clear HC1
  have HC1 := X_
  clear X_
  have X_ := Lib.hid (show Kd.C Kd.string w13 A3 (([⟨#[48, 58, 55, 46, 56]⟩, ⟨#[49, 58, 57, 46, 49, 48]⟩] : List ByteArray) : List _).length ([⟨#[48, 58, 55, 46, 56]⟩, ⟨#[49, 58, 57, 46, 49, 48]⟩] : List ByteArray) from Kd.C_below (by repeat (first | exact HC3.out | refine Kd.C_alloc ?_ _)) hb)
  clear HC3
  have HC3 := X_
  clear X_
  have X_ := Lib.hid (show Kd.C (Kd.int .i64) w13 A4 ([] : List _).length [] from Kd.C_below (by repeat (first | exact HC4.out | refine Kd.C_alloc ?_ _)) hb)
  clear HC4
  have HC4 := X_
  clear X_
  have X_ := Lib.hid (show Kd.C Kd.string w13 A5 ([] : List _).length [] from Kd.C_below (by repeat (first | exact HC5.out | refine Kd.C_alloc ?_ _)) hb)
  clear HC5
  have HC5 := X_
  clear X_
  have X_ := Lib.hid (show Kd.C (Kd.int .i64) w13 A6 ([] : List _).length [] from Kd.C_below (by repeat (first | exact HC6.out | refine Kd.C_alloc ?_ _)) hb)
  clear HC6
  have HC6 := X_
  clear X_
  have X_ := Lib.hid (show Kd.C (Kd.int .i64) w13 A7 ([1, 2] : List _).length [1, 2] from Kd.C_below (by repeat (first | exact HC7.out | refine Kd.C_alloc ?_ _)) hb)
  clear HC7
  have HC7 := X_
  clear X_
  have X_ := Lib.hid (pw_cell_below (show Below w12.heap.size w12 w13 from below_then' (by repeat (first | exact Below.refl _ _ | apply below_alloc)) hb) BX0.out)
  clear BX0
  have BX0 := X_
  clear X_
  have X_ := Lib.hid (pw_cell_below (show Below w12.heap.size w12 w13 from below_then' (by repeat (first | exact Below.refl _ _ | apply below_alloc)) hb) BX1.out)
  clear BX1
  have BX1 := X_
  clear X_
  clear hb HB12 hd
  go_wp2_with fail
  go_ret
  exact ⟨rfl, HB13.out⟩
def cleanselaw05_head.f : Option Bool := some true
theorem cleanselaw05_head.calls (r : Bool) (w : World) (hG : GT w) (h : cleanselaw05_head.f = some r) :
    Calls Tryd.prog 10 #[] w fun e w' => e = .returned (.bool r) ∧ Below w.heap.size w w' := by
  obtain rfl := Option.some.inj h
  exact cleanselaw05_head.walk w hG
end Go.Proofs.YtiobkccmgigmhaaDoor.X
