/- seal.Get: its contract in the form of the printed ones. -/
import Derived.Test.YtgblfdfagppejaaDoorX0
import Derived.Test.YtgblfdfagppejaaDoorPx1
import Derived.Test.YtgblfdfagppejaaDoorPx11
import Derived.Lib.ConvBytes
set_option linter.unusedVariables false
set_option linter.unusedSimpArgs false
namespace Go.Proofs.YtgblfdfagppejaaDoor.X
open Go.RowKit Go.Proofs.YtgblfdfagppejaaDoorW.PrintWords Go.Proofs.YtgblfdfagppejaaDoorW.PrintLast Go.Proofs.YtgblfdfagppejaaDoorW.PrintMore

theorem below_then' {w w1 w2 : World} (h : Below w.heap.size w w1) (k : Below w1.heap.size w1 w2) : Below w.heap.size w w2 := below_then h h.size k
theorem toList_inj {a b : ByteArray} : a.toList = b.toList ↔ a = b := by
  constructor
  · intro h
    have h2 : a.data.toList = b.data.toList := by simpa [ByteArray.toList_eq] using h
    cases a; cases b; congr; exact Array.ext' h2
  · intro h; rw [h]
def getCut (s : ByteArray) (i j : Nat) : List Int := ((bytesOf s).take j).drop i
def seal_GetK (k : Nat) (a0 a1 : Int) (a2 : ByteArray) : Option (ByteArray × Int) :=
  (Px.seal_placed.f a0 a1).bind fun t =>
    if t = true then
      (if (a2.size : Int) = 64 then
        (Px.seal_read.f k (getCut a2 0 8)).bind fun x => (Px.seal_read.f k (getCut a2 8 12)).bind fun y => (Px.seal_read.f k (getCut a2 12 16)).bind fun z =>
          (if x.2 = true ∧ y.2 = true ∧ z.2 = true ∧ z.1 ≤ 40 then
            (if 0 ≤ z.1 then
              (Px.seal_Put.f k x.1 y.1 (a2.extract 16 (16 + z.1).toNat)).bind fun p =>
                (if p.2 = 0 ∧ p.1 = a2 then (if x.1 = a0 ∧ y.1 = a1 then some (a2.extract 16 (16 + z.1).toNat, 0) else some (⟨#[]⟩, 21)) else some (⟨#[]⟩, 20))
            else none)
          else some (⟨#[]⟩, 20))
      else some (⟨#[]⟩, 20))
    else some (⟨#[]⟩, 1)
theorem conv_any (s : ByteArray) (w : World) : ∃ w1 c, (convert 9 35 (.string s)).run Tryd.prog w = .ok (.slice (some ⟨w.heap.size, 0, none⟩) s.size c) w1 ∧ s.size ≤ c ∧ Below w.heap.size w w1 ∧ ∀ j, j < s.size → w1.cell? ⟨w.heap.size, j, none⟩ = some (.int .u8 (s.data.toList.getD j 0).toNat) := by
  refine ⟨_, _, Lib.run_convert_string_bytes (P := Tryd.prog) w 9 35 5 s Tryd.underlying9 Tryd.underlying35 Tryd.underlying5, ?_, ⟨rfl, rfl, rfl, ?_, ?_⟩, fun j hj => Lib.bytesWorld_cell w 5 s j hj⟩
  · exact grownCap_ge _ _ _ _
  · rw [Lib.bytesWorld_size]; omega
  · intro i hi
    exact Lib.bytesWorld_at_old w 5 s i hi
theorem cut_C (s : ByteArray) (g : Nat) (w : World) (hc : ∀ j, j < s.size → w.cell? ⟨g, j, none⟩ = some (.int .u8 (s.data.toList.getD j 0).toNat)) (i j n : Nat) (hij : i + n = j) (hj : j ≤ s.size) (hs : s.size ≤ 100) :
    (getCut s i j).length = n ∧ Kd.C (Kd.int .u8) w (some ⟨g, i, none⟩) (getCut s i j).length (getCut s i j) := by
  have hl0 : (bytesOf s).length = s.size := by unfold bytesOf; rw [List.length_map, Array.length_toList]; rfl
  have hl : (getCut s i j).length = n := by unfold getCut; rw [List.length_drop, List.length_take]; omega
  refine ⟨hl, Kd.C_of_reads (d := 0) ⟨rfl, by omega, fun _ => ⟨_, rfl, fun q hq => ?_⟩⟩⟩
  rw [add_at, hc (i + q) (by omega)]
  have h1 : i + q < s.data.toList.length := by rw [Array.length_toList]; show i + q < s.size; omega
  congr 2
  unfold getCut bytesOf
  simp only [List.getD_eq_getElem?_getD]
  rw [List.getElem?_drop, List.getElem?_take_of_lt (by omega), List.getElem?_map, List.getElem?_eq_getElem h1]
  rfl
theorem ret2 {a b : ByteArray} {c d : Int} (h : a = b) (h2 : c = d) : Ending.returned (.tuple #[.string a, .int .i64 c]) = .returned (.tuple #[.string b, .int .i64 d]) := by rw [h, h2]
set_option maxHeartbeats 1000000 in
set_option maxRecDepth 100000 in
theorem get_any (k : Nat) (a0 a1 : Int) (a2 : ByteArray) (r1 : ByteArray) (r2 : Int) (w : World) (h : seal_GetK k a0 a1 a2 = some (r1, r2)) :
    Calls Tryd.prog 13 #[.int .i64 a0, .int .i64 a1, .string a2] w fun e w' => e = .returned (.tuple #[.string r1, .int .i64 r2]) ∧ Below w.heap.size w w' := by
  unfold seal_GetK at h
  obtain ⟨t, ht, h0_⟩ := Option.bind_eq_some_iff.1 h
  clear h
  have h := h0_
  clear h0_
  have HP := Lib.hid (Px.seal_placed.calls a0 a1 t w ht)
  clear ht
  cases t with
  | false =>
    rw [if_neg (by decide)] at h
    cases h
    go_enter Tryd.func13, Tryd.ntmps13
    go_wp2_with fail
    refine HP.out.mono ?_
    rintro e w1 ⟨rfl, hd⟩
    go_wp2_with fail
    go_ret2
    exact ⟨rfl, hd.below⟩
  | true =>
  rw [if_pos rfl] at h
  by_cases hs : ¬ (a2.size : Int) = 64
  · rw [if_neg hs] at h
    cases h
    have h1 : ((a2.size : Int) == 64) = false := beq_eq_false_iff_ne.2 hs
    have h2 : ((a2.size : Int) != 64) = true := bne_iff_ne.2 hs
    go_enter Tryd.func13, Tryd.ntmps13
    go_wp2_with fail
    refine HP.out.mono ?_
    rintro e w1 ⟨rfl, hd⟩
    go_wp2_with fail
    go_ret2
    exact ⟨rfl, hd.below⟩
  have hs' : (a2.size : Int) = 64 := Decidable.not_not.1 hs
  rw [if_pos hs'] at h
  obtain ⟨⟨x, xb⟩, hx, h1_⟩ := Option.bind_eq_some_iff.1 h
  clear h
  obtain ⟨⟨y, yb⟩, hy, h2_⟩ := Option.bind_eq_some_iff.1 h1_
  clear h1_
  obtain ⟨⟨z, zb⟩, hz, h⟩ := Option.bind_eq_some_iff.1 h2_
  clear h2_
  simp only at h
  have HX := Lib.hid hx
  have HY := Lib.hid hy
  have HZ := Lib.hid hz
  have H := Lib.hid h
  clear hx hy hz h hs
  have h1 : ((a2.size : Int) == 64) = true := beq_iff_eq.2 hs'
  have h2 : ((a2.size : Int) != 64) = false := by rw [hs']; rfl
  have hsz : a2.size = 64 := by omega
  go_enter Tryd.func13, Tryd.ntmps13
  go_wp2_with fail
  refine HP.out.mono ?_
  rintro e w1 ⟨rfl, hd⟩
  have HB := Lib.hid hd.below
  clear hd HP
  obtain ⟨w2, c, hcv, hcap, hb, hc⟩ := conv_any a2 w1
  have HB2 := Lib.hid (below_then' HB.out hb)
  clear hb HB
  generalize hg : w1.heap.size = g at *
  have HC1 := Lib.hid (cut_C a2 g w2 hc 0 8 8 rfl (by omega) (by omega))
  have HC2 := Lib.hid (cut_C a2 g w2 hc 8 12 4 rfl (by omega) (by omega))
  have HC3 := Lib.hid (cut_C a2 g w2 hc 12 16 4 rfl (by omega) (by omega))
  clear hc
  have hc0 : (64 : Int) ≤ (c : Int) := by omega
  have hc1 : (8 : Int) ≤ (c : Int) := by omega
  have hc2 : (12 : Int) ≤ (c : Int) := by omega
  have hc3 : (16 : Int) ≤ (c : Int) := by omega
  have rd1 : ∀ W, Kd.C (Kd.int .u8) W (some ⟨g, 0, none⟩) (getCut a2 0 8).length (getCut a2 0 8) → Calls Tryd.prog 26 #[.slice (some ⟨g, 0, none⟩) 8 8] W fun e w' => e = .returned (.tuple #[.int .i64 x, .bool xb]) ∧ Drawn0 W w' := fun W hC => by
    have h := Px.seal_read.calls k (some ⟨g, 0, none⟩) 8 (getCut a2 0 8) x xb W hC (by rw [HC1.out.1]; exact Nat.le_refl _) HX.out
    rw [HC1.out.1] at h; exact h
  have rd2 : ∀ W, Kd.C (Kd.int .u8) W (some ⟨g, 8, none⟩) (getCut a2 8 12).length (getCut a2 8 12) → Calls Tryd.prog 26 #[.slice (some ⟨g, 8, none⟩) 4 4] W fun e w' => e = .returned (.tuple #[.int .i64 y, .bool yb]) ∧ Drawn0 W w' := fun W hC => by
    have h := Px.seal_read.calls k (some ⟨g, 8, none⟩) 4 (getCut a2 8 12) y yb W hC (by rw [HC2.out.1]; exact Nat.le_refl _) HY.out
    rw [HC2.out.1] at h; exact h
  have rd3 : ∀ W, Kd.C (Kd.int .u8) W (some ⟨g, 12, none⟩) (getCut a2 12 16).length (getCut a2 12 16) → Calls Tryd.prog 26 #[.slice (some ⟨g, 12, none⟩) 4 4] W fun e w' => e = .returned (.tuple #[.int .i64 z, .bool zb]) ∧ Drawn0 W w' := fun W hC => by
    have h := Px.seal_read.calls k (some ⟨g, 12, none⟩) 4 (getCut a2 12 16) z zb W hC (by rw [HC3.out.1]; exact Nat.le_refl _) HZ.out
    rw [HC3.out.1] at h; exact h
  have R1 := Lib.hid rd1
  have R2 := Lib.hid rd2
  have R3 := Lib.hid rd3
  clear rd1 rd2 rd3 HX HY HZ
  go_wp2_with fail
  refine (R1.out _ HC1.out.2).mono ?_
  rintro e w3 ⟨rfl, ⟨m1, rfl⟩⟩
  go_wp2_with fail
  refine (R2.out _ (Kd.C_drewN HC2.out.2 _)).mono ?_
  rintro e w3 ⟨rfl, ⟨m2, rfl⟩⟩
  go_wp2_with fail
  refine (R3.out _ (by repeat (first | exact HC3.out.2 | refine Kd.C_drewN ?_ _))).mono ?_
  rintro e w3 ⟨rfl, ⟨m3, rfl⟩⟩
  have HB3 := Lib.hid (show Below w.heap.size w (w2.drewN (m1 + m2 + m3)) from pw_below_drewN HB2.out _)
  clear R1 R2 R3 HC1 HC2 HC3 hcv hc0 hc1 hc2 hc3 hcap HB2
  cases xb with
  | false =>
    have h := H.out
    rw [if_neg (by simp)] at h
    cases h
    go_wp2_with fail
    go_ret2
    exact ⟨rfl, HB3.out⟩
  | true =>
  cases yb with
  | false =>
    have h := H.out
    rw [if_neg (by simp)] at h
    cases h
    go_wp2_with fail
    go_ret2
    exact ⟨rfl, HB3.out⟩
  | true =>
  cases zb with
  | false =>
    have h := H.out
    rw [if_neg (by simp)] at h
    cases h
    go_wp2_with fail
    go_ret2
    exact ⟨rfl, HB3.out⟩
  | true =>
  by_cases hz : ¬ z ≤ 40
  · have hd : decide (40 < z) = true := decide_eq_true (by omega)
    have h := H.out
    rw [if_neg (fun h => hz h.2.2.2)] at h
    cases h
    clear hz
    go_wp2_with fail
    go_ret2
    exact ⟨rfl, HB3.out⟩
  have hz' : z ≤ 40 := Decidable.not_not.1 hz
  have hd : decide (40 < z) = false := decide_eq_false (by omega)
  have h := H.out
  rw [if_pos ⟨rfl, rfl, rfl, hz'⟩] at h
  clear hz H
  by_cases h0 : ¬ 0 ≤ z
  · rw [if_neg h0] at h; cases h
  have hz0 : 0 ≤ z := Decidable.not_not.1 h0
  rw [if_pos hz0] at h
  clear h0
  obtain ⟨⟨p, q⟩, hp, hh⟩ := Option.bind_eq_some_iff.1 h
  clear h
  simp only at hh
  have HPU := Lib.hid hp
  have H := Lib.hid hh
  clear hp hh
  have hw : wrap64 (16 + z) = 16 + z := by unfold wrap64; omega
  have hbz : (a2.extract 16 (16 + z).toNat).size ≤ 40 := by rw [ByteArray.size_extract]; omega
  have hsl : ∀ W : World, (Instr.slice 9 (.string a2) (some (.int .i64 16)) (some (.int .i64 (16 + z))) none).run Tryd.prog W = .ok (.string (a2.extract 16 (16 + z).toNat)) W := fun W =>
    run_slice_string (P := Tryd.prog) (w := W) 9 a2 .i64 .i64 16 (16 + z) Tryd.underlying9 (by omega) (by omega) (by omega)
  generalize a2.extract 16 (16 + z).toNat = body at *
  go_wp2_with fail
  refine (Px.seal_Put.calls k x y body p q _ HPU.out).mono ?_
  rintro e w4 ⟨rfl, hb4⟩
  have HB4 := Lib.hid (below_then' HB3.out hb4)
  clear hb4 HB3 hsl hw
  by_cases hq : ¬ q = 0
  · have h := H.out
    rw [if_neg (fun h => hq h.1)] at h
    cases h
    have hd1 : (q == 0) = false := beq_eq_false_iff_ne.2 hq
    have hd2 : (q != 0) = true := bne_iff_ne.2 hq
    go_wp2_with fail
    go_ret2
    exact ⟨rfl, HB4.out⟩
  obtain rfl : q = 0 := Decidable.not_not.1 hq
  clear hq
  by_cases hp : ¬ p = a2
  · have h := H.out
    rw [if_neg (fun h => hp h.2)] at h
    cases h
    have hd0 : ¬ p.toList = a2.toList := fun e => hp (toList_inj.1 e)
    have hd1 : (p.toList == a2.toList) = false := beq_eq_false_iff_ne.2 hd0
    have hd2 : (p.toList != a2.toList) = true := bne_iff_ne.2 hd0
    go_wp2_with fail
    go_ret2
    exact ⟨rfl, HB4.out⟩
  obtain rfl : p = a2 := Decidable.not_not.1 hp
  clear hp
  have h := H.out
  rw [if_pos ⟨rfl, rfl⟩] at h
  clear H
  by_cases he : ¬ x = a0
  · rw [if_neg (fun h => he h.1)] at h
    cases h
    have hd1 : (x == a0) = false := beq_eq_false_iff_ne.2 he
    have hd2 : (x != a0) = true := bne_iff_ne.2 he
    go_wp2_with fail
    go_ret2
    exact ⟨rfl, HB4.out⟩
  obtain rfl : x = a0 := Decidable.not_not.1 he
  clear he
  by_cases he : ¬ y = a1
  · rw [if_neg (fun h => he h.2)] at h
    cases h
    have hd1 : (y == a1) = false := beq_eq_false_iff_ne.2 he
    have hd2 : (y != a1) = true := bne_iff_ne.2 he
    go_wp2_with fail
    go_ret2
    exact ⟨rfl, HB4.out⟩
  obtain rfl : y = a1 := Decidable.not_not.1 he
  clear he
  rw [if_pos ⟨rfl, rfl⟩] at h
  cases h
  go_wp2_with fail
  go_ret2
  exact ⟨rfl, HB4.out⟩
def seal_Get.f (a0 a1 : Int) (a2 : ByteArray) : Option (ByteArray × Int) := seal_GetK 1000 a0 a1 a2
theorem seal_Get.calls (a0 : Int) (a1 : Int) (a2 : ByteArray) (r1 : ByteArray) (r2 : Int) (w : World) (h : seal_Get.f a0 a1 a2 = some (r1, r2)) :
    Calls Tryd.prog 13 #[.int .i64 a0, .int .i64 a1, .string a2] w fun e w' => e = .returned (.tuple #[.string r1, .int .i64 r2]) ∧ Below w.heap.size w w' :=
  get_any 1000 a0 a1 a2 r1 r2 w h
end Go.Proofs.YtgblfdfagppejaaDoor.X
