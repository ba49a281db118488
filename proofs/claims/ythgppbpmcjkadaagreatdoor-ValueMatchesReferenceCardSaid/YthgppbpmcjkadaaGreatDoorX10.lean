/- The head of the statements: its examples hold. -/
import Derived.Test.YthgppbpmcjkadaaGreatDoorX14
import Derived.Test.YthgppbpmcjkadaaGreatDoorX9
import Derived.Test.YthgppbpmcjkadaaGreatDoorPx11 -- F cleanselaw02_number
import Derived.Test.YthgppbpmcjkadaaGreatDoorPx15 -- F cleanselaw02_text
import Derived.Test.YthgppbpmcjkadaaGreatDoorPx16 -- F cleanselaw02_day
import Derived.Test.YthgppbpmcjkadaaGreatDoorPx1
import Derived.Deep.RegionHeld3
set_option linter.unusedVariables false
set_option linter.unusedSimpArgs false
namespace Go.Proofs.YthgppbpmcjkadaaGreatDoor.X
open Go.RowKit Go.Proofs.YthgppbpmcjkadaaGreatDoorW.PrintWords Go.Proofs.YthgppbpmcjkadaaGreatDoorW.PrintLast Go.Proofs.YthgppbpmcjkadaaGreatDoorW.PrintMore
attribute [local go_sem high] Px.eqA23
theorem itoa_12 : Lib.itoa 12 = [49, 50] := by
  rw [show Lib.itoa 12 = Lib.decDigits 12 from rfl, Lib.decDigits_two (by omega) (by omega)]; rfl
theorem itoa_7 : Lib.itoa 7 = [55] := by
  rw [show Lib.itoa 7 = Lib.decDigits 7 from rfl, Lib.decDigits_one (by omega)]; rfl
theorem parse_d12 : parseR [64, 49, 50] = (3, 12, bs [], 0) := by
  have h := parse_text (k := 3) (n := 12) (t := []) (by decide)
  have e : textL 3 12 [] = [64, 49, 50] := by
    have h1 : textL 3 12 [] = 64 :: Lib.itoa 12 := by
      unfold textL
      rw [if_pos (show validZ 3 12 [] = true by decide), if_neg (by decide), if_neg (by decide), if_pos rfl]
    rw [h1, itoa_12]
  rw [e] at h
  unfold parseR
  rw [h]
theorem parse_12 : parseR [49, 50] = (2, 12, bs [], 0) := by
  have h := parse_text (k := 2) (n := 12) (t := []) (by decide)
  have e : textL 2 12 [] = [49, 50] := by
    have h1 : textL 2 12 [] = Lib.itoa 12 := by
      unfold textL
      rw [if_pos (show validZ 2 12 [] = true by decide), if_neg (by decide), if_pos rfl]
    rw [h1, itoa_12]
  rw [e] at h
  unfold parseR
  rw [h]
theorem parse_007 : parseR [48, 48, 55] = (0, 0, bs [], 4) := by
  have h : decZ [48, 48, 55] = (7, false) := by
    unfold decZ
    rw [show Lib.atoiAll [48, 48, 55] = .ok 7 from rfl]
    simp only [itoa_7]
    rfl
  unfold parseR parseZ
  rw [if_neg (by decide), if_neg (by decide), if_neg (by decide), if_neg (by decide), if_neg (by decide), h, if_neg (by decide)]
theorem cast_1 : castR 1 0 ⟨#[49, 50]⟩ 2 = (2, 12, bs [], 0) := by
  have e : parseR (⟨#[49, 50]⟩ : ByteArray).data.toList = (2, 12, bs [], 0) := parse_12
  unfold castR
  rw [if_neg (by decide), if_neg (by decide), if_neg (by decide), if_neg (by decide), if_neg (by decide), if_neg (by decide), if_pos rfl, e, if_pos rfl, if_pos rfl]
theorem cast_2 : castR 1 0 ⟨#[64, 49, 50]⟩ 2 = (0, 0, bs [], 15) := by
  have e : parseR (⟨#[64, 49, 50]⟩ : ByteArray).data.toList = (3, 12, bs [], 0) := parse_d12
  unfold castR
  rw [if_neg (by decide), if_neg (by decide), if_neg (by decide), if_neg (by decide), if_neg (by decide), if_neg (by decide), if_pos rfl, e, if_pos rfl, if_neg (by decide)]
theorem cast_3 : castR 2 (-1) ⟨#[]⟩ 3 = (0, 0, bs [], 15) := by
  unfold castR
  rw [if_neg (by decide), if_neg (by decide), if_neg (by decide), if_neg (by decide), if_neg (by decide), if_neg (by decide), if_neg (by decide), if_neg (by decide), if_neg (by decide), if_neg (by decide)]
theorem cast_4 : castR 2 12 ⟨#[]⟩ 4 = (0, 0, bs [], 10) := by
  unfold castR
  rw [if_neg (by decide), if_neg (by decide), if_neg (by decide), if_neg (by decide), if_neg (by decide), if_neg (by decide), if_neg (by decide), if_neg (by decide), if_pos rfl]
theorem cast_5 : castR 2 12 ⟨#[]⟩ 0 = (0, 0, bs [], 1) := by
  unfold castR
  rw [if_neg (by decide), if_pos (by decide)]
theorem text_1 : textL 1 0 [97, 34, 98] = [34, 97, 92, 34, 98, 34] := by decide
theorem test_1a : testZ 2 3 (⟨#[]⟩ : ByteArray).data.toList 3 2 1 (⟨#[]⟩ : ByteArray).data.toList 3 = true := by decide
theorem test_2a : testZ 0 0 (⟨#[]⟩ : ByteArray).data.toList 1 0 0 (⟨#[]⟩ : ByteArray).data.toList 0 = false := by decide
theorem cmp_a : cmpZ 2 9 (⟨#[]⟩ : ByteArray).data.toList 3 0 (⟨#[]⟩ : ByteArray).data.toList = -1 := by decide
theorem val_a : validZ 3 73049 (⟨#[]⟩ : ByteArray).data.toList = false := by decide
def HeadPost (w : World) (e : Ending) (w' : World) : Prop := e = .returned (.bool true) ∧ Below w.heap.size w w'
/-- A block of three cells, known at a world and kept. -/
theorem keep1 {W w1 : World} (hb : Below W.heap.size W w1) {N : Nat} {o : Obj} (h : W.heap[N]? = some o) : w1.heap[N]? = some o := (hb.block N (h_lt h)).trans h
theorem keepA {W : World} {N : Nat} {o o' : Obj} (h : W.heap[N]? = some o) : (W.alloc o').heap[N]? = some o := (Below.heap_alloc _ _ _ (h_lt h)).trans h
/-- What is held of the world in the first drawn statement. -/
def HS (w W : World) (A B : Nat) : Prop := Below w.heap.size w W ∧ W.heap[A]? = some (.cells #[.int .i64 3, .int .i64 12, .string ⟨#[]⟩] 23 (0, 0)) ∧ W.heap[B]? = some (.cells #[.int .i64 2, .int .i64 12, .string ⟨#[]⟩] 23 (0, 0))
theorem hs_all {w W : World} {A B : Nat} (h : HS w W A B) : W.cell? ⟨A, 0, none⟩ = some (.int .i64 3) ∧ W.cell? ⟨A, 1, none⟩ = some (.int .i64 12) ∧ W.cell? ⟨A, 2, none⟩ = some (.string ⟨#[]⟩) ∧ W.cell? ⟨B, 0, none⟩ = some (.int .i64 2) ∧ W.cell? ⟨B, 1, none⟩ = some (.int .i64 12) ∧ W.cell? ⟨B, 2, none⟩ = some (.string ⟨#[]⟩) ∧ HS w W A B := by
  have h1 := (h_cells h.2.1).1
  have h2 := (h_cells h.2.2).1
  exact ⟨h1.1, h1.2.1, h1.2.2, h2.1, h2.2.1, h2.2.2, h⟩
theorem hs_step {w W W' : World} {A B : Nat} (h : W.cell? ⟨A, 0, none⟩ = some (.int .i64 3) ∧ W.cell? ⟨A, 1, none⟩ = some (.int .i64 12) ∧ W.cell? ⟨A, 2, none⟩ = some (.string ⟨#[]⟩) ∧ W.cell? ⟨B, 0, none⟩ = some (.int .i64 2) ∧ W.cell? ⟨B, 1, none⟩ = some (.int .i64 12) ∧ W.cell? ⟨B, 2, none⟩ = some (.string ⟨#[]⟩) ∧ HS w W A B) (hb : Below W.heap.size W W') : W'.cell? ⟨A, 0, none⟩ = some (.int .i64 3) ∧ W'.cell? ⟨A, 1, none⟩ = some (.int .i64 12) ∧ W'.cell? ⟨A, 2, none⟩ = some (.string ⟨#[]⟩) ∧ W'.cell? ⟨B, 0, none⟩ = some (.int .i64 2) ∧ W'.cell? ⟨B, 1, none⟩ = some (.int .i64 12) ∧ W'.cell? ⟨B, 2, none⟩ = some (.string ⟨#[]⟩) ∧ HS w W' A B := by
  have hs := h.2.2.2.2.2.2
  exact hs_all ⟨hs.1.trans (hb.mono hs.1.size), keep1 hb hs.2.1, keep1 hb hs.2.2⟩
set_option maxRecDepth 100000 in
set_option maxHeartbeats 8000000 in
theorem head_any (w : World) (hG : GT w) : Calls Tryz.prog 11 #[] w fun e w' => HeadPost w e w' := by
  have HG := Lib.hid hG
  clear hG
  have HB0 := Lib.hid (Below.refl w.heap.size w)
  go_enter Tryz.func11, Tryz.ntmps11
  go_wp2_with fail

  refine (value_Parse.calls ⟨#[64, 49, 50]⟩ 3 12 ⟨#[]⟩ 0 _ (GT.below HG.out HB0.out) (by unfold value_Parse.f; rw [if_pos (by decide)]; exact congrArg some parse_d12)).mono ?_
  rintro e w1 ⟨rfl, hb⟩
  have HB1 := Lib.hid (HB0.out.trans (hb.mono HB0.out.size))
  clear hb
  go_wp2_with fail
  have KA := Lib.hid (heap_new w1 (.cells #[.int .i64 (3), .int .i64 (12), .string ⟨#[]⟩] 23))
  have HB1a := Lib.hid (HB1.out.alloc HB1.out.size (.cells #[.int .i64 (3), .int .i64 (12), .string ⟨#[]⟩] 23))
  refine (value_Parse.calls ⟨#[48, 48, 55]⟩ 0 0 ⟨#[]⟩ 4 _ (GT.below HG.out HB1a.out) (by unfold value_Parse.f; rw [if_pos (by decide)]; exact congrArg some parse_007)).mono ?_
  rintro e w2 ⟨rfl, hb⟩
  have K_ := Lib.hid (keep1 hb KA.out)
  clear KA
  have KA := K_
  clear K_
  have HB2 := Lib.hid (HB1a.out.trans (hb.mono HB1a.out.size))
  clear hb
  go_wp2_with fail
  have K_ := Lib.hid (keepA (o' := .cells #[.int .i64 (0), .int .i64 (0), .string ⟨#[]⟩] 23) KA.out)
  clear KA
  have KA := K_
  clear K_
  have HB2a := Lib.hid (HB2.out.alloc HB2.out.size (.cells #[.int .i64 (0), .int .i64 (0), .string ⟨#[]⟩] 23))
  refine (Px.cleanselaw02_text.calls ⟨#[49, 50]⟩ 1 0 ⟨#[49, 50]⟩ _ rfl).mono ?_
  rintro e w3 ⟨rfl, hb⟩
  have K_ := Lib.hid (keep1 hb KA.out)
  clear KA
  have KA := K_
  clear K_
  have HB3 := Lib.hid (HB2a.out.trans (hb.mono HB2a.out.size))
  clear hb
  go_wp2_with fail
  refine (value_Cast.calls 1 0 ⟨#[49, 50]⟩ 2 2 12 ⟨#[]⟩ 0 _ (GT.below HG.out HB3.out) (congrArg some cast_1)).mono ?_
  rintro e w4 ⟨rfl, hb⟩
  have K_ := Lib.hid (keep1 hb KA.out)
  clear KA
  have KA := K_
  clear K_
  have HB4 := Lib.hid (HB3.out.trans (hb.mono HB3.out.size))
  clear hb
  go_wp2_with fail
  have K_ := Lib.hid (keepA (o' := .cells #[.int .i64 (2), .int .i64 (12), .string ⟨#[]⟩] 23) KA.out)
  clear KA
  have KA := K_
  clear K_
  have KB := Lib.hid (heap_new w4 (.cells #[.int .i64 (2), .int .i64 (12), .string ⟨#[]⟩] 23))
  have HB4a := Lib.hid (HB4.out.alloc HB4.out.size (.cells #[.int .i64 (2), .int .i64 (12), .string ⟨#[]⟩] 23))
  refine (Px.cleanselaw02_text.calls ⟨#[64, 49, 50]⟩ 1 0 ⟨#[64, 49, 50]⟩ _ rfl).mono ?_
  rintro e w5 ⟨rfl, hb⟩
  have K_ := Lib.hid (keep1 hb KA.out)
  clear KA
  have KA := K_
  clear K_
  have K_ := Lib.hid (keep1 hb KB.out)
  clear KB
  have KB := K_
  clear K_
  have HB5 := Lib.hid (HB4a.out.trans (hb.mono HB4a.out.size))
  clear hb
  go_wp2_with fail
  refine (value_Cast.calls 1 0 ⟨#[64, 49, 50]⟩ 2 0 0 ⟨#[]⟩ 15 _ (GT.below HG.out HB5.out) (congrArg some cast_2)).mono ?_
  rintro e w6 ⟨rfl, hb⟩
  have K_ := Lib.hid (keep1 hb KA.out)
  clear KA
  have KA := K_
  clear K_
  have K_ := Lib.hid (keep1 hb KB.out)
  clear KB
  have KB := K_
  clear K_
  have HB6 := Lib.hid (HB5.out.trans (hb.mono HB5.out.size))
  clear hb
  go_wp2_with fail
  have K_ := Lib.hid (keepA (o' := .cells #[.int .i64 (0), .int .i64 (0), .string ⟨#[]⟩] 23) KA.out)
  clear KA
  have KA := K_
  clear K_
  have K_ := Lib.hid (keepA (o' := .cells #[.int .i64 (0), .int .i64 (0), .string ⟨#[]⟩] 23) KB.out)
  clear KB
  have KB := K_
  clear K_
  have HB6a := Lib.hid (HB6.out.alloc HB6.out.size (.cells #[.int .i64 (0), .int .i64 (0), .string ⟨#[]⟩] 23))
  refine (Px.cleanselaw02_number.calls (-1) 2 (-1) ⟨#[]⟩ _ rfl).mono ?_
  rintro e w7 ⟨rfl, hb⟩
  have K_ := Lib.hid (keep1 hb KA.out)
  clear KA
  have KA := K_
  clear K_
  have K_ := Lib.hid (keep1 hb KB.out)
  clear KB
  have KB := K_
  clear K_
  have HB7 := Lib.hid (HB6a.out.trans (hb.mono HB6a.out.size))
  clear hb
  go_wp2_with fail
  refine (value_Cast.calls 2 (-1) ⟨#[]⟩ 3 0 0 ⟨#[]⟩ 15 _ (GT.below HG.out HB7.out) (congrArg some cast_3)).mono ?_
  rintro e w8 ⟨rfl, hb⟩
  have K_ := Lib.hid (keep1 hb KA.out)
  clear KA
  have KA := K_
  clear K_
  have K_ := Lib.hid (keep1 hb KB.out)
  clear KB
  have KB := K_
  clear K_
  have HB8 := Lib.hid (HB7.out.trans (hb.mono HB7.out.size))
  clear hb
  go_wp2_with fail
  have K_ := Lib.hid (keepA (o' := .cells #[.int .i64 (0), .int .i64 (0), .string ⟨#[]⟩] 23) KA.out)
  clear KA
  have KA := K_
  clear K_
  have K_ := Lib.hid (keepA (o' := .cells #[.int .i64 (0), .int .i64 (0), .string ⟨#[]⟩] 23) KB.out)
  clear KB
  have KB := K_
  clear K_
  have HB8a := Lib.hid (HB8.out.alloc HB8.out.size (.cells #[.int .i64 (0), .int .i64 (0), .string ⟨#[]⟩] 23))
  refine (Px.cleanselaw02_number.calls 12 2 12 ⟨#[]⟩ _ rfl).mono ?_
  rintro e w9 ⟨rfl, hb⟩
  have K_ := Lib.hid (keep1 hb KA.out)
  clear KA
  have KA := K_
  clear K_
  have K_ := Lib.hid (keep1 hb KB.out)
  clear KB
  have KB := K_
  clear K_
  have HB9 := Lib.hid (HB8a.out.trans (hb.mono HB8a.out.size))
  clear hb
  go_wp2_with fail
  refine (value_Cast.calls 2 12 ⟨#[]⟩ 4 0 0 ⟨#[]⟩ 10 _ (GT.below HG.out HB9.out) (congrArg some cast_4)).mono ?_
  rintro e w10 ⟨rfl, hb⟩
  have K_ := Lib.hid (keep1 hb KA.out)
  clear KA
  have KA := K_
  clear K_
  have K_ := Lib.hid (keep1 hb KB.out)
  clear KB
  have KB := K_
  clear K_
  have HB10 := Lib.hid (HB9.out.trans (hb.mono HB9.out.size))
  clear hb
  go_wp2_with fail
  have K_ := Lib.hid (keepA (o' := .cells #[.int .i64 (0), .int .i64 (0), .string ⟨#[]⟩] 23) KA.out)
  clear KA
  have KA := K_
  clear K_
  have K_ := Lib.hid (keepA (o' := .cells #[.int .i64 (0), .int .i64 (0), .string ⟨#[]⟩] 23) KB.out)
  clear KB
  have KB := K_
  clear K_
  have HB10a := Lib.hid (HB10.out.alloc HB10.out.size (.cells #[.int .i64 (0), .int .i64 (0), .string ⟨#[]⟩] 23))
  refine (Px.cleanselaw02_number.calls 12 2 12 ⟨#[]⟩ _ rfl).mono ?_
  rintro e w11 ⟨rfl, hb⟩
  have K_ := Lib.hid (keep1 hb KA.out)
  clear KA
  have KA := K_
  clear K_
  have K_ := Lib.hid (keep1 hb KB.out)
  clear KB
  have KB := K_
  clear K_
  have HB11 := Lib.hid (HB10a.out.trans (hb.mono HB10a.out.size))
  clear hb
  go_wp2_with fail
  refine (value_Cast.calls 2 12 ⟨#[]⟩ 0 0 0 ⟨#[]⟩ 1 _ (GT.below HG.out HB11.out) (congrArg some cast_5)).mono ?_
  rintro e w12 ⟨rfl, hb⟩
  have K_ := Lib.hid (keep1 hb KA.out)
  clear KA
  have KA := K_
  clear K_
  have K_ := Lib.hid (keep1 hb KB.out)
  clear KB
  have KB := K_
  clear K_
  have HB12 := Lib.hid (HB11.out.trans (hb.mono HB11.out.size))
  clear hb
  go_wp2_with fail
  have K_ := Lib.hid (keepA (o' := .cells #[.int .i64 (0), .int .i64 (0), .string ⟨#[]⟩] 23) KA.out)
  clear KA
  have KA := K_
  clear K_
  have K_ := Lib.hid (keepA (o' := .cells #[.int .i64 (0), .int .i64 (0), .string ⟨#[]⟩] 23) KB.out)
  clear KB
  have KB := K_
  clear K_
  have HB12a := Lib.hid (HB12.out.alloc HB12.out.size (.cells #[.int .i64 (0), .int .i64 (0), .string ⟨#[]⟩] 23))
  have hs0 := hs_all ⟨HB12a.out, KA.out, KB.out⟩
  generalize w1.heap.size = A at *
  generalize w4.heap.size = B at *
  generalize (w12.alloc (.cells #[.int .i64 0, .int .i64 0, .string ⟨#[]⟩] 23)) = W at *
  clear KA KB HB0 HB1 HB2 HB3 HB4 HB5 HB6 HB7 HB8 HB9 HB10 HB11 HB12 HB1a HB2a HB4a HB6a HB8a HB10a HB12a
  have hst := (fun W' (h : Below W.heap.size W W') => hs_step hs0 h)
  clear hst
  go_region_held3 (fun w' => w'.cell? ⟨A, 0, none⟩ = some (.int .i64 3) ∧ w'.cell? ⟨A, 1, none⟩ = some (.int .i64 12) ∧ w'.cell? ⟨A, 2, none⟩ = some (.string ⟨#[]⟩) ∧ w'.cell? ⟨B, 0, none⟩ = some (.int .i64 2) ∧ w'.cell? ⟨B, 1, none⟩ = some (.int .i64 12) ∧ w'.cell? ⟨B, 2, none⟩ = some (.string ⟨#[]⟩) ∧ HS w w' A B)
    (first | assumption | exact hs_step (by assumption) (Below.refl _ _).drew | exact hs_all ⟨(by assumption : HS _ _ _ _).1, (by assumption : HS _ _ _ _).2⟩)
    (first | (go_at_call 28; refine (Px.cleanselaw02_text.calls ⟨#[97, 34, 98]⟩ 1 0 ⟨#[97, 34, 98]⟩ _ rfl).mono ?_; rintro e wt ⟨rfl, hb⟩; have ht := hs_step (by assumption) hb; clear hb) | (go_at_call 21; refine (value_Text.calls 1 0 ⟨#[97, 34, 98]⟩ ⟨#[34, 97, 92, 34, 98, 34]⟩ _ (GT.below HG.out ht.2.2.2.2.2.2.1) (by unfold value_Text.f; exact congrArg (fun l : List UInt8 => some (⟨l.toArray⟩ : ByteArray)) text_1)).mono ?_; rintro e wu ⟨rfl, hb⟩; have hu := hs_step (by assumption) hb; clear hb) | (go_at_call 29; refine (Px.cleanselaw02_day.calls 12 3 12 ⟨#[]⟩ _ rfl).mono ?_; rintro e wv ⟨rfl, hb⟩; have hv := hs_step (by assumption) hb; clear hb) | (go_at_call 25; refine (Px.cleanselaw02_number.calls 12 2 12 ⟨#[]⟩ _ rfl).mono ?_; rintro e wx ⟨rfl, hb⟩; have hx := hs_step (by assumption) hb; clear hb))
  have HB20 := Lib.hid hx.2.2.2.2.2.2.1
  rename_i hHeld_
  clear hs0 ht hu hv hx hHeld_
  go_wp2_with fail
  refine (Px.cleanselaw02_number.calls 3 2 3 ⟨#[]⟩ _ rfl).mono ?_
  rintro e w21 ⟨rfl, hb⟩
  have HB21 := Lib.hid (HB20.out.trans (hb.mono HB20.out.size))
  clear hb
  go_wp2_with fail
  refine (Px.cleanselaw02_number.calls 1 2 1 ⟨#[]⟩ _ rfl).mono ?_
  rintro e w22 ⟨rfl, hb⟩
  have HB22 := Lib.hid (HB21.out.trans (hb.mono HB21.out.size))
  clear hb
  go_wp2_with fail
  refine (value_Test.calls 2 3 ⟨#[]⟩ 3 2 1 ⟨#[]⟩ 3 true _ (congrArg some test_1a)).mono ?_
  rintro e w23 ⟨rfl, hb⟩
  have HB23 := Lib.hid (HB22.out.trans (hb.mono HB22.out.size))
  clear hb
  go_wp2_with fail
  refine (value_Test.calls 0 0 ⟨#[]⟩ 1 0 0 ⟨#[]⟩ 0 false _ (congrArg some test_2a)).mono ?_
  rintro e w24 ⟨rfl, hb⟩
  have HB24 := Lib.hid (HB23.out.trans (hb.mono HB23.out.size))
  clear hb
  go_wp2_with fail
  refine (Px.cleanselaw02_number.calls 9 2 9 ⟨#[]⟩ _ rfl).mono ?_
  rintro e w25 ⟨rfl, hb⟩
  have HB25 := Lib.hid (HB24.out.trans (hb.mono HB24.out.size))
  clear hb
  go_wp2_with fail
  refine (Px.cleanselaw02_day.calls 0 3 0 ⟨#[]⟩ _ rfl).mono ?_
  rintro e w26 ⟨rfl, hb⟩
  have HB26 := Lib.hid (HB25.out.trans (hb.mono HB25.out.size))
  clear hb
  go_wp2_with fail
  refine (Px.value_Compare.calls 2 9 ⟨#[]⟩ 3 0 ⟨#[]⟩ (-1) _ ((compare_f _ _ _ _ _ _).trans (congrArg some cmp_a))).mono ?_
  rintro e w27 ⟨rfl, hb⟩
  have HB27 := Lib.hid (HB26.out.trans (hb.mono HB26.out.size))
  clear hb
  go_wp2_with fail
  refine (Px.cleanselaw02_day.calls 73049 3 73049 ⟨#[]⟩ _ rfl).mono ?_
  rintro e w28 ⟨rfl, hb⟩
  have HB28 := Lib.hid (HB27.out.trans (hb.mono HB27.out.size))
  clear hb
  go_wp2_with fail
  refine (Px.value_Valid.calls 1 3 73049 ⟨#[]⟩ false _ ((valid_f 0 _ _ _).trans (congrArg some val_a))).mono ?_
  rintro e w29 ⟨rfl, hb⟩
  have HB29 := Lib.hid (HB28.out.trans (hb.mono HB28.out.size))
  clear hb
  go_wp2_with fail
  go_ret
  exact ⟨rfl, HB29.out⟩

def cleanselaw02_head.f : Option Bool := some true
theorem cleanselaw02_head.calls (r : Bool) (w : World) (hG : GT w) (h : cleanselaw02_head.f = some r) : Calls Tryz.prog 11 #[] w fun e w' => e = .returned (.bool r) ∧ Below w.heap.size w w' := by
  obtain rfl := Option.some.inj h
  exact head_any w hG


end Go.Proofs.YthgppbpmcjkadaaGreatDoor.X
