/- The statement ValueCasts's way, walked. -/
import Derived.Test.YthgppbpmcjkadaaGreatDoorX10
import Derived.Test.YthgppbpmcjkadaaGreatDoorXn1
import Derived.Test.YthgppbpmcjkadaaGreatDoorPlH
import Derived.Deep.RegionHeld3
set_option linter.unusedVariables false
set_option linter.unusedSimpArgs false
namespace Go.Proofs.YthgppbpmcjkadaaGreatDoor.X
open Go.RowKit Go.Proofs.YthgppbpmcjkadaaGreatDoorW.PrintWords Go.Proofs.YthgppbpmcjkadaaGreatDoorW.PrintLast Go.Proofs.YthgppbpmcjkadaaGreatDoorW.PrintMore
attribute [local go_sem high] Px.eqA23

set_option maxRecDepth 100000 in
set_option maxHeartbeats 4000000 in
theorem casts_s (k n : Int) (t : ByteArray) (d : Int) (w : World) (hG : GT w) (hs : shortB [⟨k, n, t⟩] = false)  :
    Calls Tryz.prog 6 #[.agg #[.int .i64 k, .int .i64 n, .string t], .int .i64 d] w fun e w' => HeadPost w e w' := by
  have HG := Lib.hid hG
  clear hG
  have HSH := Lib.hid ((short_f [⟨k, n, t⟩] (by simp) 10 (by simp)).trans (congrArg some hs))
  clear hs
  go_enter Tryz.func6, Tryz.ntmps6
  go_wp2_with fail
  have KA := heap_new w (.cells #[.int .i64 k, .int .i64 n, .string t] 23)
  have K_ := Lib.hid KA
  clear KA
  have KA := K_
  clear K_
  have HB0 := Lib.hid ((Below.refl w.heap.size w).alloc (Nat.le_refl _) (.cells #[.int .i64 k, .int .i64 n, .string t] 23))
  refine (cleanselaw02_head.calls true _ (GT.below HG.out HB0.out) rfl).mono ?_
  rintro e w1 ⟨rfl, hb⟩
  have K_ := Lib.hid (keep1 hb KA.out)
  clear KA
  have KA := K_
  clear K_
  have HB1 := Lib.hid (HB0.out.trans (hb.mono HB0.out.size))
  clear hb
  obtain ⟨⟨cA0, cA1, cA2⟩, _⟩ := h_cells KA.out
  go_wp2_with fail
  clear cA0 cA1 cA2
  have K_ := Lib.hid (keepA (o' := .cells #[.int .i64 k, .int .i64 n, .string t] 23) KA.out)
  clear KA
  have KA := K_
  clear K_
  have HB1s := Lib.hid (HB1.out.alloc HB1.out.size (.cells #[.int .i64 k, .int .i64 n, .string t] 23))
  refine (Px.cleanselaw02_short.calls 10 _ 1 [⟨k, n, t⟩] false _ (row1 (heap_new w1 _)) (Nat.le_refl _) HSH.out).mono ?_
  rintro e w2 ⟨rfl, hd⟩
  have hb := hd.below
  clear hd
  have K_ := Lib.hid (keep1 hb KA.out)
  clear KA
  have KA := K_
  clear K_
  have HB2 := Lib.hid (HB1s.out.trans (hb.mono HB1s.out.size))
  clear hb
  obtain ⟨⟨cA0, cA1, cA2⟩, _⟩ := h_cells KA.out
  go_wp2_with fail
  go_ret
  exact ⟨rfl, HB2.out⟩

set_option maxRecDepth 100000 in
set_option maxHeartbeats 4000000 in
theorem casts_a (k n : Int) (t : ByteArray) (d : Int) (w : World) (hG : GT w) (hs : shortB [⟨k, n, t⟩] = true) (ha : ¬ ValidP k n t.data.toList) (hc : castR k n t d = (0, 0, bs [], 1)) :
    Calls Tryz.prog 6 #[.agg #[.int .i64 k, .int .i64 n, .string t], .int .i64 d] w fun e w' => HeadPost w e w' := by
  have HG := Lib.hid hG
  clear hG
  have HSH := Lib.hid ((short_f [⟨k, n, t⟩] (by simp) 10 (by simp)).trans (congrArg some hs))
  clear hs
  have HVA := Lib.hid ((valid_f 0 k n t).trans (congrArg some (not_valid ha)))
  have HC := Lib.hid (show value_Cast.f k n t d = some (0, 0, ⟨#[]⟩, 1) from congrArg some hc)
  clear ha hc
  go_enter Tryz.func6, Tryz.ntmps6
  go_wp2_with fail
  have KA := heap_new w (.cells #[.int .i64 k, .int .i64 n, .string t] 23)
  have K_ := Lib.hid KA
  clear KA
  have KA := K_
  clear K_
  have HB0 := Lib.hid ((Below.refl w.heap.size w).alloc (Nat.le_refl _) (.cells #[.int .i64 k, .int .i64 n, .string t] 23))
  refine (cleanselaw02_head.calls true _ (GT.below HG.out HB0.out) rfl).mono ?_
  rintro e w1 ⟨rfl, hb⟩
  have K_ := Lib.hid (keep1 hb KA.out)
  clear KA
  have KA := K_
  clear K_
  have HB1 := Lib.hid (HB0.out.trans (hb.mono HB0.out.size))
  clear hb
  obtain ⟨⟨cA0, cA1, cA2⟩, _⟩ := h_cells KA.out
  go_wp2_with fail
  clear cA0 cA1 cA2
  have K_ := Lib.hid (keepA (o' := .cells #[.int .i64 k, .int .i64 n, .string t] 23) KA.out)
  clear KA
  have KA := K_
  clear K_
  have HB1s := Lib.hid (HB1.out.alloc HB1.out.size (.cells #[.int .i64 k, .int .i64 n, .string t] 23))
  refine (Px.cleanselaw02_short.calls 10 _ 1 [⟨k, n, t⟩] true _ (row1 (heap_new w1 _)) (Nat.le_refl _) HSH.out).mono ?_
  rintro e w2 ⟨rfl, hd⟩
  have hb := hd.below
  clear hd
  have K_ := Lib.hid (keep1 hb KA.out)
  clear KA
  have KA := K_
  clear K_
  have HB2 := Lib.hid (HB1s.out.trans (hb.mono HB1s.out.size))
  clear hb
  obtain ⟨⟨cA0, cA1, cA2⟩, _⟩ := h_cells KA.out
  go_wp2_with fail
  refine (value_Cast.calls k n t d 0 0 ⟨#[]⟩ 1 _ (GT.below HG.out HB2.out) HC.out).mono ?_
  rintro e w3 ⟨rfl, hb⟩
  clear cA0 cA1 cA2
  have K_ := Lib.hid (keep1 hb KA.out)
  clear KA
  have KA := K_
  clear K_
  have HB3 := Lib.hid (HB2.out.trans (hb.mono HB2.out.size))
  clear hb
  have K_ := Lib.hid (keepA (o' := .cells #[.int .i64 0, .int .i64 0, .string ⟨#[]⟩] 23) KA.out)
  clear KA
  have KA := K_
  clear K_
  have KX := Lib.hid (heap_new w3 (.cells #[.int .i64 0, .int .i64 0, .string ⟨#[]⟩] 23))
  have HB3a := Lib.hid (HB3.out.alloc HB3.out.size (.cells #[.int .i64 0, .int .i64 0, .string ⟨#[]⟩] 23))
  obtain ⟨⟨cA0, cA1, cA2⟩, _⟩ := h_cells KA.out
  obtain ⟨⟨cX0, cX1, cX2⟩, _⟩ := h_cells KX.out
  go_wp2_with fail
  refine (Px.value_Valid.calls 1 k n t _ _ HVA.out).mono ?_
  rintro e w4 ⟨rfl, hb⟩
  clear cA0 cA1 cA2 cX0 cX1 cX2
  have K_ := Lib.hid (keep1 hb KA.out)
  clear KA
  have KA := K_
  clear K_
  have K_ := Lib.hid (keep1 hb KX.out)
  clear KX
  have KX := K_
  clear K_
  have HB4 := Lib.hid (HB3a.out.trans (hb.mono HB3a.out.size))
  clear hb
  obtain ⟨⟨cA0, cA1, cA2⟩, _⟩ := h_cells KA.out
  obtain ⟨⟨cX0, cX1, cX2⟩, _⟩ := h_cells KX.out
  go_wp2_with fail
  go_ret
  exact ⟨rfl, HB4.out⟩

set_option maxRecDepth 100000 in
set_option maxHeartbeats 4000000 in
theorem casts_b (k n : Int) (t : ByteArray) (d : Int) (w : World) (hG : GT w) (hs : shortB [⟨k, n, t⟩] = true) (ha : ValidP k n t.data.toList) (hd : d < 1) (hc : castR k n t d = (0, 0, bs [], 1)) :
    Calls Tryz.prog 6 #[.agg #[.int .i64 k, .int .i64 n, .string t], .int .i64 d] w fun e w' => HeadPost w e w' := by
  have HG := Lib.hid hG
  clear hG
  have HSH := Lib.hid ((short_f [⟨k, n, t⟩] (by simp) 10 (by simp)).trans (congrArg some hs))
  clear hs
  have HVA := Lib.hid ((valid_f 0 k n t).trans (congrArg some (valid_iff.2 ha)))
  have HC := Lib.hid (show value_Cast.f k n t d = some (0, 0, ⟨#[]⟩, 1) from congrArg some hc)
  have q1 : decide (d < 1) = true := decide_eq_true hd
  clear ha hc
  go_enter Tryz.func6, Tryz.ntmps6
  go_wp2_with fail
  have KA := heap_new w (.cells #[.int .i64 k, .int .i64 n, .string t] 23)
  have K_ := Lib.hid KA
  clear KA
  have KA := K_
  clear K_
  have HB0 := Lib.hid ((Below.refl w.heap.size w).alloc (Nat.le_refl _) (.cells #[.int .i64 k, .int .i64 n, .string t] 23))
  refine (cleanselaw02_head.calls true _ (GT.below HG.out HB0.out) rfl).mono ?_
  rintro e w1 ⟨rfl, hb⟩
  have K_ := Lib.hid (keep1 hb KA.out)
  clear KA
  have KA := K_
  clear K_
  have HB1 := Lib.hid (HB0.out.trans (hb.mono HB0.out.size))
  clear hb
  obtain ⟨⟨cA0, cA1, cA2⟩, _⟩ := h_cells KA.out
  go_wp2_with fail
  clear cA0 cA1 cA2
  have K_ := Lib.hid (keepA (o' := .cells #[.int .i64 k, .int .i64 n, .string t] 23) KA.out)
  clear KA
  have KA := K_
  clear K_
  have HB1s := Lib.hid (HB1.out.alloc HB1.out.size (.cells #[.int .i64 k, .int .i64 n, .string t] 23))
  refine (Px.cleanselaw02_short.calls 10 _ 1 [⟨k, n, t⟩] true _ (row1 (heap_new w1 _)) (Nat.le_refl _) HSH.out).mono ?_
  rintro e w2 ⟨rfl, hd⟩
  have hb := hd.below
  clear hd
  have K_ := Lib.hid (keep1 hb KA.out)
  clear KA
  have KA := K_
  clear K_
  have HB2 := Lib.hid (HB1s.out.trans (hb.mono HB1s.out.size))
  clear hb
  obtain ⟨⟨cA0, cA1, cA2⟩, _⟩ := h_cells KA.out
  go_wp2_with fail
  refine (value_Cast.calls k n t d 0 0 ⟨#[]⟩ 1 _ (GT.below HG.out HB2.out) HC.out).mono ?_
  rintro e w3 ⟨rfl, hb⟩
  clear cA0 cA1 cA2
  have K_ := Lib.hid (keep1 hb KA.out)
  clear KA
  have KA := K_
  clear K_
  have HB3 := Lib.hid (HB2.out.trans (hb.mono HB2.out.size))
  clear hb
  have K_ := Lib.hid (keepA (o' := .cells #[.int .i64 0, .int .i64 0, .string ⟨#[]⟩] 23) KA.out)
  clear KA
  have KA := K_
  clear K_
  have KX := Lib.hid (heap_new w3 (.cells #[.int .i64 0, .int .i64 0, .string ⟨#[]⟩] 23))
  have HB3a := Lib.hid (HB3.out.alloc HB3.out.size (.cells #[.int .i64 0, .int .i64 0, .string ⟨#[]⟩] 23))
  obtain ⟨⟨cA0, cA1, cA2⟩, _⟩ := h_cells KA.out
  obtain ⟨⟨cX0, cX1, cX2⟩, _⟩ := h_cells KX.out
  go_wp2_with fail
  refine (Px.value_Valid.calls 1 k n t _ _ HVA.out).mono ?_
  rintro e w4 ⟨rfl, hb⟩
  clear cA0 cA1 cA2 cX0 cX1 cX2
  have K_ := Lib.hid (keep1 hb KA.out)
  clear KA
  have KA := K_
  clear K_
  have K_ := Lib.hid (keep1 hb KX.out)
  clear KX
  have KX := K_
  clear K_
  have HB4 := Lib.hid (HB3a.out.trans (hb.mono HB3a.out.size))
  clear hb
  obtain ⟨⟨cA0, cA1, cA2⟩, _⟩ := h_cells KA.out
  obtain ⟨⟨cX0, cX1, cX2⟩, _⟩ := h_cells KX.out
  go_wp2_with fail
  go_ret
  exact ⟨rfl, HB4.out⟩

set_option maxRecDepth 100000 in
set_option maxHeartbeats 4000000 in
theorem casts_c (k n : Int) (t : ByteArray) (d : Int) (w : World) (hG : GT w) (hs : shortB [⟨k, n, t⟩] = true) (ha : ValidP k n t.data.toList) (hd : 1 ≤ d) (hd4 : 4 < d) (hc : castR k n t d = (0, 0, bs [], 1)) :
    Calls Tryz.prog 6 #[.agg #[.int .i64 k, .int .i64 n, .string t], .int .i64 d] w fun e w' => HeadPost w e w' := by
  have HG := Lib.hid hG
  clear hG
  have HSH := Lib.hid ((short_f [⟨k, n, t⟩] (by simp) 10 (by simp)).trans (congrArg some hs))
  clear hs
  have HVA := Lib.hid ((valid_f 0 k n t).trans (congrArg some (valid_iff.2 ha)))
  have HC := Lib.hid (show value_Cast.f k n t d = some (0, 0, ⟨#[]⟩, 1) from congrArg some hc)
  have q1 : decide (d < 1) = false := decide_eq_false (by omega)
  have q2 : decide (4 < d) = true := decide_eq_true hd4
  clear ha hc
  go_enter Tryz.func6, Tryz.ntmps6
  go_wp2_with fail
  have KA := heap_new w (.cells #[.int .i64 k, .int .i64 n, .string t] 23)
  have K_ := Lib.hid KA
  clear KA
  have KA := K_
  clear K_
  have HB0 := Lib.hid ((Below.refl w.heap.size w).alloc (Nat.le_refl _) (.cells #[.int .i64 k, .int .i64 n, .string t] 23))
  refine (cleanselaw02_head.calls true _ (GT.below HG.out HB0.out) rfl).mono ?_
  rintro e w1 ⟨rfl, hb⟩
  have K_ := Lib.hid (keep1 hb KA.out)
  clear KA
  have KA := K_
  clear K_
  have HB1 := Lib.hid (HB0.out.trans (hb.mono HB0.out.size))
  clear hb
  obtain ⟨⟨cA0, cA1, cA2⟩, _⟩ := h_cells KA.out
  go_wp2_with fail
  clear cA0 cA1 cA2
  have K_ := Lib.hid (keepA (o' := .cells #[.int .i64 k, .int .i64 n, .string t] 23) KA.out)
  clear KA
  have KA := K_
  clear K_
  have HB1s := Lib.hid (HB1.out.alloc HB1.out.size (.cells #[.int .i64 k, .int .i64 n, .string t] 23))
  refine (Px.cleanselaw02_short.calls 10 _ 1 [⟨k, n, t⟩] true _ (row1 (heap_new w1 _)) (Nat.le_refl _) HSH.out).mono ?_
  rintro e w2 ⟨rfl, hd⟩
  have hb := hd.below
  clear hd
  have K_ := Lib.hid (keep1 hb KA.out)
  clear KA
  have KA := K_
  clear K_
  have HB2 := Lib.hid (HB1s.out.trans (hb.mono HB1s.out.size))
  clear hb
  obtain ⟨⟨cA0, cA1, cA2⟩, _⟩ := h_cells KA.out
  go_wp2_with fail
  refine (value_Cast.calls k n t d 0 0 ⟨#[]⟩ 1 _ (GT.below HG.out HB2.out) HC.out).mono ?_
  rintro e w3 ⟨rfl, hb⟩
  clear cA0 cA1 cA2
  have K_ := Lib.hid (keep1 hb KA.out)
  clear KA
  have KA := K_
  clear K_
  have HB3 := Lib.hid (HB2.out.trans (hb.mono HB2.out.size))
  clear hb
  have K_ := Lib.hid (keepA (o' := .cells #[.int .i64 0, .int .i64 0, .string ⟨#[]⟩] 23) KA.out)
  clear KA
  have KA := K_
  clear K_
  have KX := Lib.hid (heap_new w3 (.cells #[.int .i64 0, .int .i64 0, .string ⟨#[]⟩] 23))
  have HB3a := Lib.hid (HB3.out.alloc HB3.out.size (.cells #[.int .i64 0, .int .i64 0, .string ⟨#[]⟩] 23))
  obtain ⟨⟨cA0, cA1, cA2⟩, _⟩ := h_cells KA.out
  obtain ⟨⟨cX0, cX1, cX2⟩, _⟩ := h_cells KX.out
  go_wp2_with fail
  refine (Px.value_Valid.calls 1 k n t _ _ HVA.out).mono ?_
  rintro e w4 ⟨rfl, hb⟩
  clear cA0 cA1 cA2 cX0 cX1 cX2
  have K_ := Lib.hid (keep1 hb KA.out)
  clear KA
  have KA := K_
  clear K_
  have K_ := Lib.hid (keep1 hb KX.out)
  clear KX
  have KX := K_
  clear K_
  have HB4 := Lib.hid (HB3a.out.trans (hb.mono HB3a.out.size))
  clear hb
  obtain ⟨⟨cA0, cA1, cA2⟩, _⟩ := h_cells KA.out
  obtain ⟨⟨cX0, cX1, cX2⟩, _⟩ := h_cells KX.out
  go_wp2_with fail
  go_ret
  exact ⟨rfl, HB4.out⟩

set_option maxRecDepth 100000 in
set_option maxHeartbeats 4000000 in
theorem casts_e (k n : Int) (t : ByteArray) (d : Int) (w : World) (hG : GT w) (hs : shortB [⟨k, n, t⟩] = true) (ha : ValidP k n t.data.toList) (hd : 1 ≤ d) (hd4 : d ≤ 4) (x : Int) (he0 : x ≠ 0) (he1 : x ≠ 1) (hc : castR k n t d = (0, 0, bs [], x)) :
    Calls Tryz.prog 6 #[.agg #[.int .i64 k, .int .i64 n, .string t], .int .i64 d] w fun e w' => HeadPost w e w' := by
  have HG := Lib.hid hG
  clear hG
  have HSH := Lib.hid ((short_f [⟨k, n, t⟩] (by simp) 10 (by simp)).trans (congrArg some hs))
  clear hs
  have HVA := Lib.hid ((valid_f 0 k n t).trans (congrArg some (valid_iff.2 ha)))
  have HC := Lib.hid (show value_Cast.f k n t d = some (0, 0, ⟨#[]⟩, x) from congrArg some hc)
  have q1 : decide (d < 1) = false := decide_eq_false (by omega)
  have q2 : decide (4 < d) = false := decide_eq_false (by omega)
  have z0 : (x != 0) = true := bne_iff_ne.2 he0
  have z1 := nes he0
  have z2 := nes he1
  clear ha hc he0 he1
  go_enter Tryz.func6, Tryz.ntmps6
  go_wp2_with fail
  have KA := heap_new w (.cells #[.int .i64 k, .int .i64 n, .string t] 23)
  have K_ := Lib.hid KA
  clear KA
  have KA := K_
  clear K_
  have HB0 := Lib.hid ((Below.refl w.heap.size w).alloc (Nat.le_refl _) (.cells #[.int .i64 k, .int .i64 n, .string t] 23))
  refine (cleanselaw02_head.calls true _ (GT.below HG.out HB0.out) rfl).mono ?_
  rintro e w1 ⟨rfl, hb⟩
  have K_ := Lib.hid (keep1 hb KA.out)
  clear KA
  have KA := K_
  clear K_
  have HB1 := Lib.hid (HB0.out.trans (hb.mono HB0.out.size))
  clear hb
  obtain ⟨⟨cA0, cA1, cA2⟩, _⟩ := h_cells KA.out
  go_wp2_with fail
  clear cA0 cA1 cA2
  have K_ := Lib.hid (keepA (o' := .cells #[.int .i64 k, .int .i64 n, .string t] 23) KA.out)
  clear KA
  have KA := K_
  clear K_
  have HB1s := Lib.hid (HB1.out.alloc HB1.out.size (.cells #[.int .i64 k, .int .i64 n, .string t] 23))
  refine (Px.cleanselaw02_short.calls 10 _ 1 [⟨k, n, t⟩] true _ (row1 (heap_new w1 _)) (Nat.le_refl _) HSH.out).mono ?_
  rintro e w2 ⟨rfl, hd⟩
  have hb := hd.below
  clear hd
  have K_ := Lib.hid (keep1 hb KA.out)
  clear KA
  have KA := K_
  clear K_
  have HB2 := Lib.hid (HB1s.out.trans (hb.mono HB1s.out.size))
  clear hb
  obtain ⟨⟨cA0, cA1, cA2⟩, _⟩ := h_cells KA.out
  go_wp2_with fail
  refine (value_Cast.calls k n t d 0 0 ⟨#[]⟩ x _ (GT.below HG.out HB2.out) HC.out).mono ?_
  rintro e w3 ⟨rfl, hb⟩
  clear cA0 cA1 cA2
  have K_ := Lib.hid (keep1 hb KA.out)
  clear KA
  have KA := K_
  clear K_
  have HB3 := Lib.hid (HB2.out.trans (hb.mono HB2.out.size))
  clear hb
  have K_ := Lib.hid (keepA (o' := .cells #[.int .i64 0, .int .i64 0, .string ⟨#[]⟩] 23) KA.out)
  clear KA
  have KA := K_
  clear K_
  have KX := Lib.hid (heap_new w3 (.cells #[.int .i64 0, .int .i64 0, .string ⟨#[]⟩] 23))
  have HB3a := Lib.hid (HB3.out.alloc HB3.out.size (.cells #[.int .i64 0, .int .i64 0, .string ⟨#[]⟩] 23))
  obtain ⟨⟨cA0, cA1, cA2⟩, _⟩ := h_cells KA.out
  obtain ⟨⟨cX0, cX1, cX2⟩, _⟩ := h_cells KX.out
  go_wp2_with fail
  refine (Px.value_Valid.calls 1 k n t _ _ HVA.out).mono ?_
  rintro e w4 ⟨rfl, hb⟩
  clear cA0 cA1 cA2 cX0 cX1 cX2
  have K_ := Lib.hid (keep1 hb KA.out)
  clear KA
  have KA := K_
  clear K_
  have K_ := Lib.hid (keep1 hb KX.out)
  clear KX
  have KX := K_
  clear K_
  have HB4 := Lib.hid (HB3a.out.trans (hb.mono HB3a.out.size))
  clear hb
  obtain ⟨⟨cA0, cA1, cA2⟩, _⟩ := h_cells KA.out
  obtain ⟨⟨cX0, cX1, cX2⟩, _⟩ := h_cells KX.out
  go_wp2_with fail
  go_ret
  exact ⟨rfl, HB4.out⟩

def CSQ (w W : World) (k n : Int) (t s : ByteArray) (SB BB : Nat) : Prop := Below w.heap.size w W ∧ W.heap[w.heap.size]? = some (.cells #[.int .i64 k, .int .i64 n, .string t] 23 (0, 0)) ∧ W.heap[SB]? = some (.cells #[.int .i64 1, .int .i64 0, .string s] 23 (0, 0)) ∧ W.heap[BB]? = some (.cells #[.int .i64 k, .int .i64 n, .string t] 23 (0, 0))
theorem cs_all {w W : World} {k n : Int} {t s : ByteArray} {SB BB : Nat} (h : CSQ w W k n t s SB BB) : W.cell? ⟨w.heap.size, 0, none⟩ = some (.int .i64 k) ∧ W.cell? ⟨w.heap.size, 1, none⟩ = some (.int .i64 n) ∧ W.cell? ⟨w.heap.size, 2, none⟩ = some (.string t) ∧ W.cell? ⟨SB, 2, none⟩ = some (.string s) ∧ W.cell? ⟨BB, 0, none⟩ = some (.int .i64 k) ∧ W.cell? ⟨BB, 1, none⟩ = some (.int .i64 n) ∧ W.cell? ⟨BB, 2, none⟩ = some (.string t) ∧ CSQ w W k n t s SB BB := by
  have h1 := (h_cells h.2.1).1
  have h2 := (h_cells h.2.2.1).1
  have h3 := (h_cells h.2.2.2).1
  exact ⟨h1.1, h1.2.1, h1.2.2, h2.2.2, h3.1, h3.2.1, h3.2.2, h⟩
theorem cs_step {w W W' : World} {k n : Int} {t s : ByteArray} {SB BB : Nat} (h : W.cell? ⟨w.heap.size, 0, none⟩ = some (.int .i64 k) ∧ W.cell? ⟨w.heap.size, 1, none⟩ = some (.int .i64 n) ∧ W.cell? ⟨w.heap.size, 2, none⟩ = some (.string t) ∧ W.cell? ⟨SB, 2, none⟩ = some (.string s) ∧ W.cell? ⟨BB, 0, none⟩ = some (.int .i64 k) ∧ W.cell? ⟨BB, 1, none⟩ = some (.int .i64 n) ∧ W.cell? ⟨BB, 2, none⟩ = some (.string t) ∧ CSQ w W k n t s SB BB) (hb : Below W.heap.size W W') : W'.cell? ⟨w.heap.size, 0, none⟩ = some (.int .i64 k) ∧ W'.cell? ⟨w.heap.size, 1, none⟩ = some (.int .i64 n) ∧ W'.cell? ⟨w.heap.size, 2, none⟩ = some (.string t) ∧ W'.cell? ⟨SB, 2, none⟩ = some (.string s) ∧ W'.cell? ⟨BB, 0, none⟩ = some (.int .i64 k) ∧ W'.cell? ⟨BB, 1, none⟩ = some (.int .i64 n) ∧ W'.cell? ⟨BB, 2, none⟩ = some (.string t) ∧ CSQ w W' k n t s SB BB := by
  have hs := h.2.2.2.2.2.2.2
  exact cs_all ⟨hs.1.trans (hb.mono hs.1.size), keep1 hb hs.2.1, keep1 hb hs.2.2.1, keep1 hb hs.2.2.2⟩
theorem cs_gt {w W : World} {k n : Int} {t s : ByteArray} {SB BB : Nat} (hG : GT w) (h : W.cell? ⟨w.heap.size, 0, none⟩ = some (.int .i64 k) ∧ W.cell? ⟨w.heap.size, 1, none⟩ = some (.int .i64 n) ∧ W.cell? ⟨w.heap.size, 2, none⟩ = some (.string t) ∧ W.cell? ⟨SB, 2, none⟩ = some (.string s) ∧ W.cell? ⟨BB, 0, none⟩ = some (.int .i64 k) ∧ W.cell? ⟨BB, 1, none⟩ = some (.int .i64 n) ∧ W.cell? ⟨BB, 2, none⟩ = some (.string t) ∧ CSQ w W k n t s SB BB) : GT W := GT.below hG h.2.2.2.2.2.2.2.1

set_option maxRecDepth 100000 in
set_option maxHeartbeats 4000000 in
theorem casts_g (k n : Int) (t : ByteArray) (d : Int) (w : World) (hG : GT w) (hs : shortB [⟨k, n, t⟩] = true) (x y : Int) (z : ByteArray) (hc : castR k n t d = (x, y, z, 0)) (hx : ValidP x y z.data.toList) (hx0 : (x == 0) = (k == 0)) (hxd : x = 0 ∨ x = d) (h0 : k = 0) :
    Calls Tryz.prog 6 #[.agg #[.int .i64 k, .int .i64 n, .string t], .int .i64 d] w fun e w' => HeadPost w e w' := by
  have HG := Lib.hid hG
  clear hG
  have HSH := Lib.hid ((short_f [⟨k, n, t⟩] (by simp) 10 (by simp)).trans (congrArg some hs))
  clear hs
  have HC := Lib.hid (show value_Cast.f k n t d = some (x, y, z, 0) from congrArg some hc)
  have HVX := Lib.hid ((valid_f 0 x y z).trans (congrArg some (valid_iff.2 hx)))
  have g1 := eqs h0
  rw [g1] at hx0
  have g2 : x = 0 := beq_iff_eq.1 hx0
  have g3 : (x != 0) = false := bne_eq_false_iff_eq.2 g2
  clear hc hx hxd h0 g2
  go_enter Tryz.func6, Tryz.ntmps6
  go_wp2_with fail
  have KA := heap_new w (.cells #[.int .i64 k, .int .i64 n, .string t] 23)
  have K_ := Lib.hid KA
  clear KA
  have KA := K_
  clear K_
  have HB0 := Lib.hid ((Below.refl w.heap.size w).alloc (Nat.le_refl _) (.cells #[.int .i64 k, .int .i64 n, .string t] 23))
  refine (cleanselaw02_head.calls true _ (GT.below HG.out HB0.out) rfl).mono ?_
  rintro e w1 ⟨rfl, hb⟩
  have K_ := Lib.hid (keep1 hb KA.out)
  clear KA
  have KA := K_
  clear K_
  have HB1 := Lib.hid (HB0.out.trans (hb.mono HB0.out.size))
  clear hb
  obtain ⟨⟨cA0, cA1, cA2⟩, _⟩ := h_cells KA.out
  go_wp2_with fail
  clear cA0 cA1 cA2
  have K_ := Lib.hid (keepA (o' := .cells #[.int .i64 k, .int .i64 n, .string t] 23) KA.out)
  clear KA
  have KA := K_
  clear K_
  have HB1s := Lib.hid (HB1.out.alloc HB1.out.size (.cells #[.int .i64 k, .int .i64 n, .string t] 23))
  refine (Px.cleanselaw02_short.calls 10 _ 1 [⟨k, n, t⟩] true _ (row1 (heap_new w1 _)) (Nat.le_refl _) HSH.out).mono ?_
  rintro e w2 ⟨rfl, hd⟩
  have hb := hd.below
  clear hd
  have K_ := Lib.hid (keep1 hb KA.out)
  clear KA
  have KA := K_
  clear K_
  have HB2 := Lib.hid (HB1s.out.trans (hb.mono HB1s.out.size))
  clear hb
  obtain ⟨⟨cA0, cA1, cA2⟩, _⟩ := h_cells KA.out
  go_wp2_with fail
  refine (value_Cast.calls k n t d x y z 0 _ (GT.below HG.out HB2.out) HC.out).mono ?_
  rintro e w3 ⟨rfl, hb⟩
  clear cA0 cA1 cA2
  have K_ := Lib.hid (keep1 hb KA.out)
  clear KA
  have KA := K_
  clear K_
  have HB3 := Lib.hid (HB2.out.trans (hb.mono HB2.out.size))
  clear hb
  have K_ := Lib.hid (keepA (o' := .cells #[.int .i64 x, .int .i64 y, .string z] 23) KA.out)
  clear KA
  have KA := K_
  clear K_
  have KX := Lib.hid (heap_new w3 (.cells #[.int .i64 x, .int .i64 y, .string z] 23))
  have HB3a := Lib.hid (HB3.out.alloc HB3.out.size (.cells #[.int .i64 x, .int .i64 y, .string z] 23))
  obtain ⟨⟨cA0, cA1, cA2⟩, _⟩ := h_cells KA.out
  obtain ⟨⟨cX0, cX1, cX2⟩, _⟩ := h_cells KX.out
  go_wp2_with fail
  refine (Px.value_Valid.calls 1 x y z _ _ HVX.out).mono ?_
  rintro e w4 ⟨rfl, hb⟩
  clear cA0 cA1 cA2 cX0 cX1 cX2
  have K_ := Lib.hid (keep1 hb KA.out)
  clear KA
  have KA := K_
  clear K_
  have K_ := Lib.hid (keep1 hb KX.out)
  clear KX
  have KX := K_
  clear K_
  have HB4 := Lib.hid (HB3a.out.trans (hb.mono HB3a.out.size))
  clear hb
  obtain ⟨⟨cA0, cA1, cA2⟩, _⟩ := h_cells KA.out
  obtain ⟨⟨cX0, cX1, cX2⟩, _⟩ := h_cells KX.out
  go_wp2_with fail
  go_ret
  exact ⟨rfl, HB4.out⟩

set_option maxRecDepth 100000 in
set_option maxHeartbeats 4000000 in
theorem casts_h (k n : Int) (t : ByteArray) (d : Int) (w : World) (hG : GT w) (hs : shortB [⟨k, n, t⟩] = true) (x y : Int) (z : ByteArray) (hc : castR k n t d = (x, y, z, 0)) (hx : ValidP x y z.data.toList) (hx0 : (x == 0) = (k == 0)) (hxd : x = 0 ∨ x = d) (h0 : k ≠ 0) (h1 : k = 1) :
    Calls Tryz.prog 6 #[.agg #[.int .i64 k, .int .i64 n, .string t], .int .i64 d] w fun e w' => HeadPost w e w' := by
  have HG := Lib.hid hG
  clear hG
  have HSH := Lib.hid ((short_f [⟨k, n, t⟩] (by simp) 10 (by simp)).trans (congrArg some hs))
  clear hs
  have HC := Lib.hid (show value_Cast.f k n t d = some (x, y, z, 0) from congrArg some hc)
  have HVX := Lib.hid ((valid_f 0 x y z).trans (congrArg some (valid_iff.2 hx)))
  have g2 := nes h0
  rw [g2] at hx0
  have g3 : x ≠ 0 := beq_eq_false_iff_ne.1 hx0
  have g4 : (x != 0) = true := bne_iff_ne.2 g3
  have g5 : x = d := hxd.resolve_left g3
  have g6 : (x != d) = false := bne_eq_false_iff_eq.2 g5
  have g7 := eqs g5
  have g8 := eqs h1
  clear hc hx hxd h0 h1 g3 g5
  go_enter Tryz.func6, Tryz.ntmps6
  go_wp2_with fail
  have KA := heap_new w (.cells #[.int .i64 k, .int .i64 n, .string t] 23)
  have K_ := Lib.hid KA
  clear KA
  have KA := K_
  clear K_
  have HB0 := Lib.hid ((Below.refl w.heap.size w).alloc (Nat.le_refl _) (.cells #[.int .i64 k, .int .i64 n, .string t] 23))
  refine (cleanselaw02_head.calls true _ (GT.below HG.out HB0.out) rfl).mono ?_
  rintro e w1 ⟨rfl, hb⟩
  have K_ := Lib.hid (keep1 hb KA.out)
  clear KA
  have KA := K_
  clear K_
  have HB1 := Lib.hid (HB0.out.trans (hb.mono HB0.out.size))
  clear hb
  obtain ⟨⟨cA0, cA1, cA2⟩, _⟩ := h_cells KA.out
  go_wp2_with fail
  clear cA0 cA1 cA2
  have K_ := Lib.hid (keepA (o' := .cells #[.int .i64 k, .int .i64 n, .string t] 23) KA.out)
  clear KA
  have KA := K_
  clear K_
  have HB1s := Lib.hid (HB1.out.alloc HB1.out.size (.cells #[.int .i64 k, .int .i64 n, .string t] 23))
  refine (Px.cleanselaw02_short.calls 10 _ 1 [⟨k, n, t⟩] true _ (row1 (heap_new w1 _)) (Nat.le_refl _) HSH.out).mono ?_
  rintro e w2 ⟨rfl, hd⟩
  have hb := hd.below
  clear hd
  have K_ := Lib.hid (keep1 hb KA.out)
  clear KA
  have KA := K_
  clear K_
  have HB2 := Lib.hid (HB1s.out.trans (hb.mono HB1s.out.size))
  clear hb
  obtain ⟨⟨cA0, cA1, cA2⟩, _⟩ := h_cells KA.out
  go_wp2_with fail
  refine (value_Cast.calls k n t d x y z 0 _ (GT.below HG.out HB2.out) HC.out).mono ?_
  rintro e w3 ⟨rfl, hb⟩
  clear cA0 cA1 cA2
  have K_ := Lib.hid (keep1 hb KA.out)
  clear KA
  have KA := K_
  clear K_
  have HB3 := Lib.hid (HB2.out.trans (hb.mono HB2.out.size))
  clear hb
  have K_ := Lib.hid (keepA (o' := .cells #[.int .i64 x, .int .i64 y, .string z] 23) KA.out)
  clear KA
  have KA := K_
  clear K_
  have KX := Lib.hid (heap_new w3 (.cells #[.int .i64 x, .int .i64 y, .string z] 23))
  have HB3a := Lib.hid (HB3.out.alloc HB3.out.size (.cells #[.int .i64 x, .int .i64 y, .string z] 23))
  obtain ⟨⟨cA0, cA1, cA2⟩, _⟩ := h_cells KA.out
  obtain ⟨⟨cX0, cX1, cX2⟩, _⟩ := h_cells KX.out
  go_wp2_with fail
  refine (Px.value_Valid.calls 1 x y z _ _ HVX.out).mono ?_
  rintro e w4 ⟨rfl, hb⟩
  clear cA0 cA1 cA2 cX0 cX1 cX2
  have K_ := Lib.hid (keep1 hb KA.out)
  clear KA
  have KA := K_
  clear K_
  have K_ := Lib.hid (keep1 hb KX.out)
  clear KX
  have KX := K_
  clear K_
  have HB4 := Lib.hid (HB3a.out.trans (hb.mono HB3a.out.size))
  clear hb
  obtain ⟨⟨cA0, cA1, cA2⟩, _⟩ := h_cells KA.out
  obtain ⟨⟨cX0, cX1, cX2⟩, _⟩ := h_cells KX.out
  go_wp2_with fail
  go_ret
  exact ⟨rfl, HB4.out⟩

set_option maxRecDepth 100000 in
set_option maxHeartbeats 4000000 in
theorem casts_i (k n : Int) (t : ByteArray) (d : Int) (w : World) (hG : GT w) (hs : shortB [⟨k, n, t⟩] = true) (x y : Int) (z : ByteArray) (hc : castR k n t d = (x, y, z, 0)) (hx : ValidP x y z.data.toList) (hx0 : (x == 0) = (k == 0)) (hxd : x = 0 ∨ x = d) (h0 : k ≠ 0) (h1 : k ≠ 1) (s : ByteArray) (hc1 : castR k n t 1 = (1, 0, s, 0)) (hc2 : castR 1 0 s k = (k, n, t, 0)) (htx : value_Text.f k n t = some s) (h3 : k ≠ 3) :
    Calls Tryz.prog 6 #[.agg #[.int .i64 k, .int .i64 n, .string t], .int .i64 d] w fun e w' => HeadPost w e w' := by
  have HG := Lib.hid hG
  clear hG
  have HSH := Lib.hid ((short_f [⟨k, n, t⟩] (by simp) 10 (by simp)).trans (congrArg some hs))
  clear hs
  have HC := Lib.hid (show value_Cast.f k n t d = some (x, y, z, 0) from congrArg some hc)
  have HVX := Lib.hid ((valid_f 0 x y z).trans (congrArg some (valid_iff.2 hx)))
  have g2 := nes h0
  rw [g2] at hx0
  have g3 : x ≠ 0 := beq_eq_false_iff_ne.1 hx0
  have g4 : (x != 0) = true := bne_iff_ne.2 g3
  have g5 : x = d := hxd.resolve_left g3
  have g6 : (x != d) = false := bne_eq_false_iff_eq.2 g5
  have g7 := eqs g5
  have g8 := nes h1
  have HC1 := Lib.hid (show value_Cast.f k n t 1 = some (1, 0, s, 0) from congrArg some hc1)
  have HC2 := Lib.hid (show value_Cast.f 1 0 s k = some (k, n, t, 0) from congrArg some hc2)
  have HTX := Lib.hid htx
  have g9 : (k != 3) = true := bne_iff_ne.2 h3
  have g10 := nes h3
  clear hc hx hxd h0 h1 g3 g5 hc1 hc2 htx h3
  go_enter Tryz.func6, Tryz.ntmps6
  go_wp2_with fail
  have KA := heap_new w (.cells #[.int .i64 k, .int .i64 n, .string t] 23)
  have K_ := Lib.hid KA
  clear KA
  have KA := K_
  clear K_
  have HB0 := Lib.hid ((Below.refl w.heap.size w).alloc (Nat.le_refl _) (.cells #[.int .i64 k, .int .i64 n, .string t] 23))
  refine (cleanselaw02_head.calls true _ (GT.below HG.out HB0.out) rfl).mono ?_
  rintro e w1 ⟨rfl, hb⟩
  have K_ := Lib.hid (keep1 hb KA.out)
  clear KA
  have KA := K_
  clear K_
  have HB1 := Lib.hid (HB0.out.trans (hb.mono HB0.out.size))
  clear hb
  obtain ⟨⟨cA0, cA1, cA2⟩, _⟩ := h_cells KA.out
  go_wp2_with fail
  clear cA0 cA1 cA2
  have K_ := Lib.hid (keepA (o' := .cells #[.int .i64 k, .int .i64 n, .string t] 23) KA.out)
  clear KA
  have KA := K_
  clear K_
  have HB1s := Lib.hid (HB1.out.alloc HB1.out.size (.cells #[.int .i64 k, .int .i64 n, .string t] 23))
  refine (Px.cleanselaw02_short.calls 10 _ 1 [⟨k, n, t⟩] true _ (row1 (heap_new w1 _)) (Nat.le_refl _) HSH.out).mono ?_
  rintro e w2 ⟨rfl, hd⟩
  have hb := hd.below
  clear hd
  have K_ := Lib.hid (keep1 hb KA.out)
  clear KA
  have KA := K_
  clear K_
  have HB2 := Lib.hid (HB1s.out.trans (hb.mono HB1s.out.size))
  clear hb
  obtain ⟨⟨cA0, cA1, cA2⟩, _⟩ := h_cells KA.out
  go_wp2_with fail
  refine (value_Cast.calls k n t d x y z 0 _ (GT.below HG.out HB2.out) HC.out).mono ?_
  rintro e w3 ⟨rfl, hb⟩
  clear cA0 cA1 cA2
  have K_ := Lib.hid (keep1 hb KA.out)
  clear KA
  have KA := K_
  clear K_
  have HB3 := Lib.hid (HB2.out.trans (hb.mono HB2.out.size))
  clear hb
  have K_ := Lib.hid (keepA (o' := .cells #[.int .i64 x, .int .i64 y, .string z] 23) KA.out)
  clear KA
  have KA := K_
  clear K_
  have KX := Lib.hid (heap_new w3 (.cells #[.int .i64 x, .int .i64 y, .string z] 23))
  have HB3a := Lib.hid (HB3.out.alloc HB3.out.size (.cells #[.int .i64 x, .int .i64 y, .string z] 23))
  obtain ⟨⟨cA0, cA1, cA2⟩, _⟩ := h_cells KA.out
  obtain ⟨⟨cX0, cX1, cX2⟩, _⟩ := h_cells KX.out
  go_wp2_with fail
  refine (Px.value_Valid.calls 1 x y z _ _ HVX.out).mono ?_
  rintro e w4 ⟨rfl, hb⟩
  clear cA0 cA1 cA2 cX0 cX1 cX2
  have K_ := Lib.hid (keep1 hb KA.out)
  clear KA
  have KA := K_
  clear K_
  have K_ := Lib.hid (keep1 hb KX.out)
  clear KX
  have KX := K_
  clear K_
  have HB4 := Lib.hid (HB3a.out.trans (hb.mono HB3a.out.size))
  clear hb
  obtain ⟨⟨cA0, cA1, cA2⟩, _⟩ := h_cells KA.out
  obtain ⟨⟨cX0, cX1, cX2⟩, _⟩ := h_cells KX.out
  go_wp2_with fail
  refine (value_Cast.calls k n t 1 1 0 s 0 _ (GT.below HG.out HB4.out) HC1.out).mono ?_
  rintro e w5 ⟨rfl, hb⟩
  clear cA0 cA1 cA2 cX0 cX1 cX2
  have K_ := Lib.hid (keep1 hb KA.out)
  clear KA
  have KA := K_
  clear K_
  have K_ := Lib.hid (keep1 hb KX.out)
  clear KX
  have KX := K_
  clear K_
  have HB5 := Lib.hid (HB4.out.trans (hb.mono HB4.out.size))
  clear hb
  have K_ := Lib.hid (keepA (o' := .cells #[.int .i64 1, .int .i64 0, .string s] 23) KA.out)
  clear KA
  have KA := K_
  clear K_
  have K_ := Lib.hid (keepA (o' := .cells #[.int .i64 1, .int .i64 0, .string s] 23) KX.out)
  clear KX
  have KX := K_
  clear K_
  have KS := Lib.hid (heap_new w5 (.cells #[.int .i64 1, .int .i64 0, .string s] 23))
  have HB5a := Lib.hid (HB5.out.alloc HB5.out.size (.cells #[.int .i64 1, .int .i64 0, .string s] 23))
  obtain ⟨⟨cA0, cA1, cA2⟩, _⟩ := h_cells KA.out
  obtain ⟨⟨cX0, cX1, cX2⟩, _⟩ := h_cells KX.out
  obtain ⟨⟨cS0, cS1, cS2⟩, _⟩ := h_cells KS.out
  go_wp2_with fail
  refine (value_Cast.calls 1 0 s k k n t 0 _ (GT.below HG.out HB5a.out) HC2.out).mono ?_
  rintro e w6 ⟨rfl, hb⟩
  clear cA0 cA1 cA2 cX0 cX1 cX2 cS0 cS1 cS2
  have K_ := Lib.hid (keep1 hb KA.out)
  clear KA
  have KA := K_
  clear K_
  have K_ := Lib.hid (keep1 hb KX.out)
  clear KX
  have KX := K_
  clear K_
  have K_ := Lib.hid (keep1 hb KS.out)
  clear KS
  have KS := K_
  clear K_
  have HB6 := Lib.hid (HB5a.out.trans (hb.mono HB5a.out.size))
  clear hb
  have K_ := Lib.hid (keepA (o' := .cells #[.int .i64 k, .int .i64 n, .string t] 23) KA.out)
  clear KA
  have KA := K_
  clear K_
  have K_ := Lib.hid (keepA (o' := .cells #[.int .i64 k, .int .i64 n, .string t] 23) KX.out)
  clear KX
  have KX := K_
  clear K_
  have K_ := Lib.hid (keepA (o' := .cells #[.int .i64 k, .int .i64 n, .string t] 23) KS.out)
  clear KS
  have KS := K_
  clear K_
  have KB := Lib.hid (heap_new w6 (.cells #[.int .i64 k, .int .i64 n, .string t] 23))
  have HB6a := Lib.hid (HB6.out.alloc HB6.out.size (.cells #[.int .i64 k, .int .i64 n, .string t] 23))
  obtain ⟨⟨cA0, cA1, cA2⟩, _⟩ := h_cells KA.out
  obtain ⟨⟨cX0, cX1, cX2⟩, _⟩ := h_cells KX.out
  obtain ⟨⟨cS0, cS1, cS2⟩, _⟩ := h_cells KS.out
  obtain ⟨⟨cB0, cB1, cB2⟩, _⟩ := h_cells KB.out
  go_wp2_with fail
  have hs0 := cs_all ⟨HB6a.out, KA.out, KS.out, KB.out⟩
  clear KX cA0 cA1 cA2 cX0 cX1 cX2 cS0 cS1 cS2 cB0 cB1 cB2
  skip
  generalize w5.heap.size = SB at *
  generalize w6.heap.size = BB at *
  generalize (w6.alloc (.cells #[.int .i64 k, .int .i64 n, .string t] 23)) = W at *
  go_region_held3 (fun w' => w'.cell? ⟨w.heap.size, 0, none⟩ = some (.int .i64 k) ∧ w'.cell? ⟨w.heap.size, 1, none⟩ = some (.int .i64 n) ∧ w'.cell? ⟨w.heap.size, 2, none⟩ = some (.string t) ∧ w'.cell? ⟨SB, 2, none⟩ = some (.string s) ∧ w'.cell? ⟨BB, 0, none⟩ = some (.int .i64 k) ∧ w'.cell? ⟨BB, 1, none⟩ = some (.int .i64 n) ∧ w'.cell? ⟨BB, 2, none⟩ = some (.string t) ∧ CSQ w w' k n t s SB BB)
    (first | assumption | exact cs_step (by assumption) (Below.refl _ _).drew | exact cs_step (by assumption) (Below.refl _ _))
    (first | (go_at_call 21; refine (value_Text.calls k n t s _ (cs_gt HG.out (by assumption)) HTX.out).mono ?_; rintro e wt ⟨rfl, hb⟩; have ht := cs_step (by assumption) hb; clear hb))
  have HB50 := Lib.hid ht.2.2.2.2.2.2.2
  rename_i hHeld_
  clear hs0 ht hHeld_
  have K_ := Lib.hid HB50.out.2.1
  clear KA
  have KA := K_
  clear K_
  obtain ⟨⟨cA0, cA1, cA2⟩, _⟩ := h_cells KA.out
  go_wp2_with fail
  go_ret
  exact ⟨rfl, HB50.out.1⟩

set_option maxRecDepth 100000 in
set_option maxHeartbeats 4000000 in
theorem casts_j (k n : Int) (t : ByteArray) (d : Int) (w : World) (hG : GT w) (hs : shortB [⟨k, n, t⟩] = true) (x y : Int) (z : ByteArray) (hc : castR k n t d = (x, y, z, 0)) (hx : ValidP x y z.data.toList) (hx0 : (x == 0) = (k == 0)) (hxd : x = 0 ∨ x = d) (h0 : k ≠ 0) (h1 : k ≠ 1) (s : ByteArray) (hc1 : castR k n t 1 = (1, 0, s, 0)) (hc2 : castR 1 0 s k = (k, n, t, 0)) (htx : value_Text.f k n t = some s) (h3 : k = 3) (u : ByteArray) (hc3 : castR k n t 2 = (2, n, u, 0)) (hc4 : castR 2 n u 3 = (k, n, t, 0)) :
    Calls Tryz.prog 6 #[.agg #[.int .i64 k, .int .i64 n, .string t], .int .i64 d] w fun e w' => HeadPost w e w' := by
  have HG := Lib.hid hG
  clear hG
  have HSH := Lib.hid ((short_f [⟨k, n, t⟩] (by simp) 10 (by simp)).trans (congrArg some hs))
  clear hs
  have HC := Lib.hid (show value_Cast.f k n t d = some (x, y, z, 0) from congrArg some hc)
  have HVX := Lib.hid ((valid_f 0 x y z).trans (congrArg some (valid_iff.2 hx)))
  have g2 := nes h0
  rw [g2] at hx0
  have g3 : x ≠ 0 := beq_eq_false_iff_ne.1 hx0
  have g4 : (x != 0) = true := bne_iff_ne.2 g3
  have g5 : x = d := hxd.resolve_left g3
  have g6 : (x != d) = false := bne_eq_false_iff_eq.2 g5
  have g7 := eqs g5
  have g8 := nes h1
  have HC1 := Lib.hid (show value_Cast.f k n t 1 = some (1, 0, s, 0) from congrArg some hc1)
  have HC2 := Lib.hid (show value_Cast.f 1 0 s k = some (k, n, t, 0) from congrArg some hc2)
  have HTX := Lib.hid htx
  have g9 : (k != 3) = false := bne_eq_false_iff_eq.2 h3
  have g10 := eqs h3
  have HC3 := Lib.hid (show value_Cast.f k n t 2 = some (2, n, u, 0) from congrArg some hc3)
  have HC4 := Lib.hid (show value_Cast.f 2 n u 3 = some (k, n, t, 0) from congrArg some hc4)
  clear hc hx hxd h0 h1 g3 g5 hc1 hc2 htx h3 hc3 hc4
  go_enter Tryz.func6, Tryz.ntmps6
  go_wp2_with fail
  have KA := heap_new w (.cells #[.int .i64 k, .int .i64 n, .string t] 23)
  have K_ := Lib.hid KA
  clear KA
  have KA := K_
  clear K_
  have HB0 := Lib.hid ((Below.refl w.heap.size w).alloc (Nat.le_refl _) (.cells #[.int .i64 k, .int .i64 n, .string t] 23))
  refine (cleanselaw02_head.calls true _ (GT.below HG.out HB0.out) rfl).mono ?_
  rintro e w1 ⟨rfl, hb⟩
  have K_ := Lib.hid (keep1 hb KA.out)
  clear KA
  have KA := K_
  clear K_
  have HB1 := Lib.hid (HB0.out.trans (hb.mono HB0.out.size))
  clear hb
  obtain ⟨⟨cA0, cA1, cA2⟩, _⟩ := h_cells KA.out
  go_wp2_with fail
  clear cA0 cA1 cA2
  have K_ := Lib.hid (keepA (o' := .cells #[.int .i64 k, .int .i64 n, .string t] 23) KA.out)
  clear KA
  have KA := K_
  clear K_
  have HB1s := Lib.hid (HB1.out.alloc HB1.out.size (.cells #[.int .i64 k, .int .i64 n, .string t] 23))
  refine (Px.cleanselaw02_short.calls 10 _ 1 [⟨k, n, t⟩] true _ (row1 (heap_new w1 _)) (Nat.le_refl _) HSH.out).mono ?_
  rintro e w2 ⟨rfl, hd⟩
  have hb := hd.below
  clear hd
  have K_ := Lib.hid (keep1 hb KA.out)
  clear KA
  have KA := K_
  clear K_
  have HB2 := Lib.hid (HB1s.out.trans (hb.mono HB1s.out.size))
  clear hb
  obtain ⟨⟨cA0, cA1, cA2⟩, _⟩ := h_cells KA.out
  go_wp2_with fail
  refine (value_Cast.calls k n t d x y z 0 _ (GT.below HG.out HB2.out) HC.out).mono ?_
  rintro e w3 ⟨rfl, hb⟩
  clear cA0 cA1 cA2
  have K_ := Lib.hid (keep1 hb KA.out)
  clear KA
  have KA := K_
  clear K_
  have HB3 := Lib.hid (HB2.out.trans (hb.mono HB2.out.size))
  clear hb
  have K_ := Lib.hid (keepA (o' := .cells #[.int .i64 x, .int .i64 y, .string z] 23) KA.out)
  clear KA
  have KA := K_
  clear K_
  have KX := Lib.hid (heap_new w3 (.cells #[.int .i64 x, .int .i64 y, .string z] 23))
  have HB3a := Lib.hid (HB3.out.alloc HB3.out.size (.cells #[.int .i64 x, .int .i64 y, .string z] 23))
  obtain ⟨⟨cA0, cA1, cA2⟩, _⟩ := h_cells KA.out
  obtain ⟨⟨cX0, cX1, cX2⟩, _⟩ := h_cells KX.out
  go_wp2_with fail
  refine (Px.value_Valid.calls 1 x y z _ _ HVX.out).mono ?_
  rintro e w4 ⟨rfl, hb⟩
  clear cA0 cA1 cA2 cX0 cX1 cX2
  have K_ := Lib.hid (keep1 hb KA.out)
  clear KA
  have KA := K_
  clear K_
  have K_ := Lib.hid (keep1 hb KX.out)
  clear KX
  have KX := K_
  clear K_
  have HB4 := Lib.hid (HB3a.out.trans (hb.mono HB3a.out.size))
  clear hb
  obtain ⟨⟨cA0, cA1, cA2⟩, _⟩ := h_cells KA.out
  obtain ⟨⟨cX0, cX1, cX2⟩, _⟩ := h_cells KX.out
  go_wp2_with fail
  refine (value_Cast.calls k n t 1 1 0 s 0 _ (GT.below HG.out HB4.out) HC1.out).mono ?_
  rintro e w5 ⟨rfl, hb⟩
  clear cA0 cA1 cA2 cX0 cX1 cX2
  have K_ := Lib.hid (keep1 hb KA.out)
  clear KA
  have KA := K_
  clear K_
  have K_ := Lib.hid (keep1 hb KX.out)
  clear KX
  have KX := K_
  clear K_
  have HB5 := Lib.hid (HB4.out.trans (hb.mono HB4.out.size))
  clear hb
  have K_ := Lib.hid (keepA (o' := .cells #[.int .i64 1, .int .i64 0, .string s] 23) KA.out)
  clear KA
  have KA := K_
  clear K_
  have K_ := Lib.hid (keepA (o' := .cells #[.int .i64 1, .int .i64 0, .string s] 23) KX.out)
  clear KX
  have KX := K_
  clear K_
  have KS := Lib.hid (heap_new w5 (.cells #[.int .i64 1, .int .i64 0, .string s] 23))
  have HB5a := Lib.hid (HB5.out.alloc HB5.out.size (.cells #[.int .i64 1, .int .i64 0, .string s] 23))
  obtain ⟨⟨cA0, cA1, cA2⟩, _⟩ := h_cells KA.out
  obtain ⟨⟨cX0, cX1, cX2⟩, _⟩ := h_cells KX.out
  obtain ⟨⟨cS0, cS1, cS2⟩, _⟩ := h_cells KS.out
  go_wp2_with fail
  refine (value_Cast.calls 1 0 s k k n t 0 _ (GT.below HG.out HB5a.out) HC2.out).mono ?_
  rintro e w6 ⟨rfl, hb⟩
  clear cA0 cA1 cA2 cX0 cX1 cX2 cS0 cS1 cS2
  have K_ := Lib.hid (keep1 hb KA.out)
  clear KA
  have KA := K_
  clear K_
  have K_ := Lib.hid (keep1 hb KX.out)
  clear KX
  have KX := K_
  clear K_
  have K_ := Lib.hid (keep1 hb KS.out)
  clear KS
  have KS := K_
  clear K_
  have HB6 := Lib.hid (HB5a.out.trans (hb.mono HB5a.out.size))
  clear hb
  have K_ := Lib.hid (keepA (o' := .cells #[.int .i64 k, .int .i64 n, .string t] 23) KA.out)
  clear KA
  have KA := K_
  clear K_
  have K_ := Lib.hid (keepA (o' := .cells #[.int .i64 k, .int .i64 n, .string t] 23) KX.out)
  clear KX
  have KX := K_
  clear K_
  have K_ := Lib.hid (keepA (o' := .cells #[.int .i64 k, .int .i64 n, .string t] 23) KS.out)
  clear KS
  have KS := K_
  clear K_
  have KB := Lib.hid (heap_new w6 (.cells #[.int .i64 k, .int .i64 n, .string t] 23))
  have HB6a := Lib.hid (HB6.out.alloc HB6.out.size (.cells #[.int .i64 k, .int .i64 n, .string t] 23))
  obtain ⟨⟨cA0, cA1, cA2⟩, _⟩ := h_cells KA.out
  obtain ⟨⟨cX0, cX1, cX2⟩, _⟩ := h_cells KX.out
  obtain ⟨⟨cS0, cS1, cS2⟩, _⟩ := h_cells KS.out
  obtain ⟨⟨cB0, cB1, cB2⟩, _⟩ := h_cells KB.out
  go_wp2_with fail
  have hs0 := cs_all ⟨HB6a.out, KA.out, KS.out, KB.out⟩
  clear KX cA0 cA1 cA2 cX0 cX1 cX2 cS0 cS1 cS2 cB0 cB1 cB2
  skip
  generalize w5.heap.size = SB at *
  generalize w6.heap.size = BB at *
  generalize (w6.alloc (.cells #[.int .i64 k, .int .i64 n, .string t] 23)) = W at *
  go_region_held3 (fun w' => w'.cell? ⟨w.heap.size, 0, none⟩ = some (.int .i64 k) ∧ w'.cell? ⟨w.heap.size, 1, none⟩ = some (.int .i64 n) ∧ w'.cell? ⟨w.heap.size, 2, none⟩ = some (.string t) ∧ w'.cell? ⟨SB, 2, none⟩ = some (.string s) ∧ w'.cell? ⟨BB, 0, none⟩ = some (.int .i64 k) ∧ w'.cell? ⟨BB, 1, none⟩ = some (.int .i64 n) ∧ w'.cell? ⟨BB, 2, none⟩ = some (.string t) ∧ CSQ w w' k n t s SB BB)
    (first | assumption | exact cs_step (by assumption) (Below.refl _ _).drew | exact cs_step (by assumption) (Below.refl _ _))
    (first | (go_at_call 21; refine (value_Text.calls k n t s _ (cs_gt HG.out (by assumption)) HTX.out).mono ?_; rintro e wt ⟨rfl, hb⟩; have ht := cs_step (by assumption) hb; clear hb))
  have HB50 := Lib.hid ht.2.2.2.2.2.2.2
  rename_i hHeld_
  clear hs0 ht hHeld_
  have K_ := Lib.hid HB50.out.2.1
  clear KA
  have KA := K_
  clear K_
  obtain ⟨⟨cA0, cA1, cA2⟩, _⟩ := h_cells KA.out
  go_wp2_with fail
  refine (value_Cast.calls k n t 2 2 n u 0 _ (GT.below HG.out HB50.out.1) HC3.out).mono ?_
  rintro e w51 ⟨rfl, hb⟩
  clear cA0 cA1 cA2
  have K_ := Lib.hid (keep1 hb KA.out)
  clear KA
  have KA := K_
  clear K_
  have HB51 := Lib.hid (HB50.out.1.trans (hb.mono HB50.out.1.size))
  clear hb
  have K_ := Lib.hid (keepA (o' := .cells #[.int .i64 2, .int .i64 n, .string u] 23) KA.out)
  clear KA
  have KA := K_
  clear K_
  have KN := Lib.hid (heap_new w51 (.cells #[.int .i64 2, .int .i64 n, .string u] 23))
  have HB51a := Lib.hid (HB51.out.alloc HB51.out.size (.cells #[.int .i64 2, .int .i64 n, .string u] 23))
  obtain ⟨⟨cA0, cA1, cA2⟩, _⟩ := h_cells KA.out
  obtain ⟨⟨cN0, cN1, cN2⟩, _⟩ := h_cells KN.out
  go_wp2_with fail
  refine (value_Cast.calls 2 n u 3 k n t 0 _ (GT.below HG.out HB51a.out) HC4.out).mono ?_
  rintro e w52 ⟨rfl, hb⟩
  clear cA0 cA1 cA2 cN0 cN1 cN2
  have K_ := Lib.hid (keep1 hb KA.out)
  clear KA
  have KA := K_
  clear K_
  have K_ := Lib.hid (keep1 hb KN.out)
  clear KN
  have KN := K_
  clear K_
  have HB52 := Lib.hid (HB51a.out.trans (hb.mono HB51a.out.size))
  clear hb
  have K_ := Lib.hid (keepA (o' := .cells #[.int .i64 k, .int .i64 n, .string t] 23) KA.out)
  clear KA
  have KA := K_
  clear K_
  have K_ := Lib.hid (keepA (o' := .cells #[.int .i64 k, .int .i64 n, .string t] 23) KN.out)
  clear KN
  have KN := K_
  clear K_
  have KD := Lib.hid (heap_new w52 (.cells #[.int .i64 k, .int .i64 n, .string t] 23))
  have HB52a := Lib.hid (HB52.out.alloc HB52.out.size (.cells #[.int .i64 k, .int .i64 n, .string t] 23))
  obtain ⟨⟨cA0, cA1, cA2⟩, _⟩ := h_cells KA.out
  obtain ⟨⟨cN0, cN1, cN2⟩, _⟩ := h_cells KN.out
  obtain ⟨⟨cD0, cD1, cD2⟩, _⟩ := h_cells KD.out
  go_wp2_with fail
  go_ret
  exact ⟨rfl, HB52a.out⟩

end Go.Proofs.YthgppbpmcjkadaaGreatDoor.X
namespace Go.Proofs.YthgppbpmcjkadaaGreatDoor.Xn
open Go.RowKit X Go.Proofs.YthgppbpmcjkadaaGreatDoorW.PrintWords
def cleanselaw02_ValueCasts.f (a0_0 : Int) (a0_1 : Int) (a0_2 : ByteArray) (a1 : Int) : Option Bool := some true
theorem cleanselaw02_ValueCasts.calls (a0_0 : Int) (a0_1 : Int) (a0_2 : ByteArray) (a1 : Int) (r : Bool) (w : World) (hG : X.GT w) (h : cleanselaw02_ValueCasts.f a0_0 a0_1 a0_2 a1 = some r) :
    Calls Tryz.prog 6 #[.agg #[.int .i64 a0_0, .int .i64 a0_1, .string a0_2], .int .i64 a1] w fun e w' => e = .returned (.bool r) ∧ Below w.heap.size w w' := by
  obtain rfl := Option.some.inj h
  show Calls Tryz.prog 6 _ w fun e w' => HeadPost w e w'
  cases hs : shortB [⟨a0_0, a0_1, a0_2⟩] with
  | false => exact casts_s _ _ _ _ w hG hs
  | true =>
    by_cases ha : ValidP a0_0 a0_1 a0_2.data.toList
    case neg => exact casts_a _ _ _ _ w hG hs ha (cast_bad1 ha)
    by_cases hd : a1 < 1
    · exact casts_b _ _ _ _ w hG hs ha hd (cast_bad2 ha hd)
    by_cases hd4 : 4 < a1
    · exact casts_c _ _ _ _ w hG hs ha (by omega) hd4 (cast_bad3 ha (by omega) hd4)
    rcases cast_kind ha (show 1 ≤ a1 by omega) (show a1 ≤ 4 by omega) with ⟨x, y, z, hc, hx, hx0, hxd⟩ | ⟨e, he0, he1, hc⟩
    case inr => exact casts_e _ _ _ _ w hG hs ha (by omega) (by omega) e he0 he1 hc
    by_cases h0 : a0_0 = 0
    · exact casts_g _ _ _ _ w hG hs x y z hc hx hx0 hxd h0
    by_cases h1 : a0_0 = 1
    · exact casts_h _ _ _ _ w hG hs x y z hc hx hx0 hxd h0 h1
    by_cases h3 : a0_0 = 3
    · subst h3
      exact casts_j _ _ _ _ w hG hs x y z hc hx hx0 hxd h0 h1 _ (cast_text ha h0 h1) (cast_back ha h0 h1) rfl rfl _ (cast_day ha).1 (cast_day ha).2
    · exact casts_i _ _ _ _ w hG hs x y z hc hx hx0 hxd h0 h1 _ (cast_text ha h0 h1) (cast_back ha h0 h1) rfl h3
end Go.Proofs.YthgppbpmcjkadaaGreatDoor.Xn
