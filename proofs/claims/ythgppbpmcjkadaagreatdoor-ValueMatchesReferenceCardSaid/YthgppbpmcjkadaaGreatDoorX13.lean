/- value.Parse in the form of the printed contracts. -/
import Derived.Test.YthgppbpmcjkadaaGreatDoorPlA
import Derived.Test.YthgppbpmcjkadaaGreatDoorX4
import Derived.Test.YthgppbpmcjkadaaGreatDoorX6
import Derived.Test.YthgppbpmcjkadaaGreatDoorX7
import Derived.Test.YthgppbpmcjkadaaGreatDoorX8
set_option linter.unusedVariables false
set_option linter.unusedSimpArgs false
namespace Go.Proofs.YthgppbpmcjkadaaGreatDoor.X
open Go.RowKit Go.Proofs.YthgppbpmcjkadaaGreatDoorW.PrintWords Go.Proofs.YthgppbpmcjkadaaGreatDoorW.PrintLast Go.Proofs.YthgppbpmcjkadaaGreatDoorW.PrintMore
def parseR (l : List UInt8) : Int × Int × ByteArray × Int := match parseZ l with
  | none => (0, 0, bs [], 4)
  | some (k, n, t) => (k, n, bs t, 0)
def ParsePost (c : ByteArray) (w : World) (e : Ending) (w' : World) : Prop :=
  e = .returned (.tuple #[.agg #[.int .i64 (parseR c.data.toList).1, .int .i64 (parseR c.data.toList).2.1, .string (parseR c.data.toList).2.2.1], .int .i64 (parseR c.data.toList).2.2.2]) ∧ Below w.heap.size w w'
theorem pre_one (l : List UInt8) (b : UInt8) : Lib.hasPrefix l [b] = decide (l.head? = some b) := by
  cases l with
  | nil => simp [Lib.hasPrefix]
  | cons a l =>
    have e : Lib.hasPrefix (a :: l) [b] = (b == a) := by simp [Lib.hasPrefix, List.isPrefixOf]
    rw [e, List.head?_cons]
    by_cases h : b = a
    · subst h; simp
    · rw [beq_eq_false_iff_ne.2 h, decide_eq_false (fun h2 => h (Option.some.inj h2).symm)]

set_option maxRecDepth 100000 in
set_option maxHeartbeats 4000000 in
theorem parse_null (c : ByteArray) (w : World) (hc : c.size ≤ 1000000) (h0 : c.data.toList = [110, 117, 108, 108]) : Calls Tryz.prog 13 #[.string c] w fun e w' => ParsePost c w e w' := by
  have hz : parseR c.data.toList = (0, 0, bs [], 0) := by rw [h0]; rfl
  have t0 : (c.toList == [110, 117, 108, 108]) = true := by rw [ByteArray.toList_eq]; exact beq_iff_eq.2 h0
  have HZ := Lib.hid hz
  have HV := Lib.hid (show Px.value_Valid.f 1 0 0 ⟨#[]⟩ = some true from by rw [valid_f 0]; exact congrArg some (by decide))
  clear hz h0
  go_enter Tryz.func13, Tryz.ntmps13
  go_wp2_with fail
  have h2 := h_two w (.cells #[Value.int IntKind.i64 0, Value.int IntKind.i64 0, Value.string ⟨#[]⟩] 23) (.cells #[Value.int IntKind.i64 0, Value.int IntKind.i64 0, Value.string ⟨#[]⟩] 23)
  refine (Px.value_Valid.calls 1 _ _ _ _ _ HV.out).mono ?_
  rintro e w9 ⟨rfl, hb⟩
  obtain ⟨hN, hN1⟩ := h_keep hb (h2.1) (h2.2)
  have HB9 := Lib.hid ((((Below.refl _ _).alloc (Nat.le_refl w.heap.size) _).alloc (by simp) _).trans (hb.mono (by first | (simp; done) | (simp; omega) | (have hs_ := HB1.out.size; simp; omega))))
  try clear a0 a1 a2 f0 f1 f2 b0 b1 b2 g0 g1 g2
  obtain ⟨⟨a0, a1, a2⟩, f0, f1, f2⟩ := h_cells hN
  obtain ⟨⟨b0, b1, b2⟩, g0, g1, g2⟩ := h_cells hN1
  have HN0 := Lib.hid hN
  clear hb hN hN1
  go_wp2_with fail
  refine bodyPost_ret (results_ct rfl _ _ w.heap.size 23 #[.int .i64 (0), .int .i64 (0), .string ⟨#[]⟩] (0, 0) _ rfl (h_set3 HN0.out _ _ _) Tryz.underlying23 rfl (by kernel_rfl)) rfl ?_
  exact ⟨by rw [HZ.out]; rfl, h_below3 HB9.out (Nat.le_refl _) _ _ _⟩

set_option maxRecDepth 100000 in
set_option maxHeartbeats 4000000 in
theorem parse_true (c : ByteArray) (w : World) (hc : c.size ≤ 1000000) (h0 : c.data.toList ≠ [110, 117, 108, 108]) (h1 : c.data.toList = [116, 114, 117, 101]) : Calls Tryz.prog 13 #[.string c] w fun e w' => ParsePost c w e w' := by
  have hz : parseR c.data.toList = (4, 1, bs [], 0) := by rw [h1]; rfl
  have t0 : (c.toList == [110, 117, 108, 108]) = false := by rw [ByteArray.toList_eq]; exact beq_eq_false_iff_ne.2 h0
  have t1 : (c.toList == [116, 114, 117, 101]) = true := by rw [ByteArray.toList_eq]; exact beq_iff_eq.2 h1
  have HZ := Lib.hid hz
  have HV := Lib.hid (show Px.value_Valid.f 1 4 1 ⟨#[]⟩ = some true from by rw [valid_f 0]; exact congrArg some (by decide))
  clear hz h0 h1
  go_enter Tryz.func13, Tryz.ntmps13
  go_wp2_with fail
  have h2 := h_two w (.cells #[Value.int IntKind.i64 0, Value.int IntKind.i64 0, Value.string ⟨#[]⟩] 23) (.cells #[Value.int IntKind.i64 4, Value.int IntKind.i64 1, Value.string ⟨#[]⟩] 23)
  refine (Px.value_Valid.calls 1 _ _ _ _ _ HV.out).mono ?_
  rintro e w9 ⟨rfl, hb⟩
  obtain ⟨hN, hN1⟩ := h_keep hb (h2.1) (h2.2)
  have HB9 := Lib.hid ((((Below.refl _ _).alloc (Nat.le_refl w.heap.size) _).alloc (by simp) _).trans (hb.mono (by first | (simp; done) | (simp; omega) | (have hs_ := HB1.out.size; simp; omega))))
  try clear a0 a1 a2 f0 f1 f2 b0 b1 b2 g0 g1 g2
  obtain ⟨⟨a0, a1, a2⟩, f0, f1, f2⟩ := h_cells hN
  obtain ⟨⟨b0, b1, b2⟩, g0, g1, g2⟩ := h_cells hN1
  have HN0 := Lib.hid hN
  clear hb hN hN1
  go_wp2_with fail
  refine bodyPost_ret (results_ct rfl _ _ w.heap.size 23 #[.int .i64 (4), .int .i64 (1), .string ⟨#[]⟩] (0, 0) _ rfl (h_set3 HN0.out _ _ _) Tryz.underlying23 rfl (by kernel_rfl)) rfl ?_
  exact ⟨by rw [HZ.out]; rfl, h_below3 HB9.out (Nat.le_refl _) _ _ _⟩

set_option maxRecDepth 100000 in
set_option maxHeartbeats 4000000 in
theorem parse_false (c : ByteArray) (w : World) (hc : c.size ≤ 1000000) (h0 : c.data.toList ≠ [110, 117, 108, 108]) (h1 : c.data.toList ≠ [116, 114, 117, 101]) (h2 : c.data.toList = [102, 97, 108, 115, 101]) : Calls Tryz.prog 13 #[.string c] w fun e w' => ParsePost c w e w' := by
  have hz : parseR c.data.toList = (4, 0, bs [], 0) := by rw [h2]; rfl
  have t0 : (c.toList == [110, 117, 108, 108]) = false := by rw [ByteArray.toList_eq]; exact beq_eq_false_iff_ne.2 h0
  have t1 : (c.toList == [116, 114, 117, 101]) = false := by rw [ByteArray.toList_eq]; exact beq_eq_false_iff_ne.2 h1
  have t2 : (c.toList == [102, 97, 108, 115, 101]) = true := by rw [ByteArray.toList_eq]; exact beq_iff_eq.2 h2
  have HZ := Lib.hid hz
  have HV := Lib.hid (show Px.value_Valid.f 1 4 0 ⟨#[]⟩ = some true from by rw [valid_f 0]; exact congrArg some (by decide))
  clear hz h0 h1 h2
  go_enter Tryz.func13, Tryz.ntmps13
  go_wp2_with fail
  have h2 := h_two w (.cells #[Value.int IntKind.i64 0, Value.int IntKind.i64 0, Value.string ⟨#[]⟩] 23) (.cells #[Value.int IntKind.i64 4, Value.int IntKind.i64 0, Value.string ⟨#[]⟩] 23)
  refine (Px.value_Valid.calls 1 _ _ _ _ _ HV.out).mono ?_
  rintro e w9 ⟨rfl, hb⟩
  obtain ⟨hN, hN1⟩ := h_keep hb (h2.1) (h2.2)
  have HB9 := Lib.hid ((((Below.refl _ _).alloc (Nat.le_refl w.heap.size) _).alloc (by simp) _).trans (hb.mono (by first | (simp; done) | (simp; omega) | (have hs_ := HB1.out.size; simp; omega))))
  try clear a0 a1 a2 f0 f1 f2 b0 b1 b2 g0 g1 g2
  obtain ⟨⟨a0, a1, a2⟩, f0, f1, f2⟩ := h_cells hN
  obtain ⟨⟨b0, b1, b2⟩, g0, g1, g2⟩ := h_cells hN1
  have HN0 := Lib.hid hN
  clear hb hN hN1
  go_wp2_with fail
  refine bodyPost_ret (results_ct rfl _ _ w.heap.size 23 #[.int .i64 (4), .int .i64 (0), .string ⟨#[]⟩] (0, 0) _ rfl (h_set3 HN0.out _ _ _) Tryz.underlying23 rfl (by kernel_rfl)) rfl ?_
  exact ⟨by rw [HZ.out]; rfl, h_below3 HB9.out (Nat.le_refl _) _ _ _⟩

set_option maxRecDepth 100000 in
set_option maxHeartbeats 4000000 in
theorem parse_num_f (c : ByteArray) (w : World) (hc : c.size ≤ 1000000) (hG : GT w) (h0 : c.data.toList ≠ [110, 117, 108, 108]) (h1 : c.data.toList ≠ [116, 114, 117, 101]) (h2 : c.data.toList ≠ [102, 97, 108, 115, 101]) (h3 : c.data.toList.head? ≠ some 64) (h4 : c.data.toList.head? ≠ some 34) (hr : (decZ c.data.toList).2 = false) (hz : parseR c.data.toList = (0, 0, bs [], 4)) : Calls Tryz.prog 13 #[.string c] w fun e w' => ParsePost c w e w' := by
  have t0 : (c.toList == [110, 117, 108, 108]) = false := by rw [ByteArray.toList_eq]; exact beq_eq_false_iff_ne.2 h0
  have t1 : (c.toList == [116, 114, 117, 101]) = false := by rw [ByteArray.toList_eq]; exact beq_eq_false_iff_ne.2 h1
  have t2 : (c.toList == [102, 97, 108, 115, 101]) = false := by rw [ByteArray.toList_eq]; exact beq_eq_false_iff_ne.2 h2
  have p1 : Lib.hasPrefix c.data.toList [64] = false := by rw [pre_one]; exact decide_eq_false h3
  have p2 : Lib.hasPrefix c.data.toList [34] = false := by rw [pre_one]; exact decide_eq_false h4
  have HP1 := Lib.hid (fun W => Tryz.strings_HasPrefix c ⟨#[64]⟩ W)
  have HP2 := Lib.hid (fun W => Tryz.strings_HasPrefix c ⟨#[34]⟩ W)
  have HG := Lib.hid hG
  clear h3 h4 hG
  have HZ := Lib.hid hz
  clear hz h0 h1 h2
  go_enter Tryz.func13, Tryz.ntmps13
  go_wp2_with fail
  refine (HP1.out _).mono ?_
  rintro e w' ⟨rfl, rfl⟩
  go_wp2_with fail
  refine (HP2.out _).mono ?_
  rintro e w' ⟨rfl, rfl⟩
  go_wp2_with fail
  refine (value_decimal.calls c (decZ c.data.toList).1 (decZ c.data.toList).2 _ (GT.below HG.out (((Below.refl _ _).alloc (Nat.le_refl w.heap.size) _).alloc (by simp) _)) (by unfold value_decimal.f; rw [if_pos (by omega)])).mono ?_
  rintro e w1 ⟨rfl, hb⟩
  have h2 := h_two w (.cells #[Value.int IntKind.i64 0, Value.int IntKind.i64 0, Value.string ⟨#[]⟩] 23) (.cells #[Value.int IntKind.i64 2, Value.int IntKind.i64 0, Value.string ⟨#[]⟩] 23)
  obtain ⟨hN, hN1⟩ := h_keep hb h2.1 h2.2
  have HB1 := Lib.hid ((((Below.refl _ _).alloc (Nat.le_refl w.heap.size) _).alloc (by simp) _).trans (hb.mono (by simp; try omega)))
  obtain ⟨⟨a0, a1, a2⟩, f0, f1, f2⟩ := h_cells hN
  obtain ⟨⟨b0, b1, b2⟩, g0, g1, g2⟩ := h_cells hN1
  have HNN := Lib.hid (And.intro hN hN1)
  clear hb h2 hN hN1
  rw [hr]
  go_wp2_with fail
  have HN0 := Lib.hid (h_far (M := w.heap.size + 1) (o := 1) (x := .int .i64 (decZ c.data.toList).1) HNN.out.1 (by omega))
  have HB9 := Lib.hid (HB1.out.setCell (p := ⟨w.heap.size + 1, 1, none⟩) (Nat.le_succ _) (.int .i64 (decZ c.data.toList).1))
  refine bodyPost_ret (results_ct rfl _ _ w.heap.size 23 #[.int .i64 (0), .int .i64 (0), .string ⟨#[]⟩] (0, 0) _ rfl (h_set3 HN0.out _ _ _) Tryz.underlying23 rfl (by kernel_rfl)) rfl ?_
  exact ⟨by rw [HZ.out]; rfl, h_below3 HB9.out (Nat.le_refl _) _ _ _⟩

set_option maxRecDepth 100000 in
set_option maxHeartbeats 4000000 in
theorem parse_num_v (c : ByteArray) (w : World) (hc : c.size ≤ 1000000) (hG : GT w) (h0 : c.data.toList ≠ [110, 117, 108, 108]) (h1 : c.data.toList ≠ [116, 114, 117, 101]) (h2 : c.data.toList ≠ [102, 97, 108, 115, 101]) (h3 : c.data.toList.head? ≠ some 64) (h4 : c.data.toList.head? ≠ some 34) (hr : (decZ c.data.toList).2 = true) (hv : validZ 2 (decZ c.data.toList).1 [] = true) (hz : parseR c.data.toList = (2, (decZ c.data.toList).1, bs [], 0)) : Calls Tryz.prog 13 #[.string c] w fun e w' => ParsePost c w e w' := by
  have t0 : (c.toList == [110, 117, 108, 108]) = false := by rw [ByteArray.toList_eq]; exact beq_eq_false_iff_ne.2 h0
  have t1 : (c.toList == [116, 114, 117, 101]) = false := by rw [ByteArray.toList_eq]; exact beq_eq_false_iff_ne.2 h1
  have t2 : (c.toList == [102, 97, 108, 115, 101]) = false := by rw [ByteArray.toList_eq]; exact beq_eq_false_iff_ne.2 h2
  have p1 : Lib.hasPrefix c.data.toList [64] = false := by rw [pre_one]; exact decide_eq_false h3
  have p2 : Lib.hasPrefix c.data.toList [34] = false := by rw [pre_one]; exact decide_eq_false h4
  have HP1 := Lib.hid (fun W => Tryz.strings_HasPrefix c ⟨#[64]⟩ W)
  have HP2 := Lib.hid (fun W => Tryz.strings_HasPrefix c ⟨#[34]⟩ W)
  have HG := Lib.hid hG
  clear h3 h4 hG
  have HZ := Lib.hid hz
  have HV := Lib.hid ((valid_f 0 2 ((decZ c.data.toList).1) ⟨#[]⟩).trans (congrArg some hv))
  clear hv
  clear hz h0 h1 h2
  go_enter Tryz.func13, Tryz.ntmps13
  go_wp2_with fail
  refine (HP1.out _).mono ?_
  rintro e w' ⟨rfl, rfl⟩
  go_wp2_with fail
  refine (HP2.out _).mono ?_
  rintro e w' ⟨rfl, rfl⟩
  go_wp2_with fail
  refine (value_decimal.calls c (decZ c.data.toList).1 (decZ c.data.toList).2 _ (GT.below HG.out (((Below.refl _ _).alloc (Nat.le_refl w.heap.size) _).alloc (by simp) _)) (by unfold value_decimal.f; rw [if_pos (by omega)])).mono ?_
  rintro e w1 ⟨rfl, hb⟩
  have h2 := h_two w (.cells #[Value.int IntKind.i64 0, Value.int IntKind.i64 0, Value.string ⟨#[]⟩] 23) (.cells #[Value.int IntKind.i64 2, Value.int IntKind.i64 0, Value.string ⟨#[]⟩] 23)
  obtain ⟨hN, hN1⟩ := h_keep hb h2.1 h2.2
  have HB1 := Lib.hid ((((Below.refl _ _).alloc (Nat.le_refl w.heap.size) _).alloc (by simp) _).trans (hb.mono (by simp; try omega)))
  obtain ⟨⟨a0, a1, a2⟩, f0, f1, f2⟩ := h_cells hN
  obtain ⟨⟨b0, b1, b2⟩, g0, g1, g2⟩ := h_cells hN1
  have HNN := Lib.hid (And.intro hN hN1)
  clear hb h2 hN hN1
  rw [hr]
  go_wp2_with fail
  refine (Px.value_Valid.calls 1 _ _ _ _ _ HV.out).mono ?_
  rintro e w9 ⟨rfl, hb⟩
  obtain ⟨hN, hN1⟩ := h_keep hb (h_far HNN.out.1 (by omega)) (h_set1 HNN.out.2 _)
  have HB9 := Lib.hid ((HB1.out.setCell (p := ⟨w.heap.size + 1, 1, none⟩) (Nat.le_succ _) _).trans (hb.mono (by first | (simp; done) | (simp; omega) | (have hs_ := HB1.out.size; simp; omega))))
  try clear a0 a1 a2 f0 f1 f2 b0 b1 b2 g0 g1 g2
  obtain ⟨⟨a0, a1, a2⟩, f0, f1, f2⟩ := h_cells hN
  obtain ⟨⟨b0, b1, b2⟩, g0, g1, g2⟩ := h_cells hN1
  have HN0 := Lib.hid hN
  clear hb hN hN1
  go_wp2_with fail
  refine bodyPost_ret (results_ct rfl _ _ w.heap.size 23 #[.int .i64 (2), .int .i64 ((decZ c.data.toList).1), .string ⟨#[]⟩] (0, 0) _ rfl (h_set3 HN0.out _ _ _) Tryz.underlying23 rfl (by kernel_rfl)) rfl ?_
  exact ⟨by rw [HZ.out]; rfl, h_below3 HB9.out (Nat.le_refl _) _ _ _⟩

set_option maxRecDepth 100000 in
set_option maxHeartbeats 4000000 in
theorem parse_num_n (c : ByteArray) (w : World) (hc : c.size ≤ 1000000) (hG : GT w) (h0 : c.data.toList ≠ [110, 117, 108, 108]) (h1 : c.data.toList ≠ [116, 114, 117, 101]) (h2 : c.data.toList ≠ [102, 97, 108, 115, 101]) (h3 : c.data.toList.head? ≠ some 64) (h4 : c.data.toList.head? ≠ some 34) (hr : (decZ c.data.toList).2 = true) (hv : validZ 2 (decZ c.data.toList).1 [] = false) (hz : parseR c.data.toList = (0, 0, bs [], 4)) : Calls Tryz.prog 13 #[.string c] w fun e w' => ParsePost c w e w' := by
  have t0 : (c.toList == [110, 117, 108, 108]) = false := by rw [ByteArray.toList_eq]; exact beq_eq_false_iff_ne.2 h0
  have t1 : (c.toList == [116, 114, 117, 101]) = false := by rw [ByteArray.toList_eq]; exact beq_eq_false_iff_ne.2 h1
  have t2 : (c.toList == [102, 97, 108, 115, 101]) = false := by rw [ByteArray.toList_eq]; exact beq_eq_false_iff_ne.2 h2
  have p1 : Lib.hasPrefix c.data.toList [64] = false := by rw [pre_one]; exact decide_eq_false h3
  have p2 : Lib.hasPrefix c.data.toList [34] = false := by rw [pre_one]; exact decide_eq_false h4
  have HP1 := Lib.hid (fun W => Tryz.strings_HasPrefix c ⟨#[64]⟩ W)
  have HP2 := Lib.hid (fun W => Tryz.strings_HasPrefix c ⟨#[34]⟩ W)
  have HG := Lib.hid hG
  clear h3 h4 hG
  have HZ := Lib.hid hz
  have HV := Lib.hid ((valid_f 0 2 ((decZ c.data.toList).1) ⟨#[]⟩).trans (congrArg some hv))
  clear hv
  clear hz h0 h1 h2
  go_enter Tryz.func13, Tryz.ntmps13
  go_wp2_with fail
  refine (HP1.out _).mono ?_
  rintro e w' ⟨rfl, rfl⟩
  go_wp2_with fail
  refine (HP2.out _).mono ?_
  rintro e w' ⟨rfl, rfl⟩
  go_wp2_with fail
  refine (value_decimal.calls c (decZ c.data.toList).1 (decZ c.data.toList).2 _ (GT.below HG.out (((Below.refl _ _).alloc (Nat.le_refl w.heap.size) _).alloc (by simp) _)) (by unfold value_decimal.f; rw [if_pos (by omega)])).mono ?_
  rintro e w1 ⟨rfl, hb⟩
  have h2 := h_two w (.cells #[Value.int IntKind.i64 0, Value.int IntKind.i64 0, Value.string ⟨#[]⟩] 23) (.cells #[Value.int IntKind.i64 2, Value.int IntKind.i64 0, Value.string ⟨#[]⟩] 23)
  obtain ⟨hN, hN1⟩ := h_keep hb h2.1 h2.2
  have HB1 := Lib.hid ((((Below.refl _ _).alloc (Nat.le_refl w.heap.size) _).alloc (by simp) _).trans (hb.mono (by simp; try omega)))
  obtain ⟨⟨a0, a1, a2⟩, f0, f1, f2⟩ := h_cells hN
  obtain ⟨⟨b0, b1, b2⟩, g0, g1, g2⟩ := h_cells hN1
  have HNN := Lib.hid (And.intro hN hN1)
  clear hb h2 hN hN1
  rw [hr]
  go_wp2_with fail
  refine (Px.value_Valid.calls 1 _ _ _ _ _ HV.out).mono ?_
  rintro e w9 ⟨rfl, hb⟩
  obtain ⟨hN, hN1⟩ := h_keep hb (h_far HNN.out.1 (by omega)) (h_set1 HNN.out.2 _)
  have HB9 := Lib.hid ((HB1.out.setCell (p := ⟨w.heap.size + 1, 1, none⟩) (Nat.le_succ _) _).trans (hb.mono (by first | (simp; done) | (simp; omega) | (have hs_ := HB1.out.size; simp; omega))))
  try clear a0 a1 a2 f0 f1 f2 b0 b1 b2 g0 g1 g2
  obtain ⟨⟨a0, a1, a2⟩, f0, f1, f2⟩ := h_cells hN
  obtain ⟨⟨b0, b1, b2⟩, g0, g1, g2⟩ := h_cells hN1
  have HN0 := Lib.hid hN
  clear hb hN hN1
  go_wp2_with fail
  refine bodyPost_ret (results_ct rfl _ _ w.heap.size 23 #[.int .i64 (0), .int .i64 (0), .string ⟨#[]⟩] (0, 0) _ rfl (h_set3 HN0.out _ _ _) Tryz.underlying23 rfl (by kernel_rfl)) rfl ?_
  exact ⟨by rw [HZ.out]; rfl, h_below3 HB9.out (Nat.le_refl _) _ _ _⟩

set_option maxRecDepth 100000 in
set_option maxHeartbeats 4000000 in
theorem parse_day_f (c : ByteArray) (w : World) (hc : c.size ≤ 1000000) (hG : GT w) (h0 : c.data.toList ≠ [110, 117, 108, 108]) (h1 : c.data.toList ≠ [116, 114, 117, 101]) (h2 : c.data.toList ≠ [102, 97, 108, 115, 101]) (h3 : c.data.toList.head? = some 64) (hr : (decZ c.data.toList.tail).2 = false) (hz : parseR c.data.toList = (0, 0, bs [], 4)) : Calls Tryz.prog 13 #[.string c] w fun e w' => ParsePost c w e w' := by
  have t0 : (c.toList == [110, 117, 108, 108]) = false := by rw [ByteArray.toList_eq]; exact beq_eq_false_iff_ne.2 h0
  have t1 : (c.toList == [116, 114, 117, 101]) = false := by rw [ByteArray.toList_eq]; exact beq_eq_false_iff_ne.2 h1
  have t2 : (c.toList == [102, 97, 108, 115, 101]) = false := by rw [ByteArray.toList_eq]; exact beq_eq_false_iff_ne.2 h2
  have p1 : Lib.hasPrefix c.data.toList [64] = true := by rw [pre_one]; exact decide_eq_true h3
  have HP1 := Lib.hid (fun W => Tryz.strings_HasPrefix c ⟨#[64]⟩ W)
  have HG := Lib.hid hG
  have hsz : 1 ≤ c.size := by
    rcases Nat.eq_zero_or_pos c.size with h | h
    · rw [(bytes_nil c).2 h] at h3; cases h3
    · exact h
  have q1 : (1 ≤ (c.size : Int)) = True := eq_true (by omega)
  have q1' : (1 ≤ c.size) = True := eq_true hsz
  have hd' : value_decimal.f (c.extract 1 c.size) = some (decZ c.data.toList.tail) := by
    unfold value_decimal.f
    rw [if_pos (by rw [ByteArray.size_extract]; omega), ext_list, List.take_of_length_le (by rw [len_list]; omega), List.drop_one]
  have HD := Lib.hid hd'
  clear hd' hsz h3 hG
  have HZ := Lib.hid hz
  clear hz h0 h1 h2
  go_enter Tryz.func13, Tryz.ntmps13
  go_wp2_with fail
  refine (HP1.out _).mono ?_
  rintro e w' ⟨rfl, rfl⟩
  go_wp2_with fail
  refine (value_decimal.calls _ (decZ c.data.toList.tail).1 (decZ c.data.toList.tail).2 _ (GT.below HG.out (((Below.refl _ _).alloc (Nat.le_refl w.heap.size) _).alloc (by simp) _)) HD.out).mono ?_
  rintro e w1 ⟨rfl, hb⟩
  have h2 := h_two w (.cells #[Value.int IntKind.i64 0, Value.int IntKind.i64 0, Value.string ⟨#[]⟩] 23) (.cells #[Value.int IntKind.i64 3, Value.int IntKind.i64 0, Value.string ⟨#[]⟩] 23)
  obtain ⟨hN, hN1⟩ := h_keep hb h2.1 h2.2
  have HB1 := Lib.hid ((((Below.refl _ _).alloc (Nat.le_refl w.heap.size) _).alloc (by simp) _).trans (hb.mono (by simp; try omega)))
  obtain ⟨⟨a0, a1, a2⟩, f0, f1, f2⟩ := h_cells hN
  obtain ⟨⟨b0, b1, b2⟩, g0, g1, g2⟩ := h_cells hN1
  have HNN := Lib.hid (And.intro hN hN1)
  clear hb h2 hN hN1
  rw [hr]
  go_wp2_with fail
  have HN0 := Lib.hid (h_far (M := w.heap.size + 1) (o := 1) (x := .int .i64 (decZ c.data.toList.tail).1) HNN.out.1 (by omega))
  have HB9 := Lib.hid (HB1.out.setCell (p := ⟨w.heap.size + 1, 1, none⟩) (Nat.le_succ _) (.int .i64 (decZ c.data.toList.tail).1))
  refine bodyPost_ret (results_ct rfl _ _ w.heap.size 23 #[.int .i64 (0), .int .i64 (0), .string ⟨#[]⟩] (0, 0) _ rfl (h_set3 HN0.out _ _ _) Tryz.underlying23 rfl (by kernel_rfl)) rfl ?_
  exact ⟨by rw [HZ.out]; rfl, h_below3 HB9.out (Nat.le_refl _) _ _ _⟩

set_option maxRecDepth 100000 in
set_option maxHeartbeats 4000000 in
theorem parse_day_v (c : ByteArray) (w : World) (hc : c.size ≤ 1000000) (hG : GT w) (h0 : c.data.toList ≠ [110, 117, 108, 108]) (h1 : c.data.toList ≠ [116, 114, 117, 101]) (h2 : c.data.toList ≠ [102, 97, 108, 115, 101]) (h3 : c.data.toList.head? = some 64) (hr : (decZ c.data.toList.tail).2 = true) (hv : validZ 3 (decZ c.data.toList.tail).1 [] = true) (hz : parseR c.data.toList = (3, (decZ c.data.toList.tail).1, bs [], 0)) : Calls Tryz.prog 13 #[.string c] w fun e w' => ParsePost c w e w' := by
  have t0 : (c.toList == [110, 117, 108, 108]) = false := by rw [ByteArray.toList_eq]; exact beq_eq_false_iff_ne.2 h0
  have t1 : (c.toList == [116, 114, 117, 101]) = false := by rw [ByteArray.toList_eq]; exact beq_eq_false_iff_ne.2 h1
  have t2 : (c.toList == [102, 97, 108, 115, 101]) = false := by rw [ByteArray.toList_eq]; exact beq_eq_false_iff_ne.2 h2
  have p1 : Lib.hasPrefix c.data.toList [64] = true := by rw [pre_one]; exact decide_eq_true h3
  have HP1 := Lib.hid (fun W => Tryz.strings_HasPrefix c ⟨#[64]⟩ W)
  have HG := Lib.hid hG
  have hsz : 1 ≤ c.size := by
    rcases Nat.eq_zero_or_pos c.size with h | h
    · rw [(bytes_nil c).2 h] at h3; cases h3
    · exact h
  have q1 : (1 ≤ (c.size : Int)) = True := eq_true (by omega)
  have q1' : (1 ≤ c.size) = True := eq_true hsz
  have hd' : value_decimal.f (c.extract 1 c.size) = some (decZ c.data.toList.tail) := by
    unfold value_decimal.f
    rw [if_pos (by rw [ByteArray.size_extract]; omega), ext_list, List.take_of_length_le (by rw [len_list]; omega), List.drop_one]
  have HD := Lib.hid hd'
  clear hd' hsz h3 hG
  have HZ := Lib.hid hz
  have HV := Lib.hid ((valid_f 0 3 ((decZ c.data.toList.tail).1) ⟨#[]⟩).trans (congrArg some hv))
  clear hv
  clear hz h0 h1 h2
  go_enter Tryz.func13, Tryz.ntmps13
  go_wp2_with fail
  refine (HP1.out _).mono ?_
  rintro e w' ⟨rfl, rfl⟩
  go_wp2_with fail
  refine (value_decimal.calls _ (decZ c.data.toList.tail).1 (decZ c.data.toList.tail).2 _ (GT.below HG.out (((Below.refl _ _).alloc (Nat.le_refl w.heap.size) _).alloc (by simp) _)) HD.out).mono ?_
  rintro e w1 ⟨rfl, hb⟩
  have h2 := h_two w (.cells #[Value.int IntKind.i64 0, Value.int IntKind.i64 0, Value.string ⟨#[]⟩] 23) (.cells #[Value.int IntKind.i64 3, Value.int IntKind.i64 0, Value.string ⟨#[]⟩] 23)
  obtain ⟨hN, hN1⟩ := h_keep hb h2.1 h2.2
  have HB1 := Lib.hid ((((Below.refl _ _).alloc (Nat.le_refl w.heap.size) _).alloc (by simp) _).trans (hb.mono (by simp; try omega)))
  obtain ⟨⟨a0, a1, a2⟩, f0, f1, f2⟩ := h_cells hN
  obtain ⟨⟨b0, b1, b2⟩, g0, g1, g2⟩ := h_cells hN1
  have HNN := Lib.hid (And.intro hN hN1)
  clear hb h2 hN hN1
  rw [hr]
  go_wp2_with fail
  refine (Px.value_Valid.calls 1 _ _ _ _ _ HV.out).mono ?_
  rintro e w9 ⟨rfl, hb⟩
  obtain ⟨hN, hN1⟩ := h_keep hb (h_far HNN.out.1 (by omega)) (h_set1 HNN.out.2 _)
  have HB9 := Lib.hid ((HB1.out.setCell (p := ⟨w.heap.size + 1, 1, none⟩) (Nat.le_succ _) _).trans (hb.mono (by first | (simp; done) | (simp; omega) | (have hs_ := HB1.out.size; simp; omega))))
  try clear a0 a1 a2 f0 f1 f2 b0 b1 b2 g0 g1 g2
  obtain ⟨⟨a0, a1, a2⟩, f0, f1, f2⟩ := h_cells hN
  obtain ⟨⟨b0, b1, b2⟩, g0, g1, g2⟩ := h_cells hN1
  have HN0 := Lib.hid hN
  clear hb hN hN1
  go_wp2_with fail
  refine bodyPost_ret (results_ct rfl _ _ w.heap.size 23 #[.int .i64 (3), .int .i64 ((decZ c.data.toList.tail).1), .string ⟨#[]⟩] (0, 0) _ rfl (h_set3 HN0.out _ _ _) Tryz.underlying23 rfl (by kernel_rfl)) rfl ?_
  exact ⟨by rw [HZ.out]; rfl, h_below3 HB9.out (Nat.le_refl _) _ _ _⟩

set_option maxRecDepth 100000 in
set_option maxHeartbeats 4000000 in
theorem parse_day_n (c : ByteArray) (w : World) (hc : c.size ≤ 1000000) (hG : GT w) (h0 : c.data.toList ≠ [110, 117, 108, 108]) (h1 : c.data.toList ≠ [116, 114, 117, 101]) (h2 : c.data.toList ≠ [102, 97, 108, 115, 101]) (h3 : c.data.toList.head? = some 64) (hr : (decZ c.data.toList.tail).2 = true) (hv : validZ 3 (decZ c.data.toList.tail).1 [] = false) (hz : parseR c.data.toList = (0, 0, bs [], 4)) : Calls Tryz.prog 13 #[.string c] w fun e w' => ParsePost c w e w' := by
  have t0 : (c.toList == [110, 117, 108, 108]) = false := by rw [ByteArray.toList_eq]; exact beq_eq_false_iff_ne.2 h0
  have t1 : (c.toList == [116, 114, 117, 101]) = false := by rw [ByteArray.toList_eq]; exact beq_eq_false_iff_ne.2 h1
  have t2 : (c.toList == [102, 97, 108, 115, 101]) = false := by rw [ByteArray.toList_eq]; exact beq_eq_false_iff_ne.2 h2
  have p1 : Lib.hasPrefix c.data.toList [64] = true := by rw [pre_one]; exact decide_eq_true h3
  have HP1 := Lib.hid (fun W => Tryz.strings_HasPrefix c ⟨#[64]⟩ W)
  have HG := Lib.hid hG
  have hsz : 1 ≤ c.size := by
    rcases Nat.eq_zero_or_pos c.size with h | h
    · rw [(bytes_nil c).2 h] at h3; cases h3
    · exact h
  have q1 : (1 ≤ (c.size : Int)) = True := eq_true (by omega)
  have q1' : (1 ≤ c.size) = True := eq_true hsz
  have hd' : value_decimal.f (c.extract 1 c.size) = some (decZ c.data.toList.tail) := by
    unfold value_decimal.f
    rw [if_pos (by rw [ByteArray.size_extract]; omega), ext_list, List.take_of_length_le (by rw [len_list]; omega), List.drop_one]
  have HD := Lib.hid hd'
  clear hd' hsz h3 hG
  have HZ := Lib.hid hz
  have HV := Lib.hid ((valid_f 0 3 ((decZ c.data.toList.tail).1) ⟨#[]⟩).trans (congrArg some hv))
  clear hv
  clear hz h0 h1 h2
  go_enter Tryz.func13, Tryz.ntmps13
  go_wp2_with fail
  refine (HP1.out _).mono ?_
  rintro e w' ⟨rfl, rfl⟩
  go_wp2_with fail
  refine (value_decimal.calls _ (decZ c.data.toList.tail).1 (decZ c.data.toList.tail).2 _ (GT.below HG.out (((Below.refl _ _).alloc (Nat.le_refl w.heap.size) _).alloc (by simp) _)) HD.out).mono ?_
  rintro e w1 ⟨rfl, hb⟩
  have h2 := h_two w (.cells #[Value.int IntKind.i64 0, Value.int IntKind.i64 0, Value.string ⟨#[]⟩] 23) (.cells #[Value.int IntKind.i64 3, Value.int IntKind.i64 0, Value.string ⟨#[]⟩] 23)
  obtain ⟨hN, hN1⟩ := h_keep hb h2.1 h2.2
  have HB1 := Lib.hid ((((Below.refl _ _).alloc (Nat.le_refl w.heap.size) _).alloc (by simp) _).trans (hb.mono (by simp; try omega)))
  obtain ⟨⟨a0, a1, a2⟩, f0, f1, f2⟩ := h_cells hN
  obtain ⟨⟨b0, b1, b2⟩, g0, g1, g2⟩ := h_cells hN1
  have HNN := Lib.hid (And.intro hN hN1)
  clear hb h2 hN hN1
  rw [hr]
  go_wp2_with fail
  refine (Px.value_Valid.calls 1 _ _ _ _ _ HV.out).mono ?_
  rintro e w9 ⟨rfl, hb⟩
  obtain ⟨hN, hN1⟩ := h_keep hb (h_far HNN.out.1 (by omega)) (h_set1 HNN.out.2 _)
  have HB9 := Lib.hid ((HB1.out.setCell (p := ⟨w.heap.size + 1, 1, none⟩) (Nat.le_succ _) _).trans (hb.mono (by first | (simp; done) | (simp; omega) | (have hs_ := HB1.out.size; simp; omega))))
  try clear a0 a1 a2 f0 f1 f2 b0 b1 b2 g0 g1 g2
  obtain ⟨⟨a0, a1, a2⟩, f0, f1, f2⟩ := h_cells hN
  obtain ⟨⟨b0, b1, b2⟩, g0, g1, g2⟩ := h_cells hN1
  have HN0 := Lib.hid hN
  clear hb hN hN1
  go_wp2_with fail
  refine bodyPost_ret (results_ct rfl _ _ w.heap.size 23 #[.int .i64 (0), .int .i64 (0), .string ⟨#[]⟩] (0, 0) _ rfl (h_set3 HN0.out _ _ _) Tryz.underlying23 rfl (by kernel_rfl)) rfl ?_
  exact ⟨by rw [HZ.out]; rfl, h_below3 HB9.out (Nat.le_refl _) _ _ _⟩

set_option maxRecDepth 100000 in
set_option maxHeartbeats 4000000 in
theorem parse_txt_f (c : ByteArray) (w : World) (hc : c.size ≤ 1000000) (h0 : c.data.toList ≠ [110, 117, 108, 108]) (h1 : c.data.toList ≠ [116, 114, 117, 101]) (h2 : c.data.toList ≠ [102, 97, 108, 115, 101]) (h3 : c.data.toList.head? = some 34) (hr : (contZ c.data.toList).2 = false) (hz : parseR c.data.toList = (0, 0, bs [], 4)) : Calls Tryz.prog 13 #[.string c] w fun e w' => ParsePost c w e w' := by
  have t0 : (c.toList == [110, 117, 108, 108]) = false := by rw [ByteArray.toList_eq]; exact beq_eq_false_iff_ne.2 h0
  have t1 : (c.toList == [116, 114, 117, 101]) = false := by rw [ByteArray.toList_eq]; exact beq_eq_false_iff_ne.2 h1
  have t2 : (c.toList == [102, 97, 108, 115, 101]) = false := by rw [ByteArray.toList_eq]; exact beq_eq_false_iff_ne.2 h2
  have p1 : Lib.hasPrefix c.data.toList [64] = false := by rw [pre_one, h3]; rfl
  have p2 : Lib.hasPrefix c.data.toList [34] = true := by rw [pre_one]; exact decide_eq_true h3
  have HP1 := Lib.hid (fun W => Tryz.strings_HasPrefix c ⟨#[64]⟩ W)
  have HP2 := Lib.hid (fun W => Tryz.strings_HasPrefix c ⟨#[34]⟩ W)
  clear h3
  have HZ := Lib.hid hz
  clear hz h0 h1 h2
  go_enter Tryz.func13, Tryz.ntmps13
  go_wp2_with fail
  refine (HP1.out _).mono ?_
  rintro e w' ⟨rfl, rfl⟩
  go_wp2_with fail
  refine (HP2.out _).mono ?_
  rintro e w' ⟨rfl, rfl⟩
  go_wp2_with fail
  refine (value_content.calls c (bs (contZ c.data.toList).1) (contZ c.data.toList).2 _ (by unfold value_content.f; rw [if_pos (by omega)]; rfl)).mono ?_
  rintro e w1 ⟨rfl, hb⟩
  have h2 := h_two w (.cells #[Value.int IntKind.i64 0, Value.int IntKind.i64 0, Value.string ⟨#[]⟩] 23) (.cells #[Value.int IntKind.i64 1, Value.int IntKind.i64 0, Value.string ⟨#[]⟩] 23)
  obtain ⟨hN, hN1⟩ := h_keep hb h2.1 h2.2
  have HB1 := Lib.hid ((((Below.refl _ _).alloc (Nat.le_refl w.heap.size) _).alloc (by simp) _).trans (hb.mono (by simp; try omega)))
  obtain ⟨⟨a0, a1, a2⟩, f0, f1, f2⟩ := h_cells hN
  obtain ⟨⟨b0, b1, b2⟩, g0, g1, g2⟩ := h_cells hN1
  have HNN := Lib.hid (And.intro hN hN1)
  clear hb h2 hN hN1
  rw [hr]
  go_wp2_with fail
  have HN0 := Lib.hid (h_far (M := w.heap.size + 1) (o := 2) (x := .string (bs (contZ c.data.toList).1)) HNN.out.1 (by omega))
  have HB9 := Lib.hid (HB1.out.setCell (p := ⟨w.heap.size + 1, 2, none⟩) (Nat.le_succ _) (.string (bs (contZ c.data.toList).1)))
  refine bodyPost_ret (results_ct rfl _ _ w.heap.size 23 #[.int .i64 (0), .int .i64 (0), .string ⟨#[]⟩] (0, 0) _ rfl (h_set3 HN0.out _ _ _) Tryz.underlying23 rfl (by kernel_rfl)) rfl ?_
  exact ⟨by rw [HZ.out]; rfl, h_below3 HB9.out (Nat.le_refl _) _ _ _⟩

set_option maxRecDepth 100000 in
set_option maxHeartbeats 4000000 in
theorem parse_txt_v (c : ByteArray) (w : World) (hc : c.size ≤ 1000000) (h0 : c.data.toList ≠ [110, 117, 108, 108]) (h1 : c.data.toList ≠ [116, 114, 117, 101]) (h2 : c.data.toList ≠ [102, 97, 108, 115, 101]) (h3 : c.data.toList.head? = some 34) (hr : (contZ c.data.toList).2 = true) (hv : validZ 1 0 (contZ c.data.toList).1 = true) (hz : parseR c.data.toList = (1, 0, bs (contZ c.data.toList).1, 0)) : Calls Tryz.prog 13 #[.string c] w fun e w' => ParsePost c w e w' := by
  have t0 : (c.toList == [110, 117, 108, 108]) = false := by rw [ByteArray.toList_eq]; exact beq_eq_false_iff_ne.2 h0
  have t1 : (c.toList == [116, 114, 117, 101]) = false := by rw [ByteArray.toList_eq]; exact beq_eq_false_iff_ne.2 h1
  have t2 : (c.toList == [102, 97, 108, 115, 101]) = false := by rw [ByteArray.toList_eq]; exact beq_eq_false_iff_ne.2 h2
  have p1 : Lib.hasPrefix c.data.toList [64] = false := by rw [pre_one, h3]; rfl
  have p2 : Lib.hasPrefix c.data.toList [34] = true := by rw [pre_one]; exact decide_eq_true h3
  have HP1 := Lib.hid (fun W => Tryz.strings_HasPrefix c ⟨#[64]⟩ W)
  have HP2 := Lib.hid (fun W => Tryz.strings_HasPrefix c ⟨#[34]⟩ W)
  clear h3
  have HZ := Lib.hid hz
  have HV := Lib.hid ((valid_f 0 1 (0) (bs (contZ c.data.toList).1)).trans (congrArg some hv))
  clear hv
  clear hz h0 h1 h2
  go_enter Tryz.func13, Tryz.ntmps13
  go_wp2_with fail
  refine (HP1.out _).mono ?_
  rintro e w' ⟨rfl, rfl⟩
  go_wp2_with fail
  refine (HP2.out _).mono ?_
  rintro e w' ⟨rfl, rfl⟩
  go_wp2_with fail
  refine (value_content.calls c (bs (contZ c.data.toList).1) (contZ c.data.toList).2 _ (by unfold value_content.f; rw [if_pos (by omega)]; rfl)).mono ?_
  rintro e w1 ⟨rfl, hb⟩
  have h2 := h_two w (.cells #[Value.int IntKind.i64 0, Value.int IntKind.i64 0, Value.string ⟨#[]⟩] 23) (.cells #[Value.int IntKind.i64 1, Value.int IntKind.i64 0, Value.string ⟨#[]⟩] 23)
  obtain ⟨hN, hN1⟩ := h_keep hb h2.1 h2.2
  have HB1 := Lib.hid ((((Below.refl _ _).alloc (Nat.le_refl w.heap.size) _).alloc (by simp) _).trans (hb.mono (by simp; try omega)))
  obtain ⟨⟨a0, a1, a2⟩, f0, f1, f2⟩ := h_cells hN
  obtain ⟨⟨b0, b1, b2⟩, g0, g1, g2⟩ := h_cells hN1
  have HNN := Lib.hid (And.intro hN hN1)
  clear hb h2 hN hN1
  rw [hr]
  go_wp2_with fail
  refine (Px.value_Valid.calls 1 _ _ _ _ _ HV.out).mono ?_
  rintro e w9 ⟨rfl, hb⟩
  obtain ⟨hN, hN1⟩ := h_keep hb (h_far HNN.out.1 (by omega)) (h_set2 HNN.out.2 _)
  have HB9 := Lib.hid ((HB1.out.setCell (p := ⟨w.heap.size + 1, 2, none⟩) (Nat.le_succ _) _).trans (hb.mono (by first | (simp; done) | (simp; omega) | (have hs_ := HB1.out.size; simp; omega))))
  try clear a0 a1 a2 f0 f1 f2 b0 b1 b2 g0 g1 g2
  obtain ⟨⟨a0, a1, a2⟩, f0, f1, f2⟩ := h_cells hN
  obtain ⟨⟨b0, b1, b2⟩, g0, g1, g2⟩ := h_cells hN1
  have HN0 := Lib.hid hN
  clear hb hN hN1
  go_wp2_with fail
  refine bodyPost_ret (results_ct rfl _ _ w.heap.size 23 #[.int .i64 (1), .int .i64 (0), .string (bs (contZ c.data.toList).1)] (0, 0) _ rfl (h_set3 HN0.out _ _ _) Tryz.underlying23 rfl (by kernel_rfl)) rfl ?_
  exact ⟨by rw [HZ.out]; rfl, h_below3 HB9.out (Nat.le_refl _) _ _ _⟩

set_option maxRecDepth 100000 in
set_option maxHeartbeats 4000000 in
theorem parse_txt_n (c : ByteArray) (w : World) (hc : c.size ≤ 1000000) (h0 : c.data.toList ≠ [110, 117, 108, 108]) (h1 : c.data.toList ≠ [116, 114, 117, 101]) (h2 : c.data.toList ≠ [102, 97, 108, 115, 101]) (h3 : c.data.toList.head? = some 34) (hr : (contZ c.data.toList).2 = true) (hv : validZ 1 0 (contZ c.data.toList).1 = false) (hz : parseR c.data.toList = (0, 0, bs [], 4)) : Calls Tryz.prog 13 #[.string c] w fun e w' => ParsePost c w e w' := by
  have t0 : (c.toList == [110, 117, 108, 108]) = false := by rw [ByteArray.toList_eq]; exact beq_eq_false_iff_ne.2 h0
  have t1 : (c.toList == [116, 114, 117, 101]) = false := by rw [ByteArray.toList_eq]; exact beq_eq_false_iff_ne.2 h1
  have t2 : (c.toList == [102, 97, 108, 115, 101]) = false := by rw [ByteArray.toList_eq]; exact beq_eq_false_iff_ne.2 h2
  have p1 : Lib.hasPrefix c.data.toList [64] = false := by rw [pre_one, h3]; rfl
  have p2 : Lib.hasPrefix c.data.toList [34] = true := by rw [pre_one]; exact decide_eq_true h3
  have HP1 := Lib.hid (fun W => Tryz.strings_HasPrefix c ⟨#[64]⟩ W)
  have HP2 := Lib.hid (fun W => Tryz.strings_HasPrefix c ⟨#[34]⟩ W)
  clear h3
  have HZ := Lib.hid hz
  have HV := Lib.hid ((valid_f 0 1 (0) (bs (contZ c.data.toList).1)).trans (congrArg some hv))
  clear hv
  clear hz h0 h1 h2
  go_enter Tryz.func13, Tryz.ntmps13
  go_wp2_with fail
  refine (HP1.out _).mono ?_
  rintro e w' ⟨rfl, rfl⟩
  go_wp2_with fail
  refine (HP2.out _).mono ?_
  rintro e w' ⟨rfl, rfl⟩
  go_wp2_with fail
  refine (value_content.calls c (bs (contZ c.data.toList).1) (contZ c.data.toList).2 _ (by unfold value_content.f; rw [if_pos (by omega)]; rfl)).mono ?_
  rintro e w1 ⟨rfl, hb⟩
  have h2 := h_two w (.cells #[Value.int IntKind.i64 0, Value.int IntKind.i64 0, Value.string ⟨#[]⟩] 23) (.cells #[Value.int IntKind.i64 1, Value.int IntKind.i64 0, Value.string ⟨#[]⟩] 23)
  obtain ⟨hN, hN1⟩ := h_keep hb h2.1 h2.2
  have HB1 := Lib.hid ((((Below.refl _ _).alloc (Nat.le_refl w.heap.size) _).alloc (by simp) _).trans (hb.mono (by simp; try omega)))
  obtain ⟨⟨a0, a1, a2⟩, f0, f1, f2⟩ := h_cells hN
  obtain ⟨⟨b0, b1, b2⟩, g0, g1, g2⟩ := h_cells hN1
  have HNN := Lib.hid (And.intro hN hN1)
  clear hb h2 hN hN1
  rw [hr]
  go_wp2_with fail
  refine (Px.value_Valid.calls 1 _ _ _ _ _ HV.out).mono ?_
  rintro e w9 ⟨rfl, hb⟩
  obtain ⟨hN, hN1⟩ := h_keep hb (h_far HNN.out.1 (by omega)) (h_set2 HNN.out.2 _)
  have HB9 := Lib.hid ((HB1.out.setCell (p := ⟨w.heap.size + 1, 2, none⟩) (Nat.le_succ _) _).trans (hb.mono (by first | (simp; done) | (simp; omega) | (have hs_ := HB1.out.size; simp; omega))))
  try clear a0 a1 a2 f0 f1 f2 b0 b1 b2 g0 g1 g2
  obtain ⟨⟨a0, a1, a2⟩, f0, f1, f2⟩ := h_cells hN
  obtain ⟨⟨b0, b1, b2⟩, g0, g1, g2⟩ := h_cells hN1
  have HN0 := Lib.hid hN
  clear hb hN hN1
  go_wp2_with fail
  refine bodyPost_ret (results_ct rfl _ _ w.heap.size 23 #[.int .i64 (0), .int .i64 (0), .string ⟨#[]⟩] (0, 0) _ rfl (h_set3 HN0.out _ _ _) Tryz.underlying23 rfl (by kernel_rfl)) rfl ?_
  exact ⟨by rw [HZ.out]; rfl, h_below3 HB9.out (Nat.le_refl _) _ _ _⟩

def value_Parse.f (a0 : ByteArray) : Option (Int × Int × ByteArray × Int) := if a0.size ≤ 1000000 then some (parseR a0.data.toList) else none
theorem parse_all (c : ByteArray) (w : World) (hc : c.size ≤ 1000000) (hG : GT w) : Calls Tryz.prog 13 #[.string c] w fun e w' => ParsePost c w e w' := by
  have hz : ∀ v, parseZ c.data.toList = v → parseR c.data.toList = match v with | none => (0, 0, bs [], 4) | some (k, n, t) => (k, n, bs t, 0) := fun v h => by unfold parseR; rw [h]
  by_cases h0 : c.data.toList = [110, 117, 108, 108]
  · exact parse_null c w hc h0
  by_cases h1 : c.data.toList = [116, 114, 117, 101]
  · exact parse_true c w hc h0 h1
  by_cases h2 : c.data.toList = [102, 97, 108, 115, 101]
  · exact parse_false c w hc h0 h1 h2
  by_cases h3 : c.data.toList.head? = some 64
  · have e : parseZ c.data.toList = if (decZ c.data.toList.tail).2 = true ∧ validZ 3 (decZ c.data.toList.tail).1 [] = true then some (3, (decZ c.data.toList.tail).1, []) else none := by
      unfold parseZ; rw [if_neg h0, if_neg h1, if_neg h2, if_pos h3]
    cases hr : (decZ c.data.toList.tail).2 with
    | false => exact parse_day_f c w hc hG h0 h1 h2 h3 hr (hz none (by rw [e, if_neg (fun h => by rw [hr] at h; cases h.1)]))
    | true =>
      cases hv : validZ 3 (decZ c.data.toList.tail).1 [] with
      | false => exact parse_day_n c w hc hG h0 h1 h2 h3 hr hv (hz none (by rw [e, if_neg (fun h => by rw [hv] at h; cases h.2)]))
      | true => exact parse_day_v c w hc hG h0 h1 h2 h3 hr hv (hz (some _) (by rw [e, if_pos ⟨hr, hv⟩]))
  by_cases h4 : c.data.toList.head? = some 34
  · have e : parseZ c.data.toList = if (contZ c.data.toList).2 = true ∧ validZ 1 0 (contZ c.data.toList).1 = true then some (1, 0, (contZ c.data.toList).1) else none := by
      unfold parseZ; rw [if_neg h0, if_neg h1, if_neg h2, if_neg h3, if_pos h4]
    cases hr : (contZ c.data.toList).2 with
    | false => exact parse_txt_f c w hc h0 h1 h2 h4 hr (hz none (by rw [e, if_neg (fun h => by rw [hr] at h; cases h.1)]))
    | true =>
      cases hv : validZ 1 0 (contZ c.data.toList).1 with
      | false => exact parse_txt_n c w hc h0 h1 h2 h4 hr hv (hz none (by rw [e, if_neg (fun h => by rw [hv] at h; cases h.2)]))
      | true => exact parse_txt_v c w hc h0 h1 h2 h4 hr hv (hz (some _) (by rw [e, if_pos ⟨hr, hv⟩]))
  · have e : parseZ c.data.toList = if (decZ c.data.toList).2 = true ∧ validZ 2 (decZ c.data.toList).1 [] = true then some (2, (decZ c.data.toList).1, []) else none := by
      unfold parseZ; rw [if_neg h0, if_neg h1, if_neg h2, if_neg h3, if_neg h4]
    cases hr : (decZ c.data.toList).2 with
    | false => exact parse_num_f c w hc hG h0 h1 h2 h3 h4 hr (hz none (by rw [e, if_neg (fun h => by rw [hr] at h; cases h.1)]))
    | true =>
      cases hv : validZ 2 (decZ c.data.toList).1 [] with
      | false => exact parse_num_n c w hc hG h0 h1 h2 h3 h4 hr hv (hz none (by rw [e, if_neg (fun h => by rw [hv] at h; cases h.2)]))
      | true => exact parse_num_v c w hc hG h0 h1 h2 h3 h4 hr hv (hz (some _) (by rw [e, if_pos ⟨hr, hv⟩]))
theorem value_Parse.calls (a0 : ByteArray) (r1 r2 : Int) (r3 : ByteArray) (r4 : Int) (w : World) (hG : GT w) (h : value_Parse.f a0 = some (r1, r2, r3, r4)) :
    Calls Tryz.prog 13 #[.string a0] w fun e w' => e = .returned (.tuple #[.agg #[.int .i64 r1, .int .i64 r2, .string r3], .int .i64 r4]) ∧ Below w.heap.size w w' := by
  unfold value_Parse.f at h
  split at h
  case isFalse => cases h
  rename_i hc
  have hz := Option.some.inj h
  refine (parse_all a0 w hc hG).mono ?_
  rintro e w' ⟨rfl, hb⟩
  rw [hz]
  exact ⟨rfl, hb⟩
end Go.Proofs.YthgppbpmcjkadaaGreatDoor.X
