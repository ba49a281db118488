/- value.Cast in the form of the printed contracts. -/
import Derived.Test.YthgppbpmcjkadaaGreatDoorX13
set_option linter.unusedVariables false
set_option linter.unusedSimpArgs false
namespace Go.Proofs.YthgppbpmcjkadaaGreatDoor.X
open Go.RowKit Go.Proofs.YthgppbpmcjkadaaGreatDoorW.PrintWords Go.Proofs.YthgppbpmcjkadaaGreatDoorW.PrintLast Go.Proofs.YthgppbpmcjkadaaGreatDoorW.PrintMore
def castR (k n : Int) (t : ByteArray) (d : Int) : Int × Int × ByteArray × Int :=
  if ¬ ValidP k n t.data.toList then (0, 0, bs [], 1) else if d < 1 then (0, 0, bs [], 1) else if 4 < d then (0, 0, bs [], 1) else if k = d then (k, n, t, 0) else if k = 0 then (k, n, t, 0)
  else if d = 1 then (1, 0, bs (textL k n t.data.toList), 0)
  else if k = 1 then (if (parseR t.data.toList).2.2.2 = 0 then (if (parseR t.data.toList).1 = d then parseR t.data.toList else (0, 0, bs [], 15)) else (0, 0, bs [], 15))
  else if k = 4 then (0, 0, bs [], 10) else if d = 4 then (0, 0, bs [], 10) else if ValidP d n t.data.toList then (d, n, t, 0) else (0, 0, bs [], 15)
def CastPost (r : Int × Int × ByteArray × Int) (w : World) (e : Ending) (w' : World) : Prop :=
  e = .returned (.tuple #[.agg #[.int .i64 r.1, .int .i64 r.2.1, .string r.2.2.1], .int .i64 r.2.2.2]) ∧ Below w.heap.size w w'
theorem not_valid {k n : Int} {t : List UInt8} (h : ¬ ValidP k n t) : validZ k n t = false := by
  cases hx : validZ k n t with
  | false => rfl
  | true => exact absurd (valid_iff.1 hx) h
theorem eqs {a b : Int} (h : a = b) : (a == b) = true := beq_iff_eq.2 h
theorem nes {a b : Int} (h : a ≠ b) : (a == b) = false := beq_eq_false_iff_ne.2 h

set_option maxRecDepth 100000 in
set_option maxHeartbeats 4000000 in
theorem cast_a (k n : Int) (t : ByteArray) (d : Int) (w : World) (h : ¬ ValidP k n t.data.toList) : Calls Tryz.prog 15 #[.agg #[.int .i64 k, .int .i64 n, .string t], .int .i64 d] w fun e w' => CastPost (0, 0, bs [], 1) w e w' := by
  have HV := Lib.hid ((valid_f 0 k n t).trans (congrArg some (not_valid h)))
  clear h
  go_enter Tryz.func15, Tryz.ntmps15
  go_wp2_with fail
  refine (Px.value_Valid.calls 1 _ _ _ _ _ HV.out).mono ?_
  rintro e w1 ⟨rfl, hb⟩
  have h2 := h_two w (.cells #[Value.int IntKind.i64 k, Value.int IntKind.i64 n, Value.string t] 23) (.cells #[Value.int IntKind.i64 0, Value.int IntKind.i64 0, Value.string ⟨#[]⟩] 23)
  obtain ⟨hN, hN1⟩ := h_keep hb h2.1 h2.2
  have HB1 := Lib.hid ((((Below.refl _ _).alloc (Nat.le_refl w.heap.size) _).alloc (by simp) _).trans (hb.mono (by simp; try omega)))
  obtain ⟨⟨a0, a1, a2⟩, f0, f1, f2⟩ := h_cells hN
  obtain ⟨⟨b0, b1, b2⟩, g0, g1, g2⟩ := h_cells hN1
  have HN2 := Lib.hid hN
  have HN4 := Lib.hid hN1
  clear hb h2 hN hN1
  go_wp2_with fail
  refine bodyPost_ret (results_ct rfl _ _ (w.heap.size + 1) 23 #[.int .i64 (0), .int .i64 (0), .string ⟨#[]⟩] (0, 0) _ rfl (h_set3 HN4.out _ _ _) Tryz.underlying23 rfl (by kernel_rfl)) rfl ?_
  exact ⟨rfl, h_below3 HB1.out (Nat.le_succ _) _ _ _⟩

set_option maxRecDepth 100000 in
set_option maxHeartbeats 4000000 in
theorem cast_b (k n : Int) (t : ByteArray) (d : Int) (w : World) (h : ValidP k n t.data.toList) (hd : d < 1) : Calls Tryz.prog 15 #[.agg #[.int .i64 k, .int .i64 n, .string t], .int .i64 d] w fun e w' => CastPost (0, 0, bs [], 1) w e w' := by
  have HV := Lib.hid ((valid_f 0 k n t).trans (congrArg some (valid_iff.2 h)))
  have q1 : decide (d < 1) = true := decide_eq_true hd
  clear h
  go_enter Tryz.func15, Tryz.ntmps15
  go_wp2_with fail
  refine (Px.value_Valid.calls 1 _ _ _ _ _ HV.out).mono ?_
  rintro e w1 ⟨rfl, hb⟩
  have h2 := h_two w (.cells #[Value.int IntKind.i64 k, Value.int IntKind.i64 n, Value.string t] 23) (.cells #[Value.int IntKind.i64 0, Value.int IntKind.i64 0, Value.string ⟨#[]⟩] 23)
  obtain ⟨hN, hN1⟩ := h_keep hb h2.1 h2.2
  have HB1 := Lib.hid ((((Below.refl _ _).alloc (Nat.le_refl w.heap.size) _).alloc (by simp) _).trans (hb.mono (by simp; try omega)))
  obtain ⟨⟨a0, a1, a2⟩, f0, f1, f2⟩ := h_cells hN
  obtain ⟨⟨b0, b1, b2⟩, g0, g1, g2⟩ := h_cells hN1
  have HN2 := Lib.hid hN
  have HN4 := Lib.hid hN1
  clear hb h2 hN hN1
  go_wp2_with fail
  refine bodyPost_ret (results_ct rfl _ _ (w.heap.size + 1) 23 #[.int .i64 (0), .int .i64 (0), .string ⟨#[]⟩] (0, 0) _ rfl (h_set3 HN4.out _ _ _) Tryz.underlying23 rfl (by kernel_rfl)) rfl ?_
  exact ⟨rfl, h_below3 HB1.out (Nat.le_succ _) _ _ _⟩

set_option maxRecDepth 100000 in
set_option maxHeartbeats 4000000 in
theorem cast_c (k n : Int) (t : ByteArray) (d : Int) (w : World) (h : ValidP k n t.data.toList) (hd : 1 ≤ d) (hd4 : 4 < d) : Calls Tryz.prog 15 #[.agg #[.int .i64 k, .int .i64 n, .string t], .int .i64 d] w fun e w' => CastPost (0, 0, bs [], 1) w e w' := by
  have HV := Lib.hid ((valid_f 0 k n t).trans (congrArg some (valid_iff.2 h)))
  have q1 : decide (d < 1) = false := decide_eq_false (by omega)
  have q2 : decide (4 < d) = true := decide_eq_true hd4
  clear h
  go_enter Tryz.func15, Tryz.ntmps15
  go_wp2_with fail
  refine (Px.value_Valid.calls 1 _ _ _ _ _ HV.out).mono ?_
  rintro e w1 ⟨rfl, hb⟩
  have h2 := h_two w (.cells #[Value.int IntKind.i64 k, Value.int IntKind.i64 n, Value.string t] 23) (.cells #[Value.int IntKind.i64 0, Value.int IntKind.i64 0, Value.string ⟨#[]⟩] 23)
  obtain ⟨hN, hN1⟩ := h_keep hb h2.1 h2.2
  have HB1 := Lib.hid ((((Below.refl _ _).alloc (Nat.le_refl w.heap.size) _).alloc (by simp) _).trans (hb.mono (by simp; try omega)))
  obtain ⟨⟨a0, a1, a2⟩, f0, f1, f2⟩ := h_cells hN
  obtain ⟨⟨b0, b1, b2⟩, g0, g1, g2⟩ := h_cells hN1
  have HN2 := Lib.hid hN
  have HN4 := Lib.hid hN1
  clear hb h2 hN hN1
  go_wp2_with fail
  refine bodyPost_ret (results_ct rfl _ _ (w.heap.size + 1) 23 #[.int .i64 (0), .int .i64 (0), .string ⟨#[]⟩] (0, 0) _ rfl (h_set3 HN4.out _ _ _) Tryz.underlying23 rfl (by kernel_rfl)) rfl ?_
  exact ⟨rfl, h_below3 HB1.out (Nat.le_succ _) _ _ _⟩

set_option maxRecDepth 100000 in
set_option maxHeartbeats 4000000 in
theorem cast_d (k n : Int) (t : ByteArray) (d : Int) (w : World) (h : ValidP k n t.data.toList) (hd : 1 ≤ d) (hd4 : d ≤ 4) (hk : k = d) : Calls Tryz.prog 15 #[.agg #[.int .i64 k, .int .i64 n, .string t], .int .i64 d] w fun e w' => CastPost (k, n, t, 0) w e w' := by
  have HV := Lib.hid ((valid_f 0 k n t).trans (congrArg some (valid_iff.2 h)))
  have q1 : decide (d < 1) = false := decide_eq_false (by omega)
  have q2 : decide (4 < d) = false := decide_eq_false (by omega)
  have q3 := eqs hk
  clear h hk
  go_enter Tryz.func15, Tryz.ntmps15
  go_wp2_with fail
  refine (Px.value_Valid.calls 1 _ _ _ _ _ HV.out).mono ?_
  rintro e w1 ⟨rfl, hb⟩
  have h2 := h_two w (.cells #[Value.int IntKind.i64 k, Value.int IntKind.i64 n, Value.string t] 23) (.cells #[Value.int IntKind.i64 0, Value.int IntKind.i64 0, Value.string ⟨#[]⟩] 23)
  obtain ⟨hN, hN1⟩ := h_keep hb h2.1 h2.2
  have HB1 := Lib.hid ((((Below.refl _ _).alloc (Nat.le_refl w.heap.size) _).alloc (by simp) _).trans (hb.mono (by simp; try omega)))
  obtain ⟨⟨a0, a1, a2⟩, f0, f1, f2⟩ := h_cells hN
  obtain ⟨⟨b0, b1, b2⟩, g0, g1, g2⟩ := h_cells hN1
  have HN2 := Lib.hid hN
  have HN4 := Lib.hid hN1
  clear hb h2 hN hN1
  go_wp2_with fail
  refine bodyPost_ret (results_ct rfl _ _ (w.heap.size + 1) 23 #[.int .i64 (k), .int .i64 (n), .string t] (0, 0) _ rfl (h_set3 HN4.out _ _ _) Tryz.underlying23 rfl (by kernel_rfl)) rfl ?_
  exact ⟨rfl, h_below3 HB1.out (Nat.le_succ _) _ _ _⟩

set_option maxRecDepth 100000 in
set_option maxHeartbeats 4000000 in
theorem cast_e (k n : Int) (t : ByteArray) (d : Int) (w : World) (h : ValidP k n t.data.toList) (hd : 1 ≤ d) (hd4 : d ≤ 4) (hk : k ≠ d) (h0 : k = 0) : Calls Tryz.prog 15 #[.agg #[.int .i64 k, .int .i64 n, .string t], .int .i64 d] w fun e w' => CastPost (k, n, t, 0) w e w' := by
  have HV := Lib.hid ((valid_f 0 k n t).trans (congrArg some (valid_iff.2 h)))
  have q1 : decide (d < 1) = false := decide_eq_false (by omega)
  have q2 : decide (4 < d) = false := decide_eq_false (by omega)
  have q3 := nes hk
  have q4 := eqs h0
  clear h hk h0
  go_enter Tryz.func15, Tryz.ntmps15
  go_wp2_with fail
  refine (Px.value_Valid.calls 1 _ _ _ _ _ HV.out).mono ?_
  rintro e w1 ⟨rfl, hb⟩
  have h2 := h_two w (.cells #[Value.int IntKind.i64 k, Value.int IntKind.i64 n, Value.string t] 23) (.cells #[Value.int IntKind.i64 0, Value.int IntKind.i64 0, Value.string ⟨#[]⟩] 23)
  obtain ⟨hN, hN1⟩ := h_keep hb h2.1 h2.2
  have HB1 := Lib.hid ((((Below.refl _ _).alloc (Nat.le_refl w.heap.size) _).alloc (by simp) _).trans (hb.mono (by simp; try omega)))
  obtain ⟨⟨a0, a1, a2⟩, f0, f1, f2⟩ := h_cells hN
  obtain ⟨⟨b0, b1, b2⟩, g0, g1, g2⟩ := h_cells hN1
  have HN2 := Lib.hid hN
  have HN4 := Lib.hid hN1
  clear hb h2 hN hN1
  go_wp2_with fail
  refine bodyPost_ret (results_ct rfl _ _ (w.heap.size + 1) 23 #[.int .i64 (k), .int .i64 (n), .string t] (0, 0) _ rfl (h_set3 HN4.out _ _ _) Tryz.underlying23 rfl (by kernel_rfl)) rfl ?_
  exact ⟨rfl, h_below3 HB1.out (Nat.le_succ _) _ _ _⟩

set_option maxRecDepth 100000 in
set_option maxHeartbeats 4000000 in
theorem cast_f (k n : Int) (t : ByteArray) (d : Int) (w : World) (h : ValidP k n t.data.toList) (hd : 1 ≤ d) (hd4 : d ≤ 4) (hG : GT w) (hk : k ≠ d) (h0 : k ≠ 0) (hd1 : d = 1) : Calls Tryz.prog 15 #[.agg #[.int .i64 k, .int .i64 n, .string t], .int .i64 d] w fun e w' => CastPost (1, 0, bs (textL k n t.data.toList), 0) w e w' := by
  have HV := Lib.hid ((valid_f 0 k n t).trans (congrArg some (valid_iff.2 h)))
  have q1 : decide (d < 1) = false := decide_eq_false (by omega)
  have q2 : decide (4 < d) = false := decide_eq_false (by omega)
  have q3 := nes hk
  have q4 := nes h0
  have q5 := eqs hd1
  have HG := Lib.hid hG
  have HD := Lib.hid hd1
  clear h hk h0 hd hd4 hd1 hG
  go_enter Tryz.func15, Tryz.ntmps15
  go_wp2_with fail
  refine (Px.value_Valid.calls 1 _ _ _ _ _ HV.out).mono ?_
  rintro e w1 ⟨rfl, hb⟩
  have h2 := h_two w (.cells #[Value.int IntKind.i64 k, Value.int IntKind.i64 n, Value.string t] 23) (.cells #[Value.int IntKind.i64 0, Value.int IntKind.i64 0, Value.string ⟨#[]⟩] 23)
  obtain ⟨hN, hN1⟩ := h_keep hb h2.1 h2.2
  have HB1 := Lib.hid ((((Below.refl _ _).alloc (Nat.le_refl w.heap.size) _).alloc (by simp) _).trans (hb.mono (by simp; try omega)))
  obtain ⟨⟨a0, a1, a2⟩, f0, f1, f2⟩ := h_cells hN
  obtain ⟨⟨b0, b1, b2⟩, g0, g1, g2⟩ := h_cells hN1
  have HN2 := Lib.hid hN
  have HN4 := Lib.hid hN1
  clear hb h2 hN hN1
  go_wp2_with fail
  refine (value_Text.calls k n t (bs (textL k n t.data.toList)) _ (GT.below HG.out HB1.out) rfl).mono ?_
  rintro e w9 ⟨rfl, hb⟩
  obtain ⟨hN, hN1⟩ := h_keep hb HN2.out HN4.out
  have HB9 := Lib.hid (HB1.out.trans (hb.mono HB1.out.size))
  clear a0 a1 a2 f0 f1 f2 b0 b1 b2 g0 g1 g2
  obtain ⟨⟨a0, a1, a2⟩, f0, f1, f2⟩ := h_cells hN
  obtain ⟨⟨b0, b1, b2⟩, g0, g1, g2⟩ := h_cells hN1
  have HN9 := Lib.hid hN1
  clear hb hN hN1
  go_wp2_with fail
  refine bodyPost_ret (results_ct rfl _ _ (w.heap.size + 1) 23 #[.int .i64 (d), .int .i64 (0), .string (bs (textL k n t.data.toList))] (0, 0) _ rfl (h_set3 HN9.out _ _ _) Tryz.underlying23 rfl (by kernel_rfl)) rfl ?_
  exact ⟨by rw [HD.out]; rfl, h_below3 HB9.out (Nat.le_succ _) _ _ _⟩

set_option maxRecDepth 100000 in
set_option maxHeartbeats 4000000 in
theorem cast_g1 (k n : Int) (t : ByteArray) (d : Int) (w : World) (h : ValidP k n t.data.toList) (hd : 1 ≤ d) (hd4 : d ≤ 4) (hG : GT w) (hk : k ≠ d) (h0 : k ≠ 0) (hd1 : d ≠ 1) (hk1 : k = 1) (he : (parseR t.data.toList).2.2.2 = 0) (hm : (parseR t.data.toList).1 = d) : Calls Tryz.prog 15 #[.agg #[.int .i64 k, .int .i64 n, .string t], .int .i64 d] w fun e w' => CastPost (parseR t.data.toList) w e w' := by
  have HV := Lib.hid ((valid_f 0 k n t).trans (congrArg some (valid_iff.2 h)))
  have q1 : decide (d < 1) = false := decide_eq_false (by omega)
  have q2 : decide (4 < d) = false := decide_eq_false (by omega)
  have q3 := nes hk
  have q4 := nes h0
  have q5 := nes hd1
  have q6 := eqs hk1
  have hs : t.size ≤ 1000000 := by
    have h4 : t.data.toList.length = t.size := len_list t
    unfold ValidP at h; omega
  have HG := Lib.hid hG
  have HP := Lib.hid (show value_Parse.f t = some (parseR t.data.toList) by unfold value_Parse.f; rw [if_pos hs])
  have s1 := eqs he
  have s2 := eqs hm
  have HE := Lib.hid he
  clear he hm
  clear h hk h0 hd hd4 hd1 hk1 hG hs
  go_enter Tryz.func15, Tryz.ntmps15
  go_wp2_with fail
  refine (Px.value_Valid.calls 1 _ _ _ _ _ HV.out).mono ?_
  rintro e w1 ⟨rfl, hb⟩
  have h2 := h_two w (.cells #[Value.int IntKind.i64 k, Value.int IntKind.i64 n, Value.string t] 23) (.cells #[Value.int IntKind.i64 0, Value.int IntKind.i64 0, Value.string ⟨#[]⟩] 23)
  obtain ⟨hN, hN1⟩ := h_keep hb h2.1 h2.2
  have HB1 := Lib.hid ((((Below.refl _ _).alloc (Nat.le_refl w.heap.size) _).alloc (by simp) _).trans (hb.mono (by simp; try omega)))
  obtain ⟨⟨a0, a1, a2⟩, f0, f1, f2⟩ := h_cells hN
  obtain ⟨⟨b0, b1, b2⟩, g0, g1, g2⟩ := h_cells hN1
  have HN2 := Lib.hid hN
  have HN4 := Lib.hid hN1
  clear hb h2 hN hN1
  go_wp2_with fail
  refine (value_Parse.calls t (parseR t.data.toList).1 (parseR t.data.toList).2.1 (parseR t.data.toList).2.2.1 (parseR t.data.toList).2.2.2 _ (GT.below HG.out HB1.out) HP.out).mono ?_
  rintro e w9 ⟨rfl, hb⟩
  generalize hr1 : (parseR t.data.toList).1 = r1 at *
  generalize hr2 : (parseR t.data.toList).2.1 = r2 at *
  generalize hr3 : (parseR t.data.toList).2.2.1 = r3 at *
  generalize hr4 : (parseR t.data.toList).2.2.2 = r4 at *
  have HRR := Lib.hid (show parseR t.data.toList = (r1, r2, r3, r4) by rw [← hr1, ← hr2, ← hr3, ← hr4])
  clear hr1 hr2 hr3 hr4
  obtain ⟨hN, hN1⟩ := h_keep hb HN2.out HN4.out
  have HB9 := Lib.hid (HB1.out.trans (hb.mono HB1.out.size))
  clear a0 a1 a2 f0 f1 f2 b0 b1 b2 g0 g1 g2
  obtain ⟨⟨a0, a1, a2⟩, f0, f1, f2⟩ := h_cells hN
  obtain ⟨⟨b0, b1, b2⟩, g0, g1, g2⟩ := h_cells hN1
  have hlt : w.heap.size + 1 < w9.heap.size := h_lt hN1
  have HN9 := Lib.hid hN1
  clear hb hN hN1
  go_wp2_with fail
  refine bodyPost_ret (results_ct rfl _ _ (w.heap.size + 1) 23 #[.int .i64 (r1), .int .i64 (r2), .string r3] (0, 0) _ rfl ((Below.heap_alloc _ _ _ (by simp; exact hlt)).trans (h_set3 HN9.out _ _ _)) Tryz.underlying23 rfl (by kernel_rfl)) rfl ?_
  exact ⟨by rw [HRR.out]; have := HE.out; subst this; rfl, (h_below3 HB9.out (Nat.le_succ _) _ _ _).alloc (by simp; exact HB9.out.size) _⟩

set_option maxRecDepth 100000 in
set_option maxHeartbeats 4000000 in
theorem cast_g2 (k n : Int) (t : ByteArray) (d : Int) (w : World) (h : ValidP k n t.data.toList) (hd : 1 ≤ d) (hd4 : d ≤ 4) (hG : GT w) (hk : k ≠ d) (h0 : k ≠ 0) (hd1 : d ≠ 1) (hk1 : k = 1) (he : (parseR t.data.toList).2.2.2 = 0) (hm : (parseR t.data.toList).1 ≠ d) : Calls Tryz.prog 15 #[.agg #[.int .i64 k, .int .i64 n, .string t], .int .i64 d] w fun e w' => CastPost (0, 0, bs [], 15) w e w' := by
  have HV := Lib.hid ((valid_f 0 k n t).trans (congrArg some (valid_iff.2 h)))
  have q1 : decide (d < 1) = false := decide_eq_false (by omega)
  have q2 : decide (4 < d) = false := decide_eq_false (by omega)
  have q3 := nes hk
  have q4 := nes h0
  have q5 := nes hd1
  have q6 := eqs hk1
  have hs : t.size ≤ 1000000 := by
    have h4 : t.data.toList.length = t.size := len_list t
    unfold ValidP at h; omega
  have HG := Lib.hid hG
  have HP := Lib.hid (show value_Parse.f t = some (parseR t.data.toList) by unfold value_Parse.f; rw [if_pos hs])
  have s1 := eqs he
  have s2 := nes hm
  clear he hm
  clear h hk h0 hd hd4 hd1 hk1 hG hs
  go_enter Tryz.func15, Tryz.ntmps15
  go_wp2_with fail
  refine (Px.value_Valid.calls 1 _ _ _ _ _ HV.out).mono ?_
  rintro e w1 ⟨rfl, hb⟩
  have h2 := h_two w (.cells #[Value.int IntKind.i64 k, Value.int IntKind.i64 n, Value.string t] 23) (.cells #[Value.int IntKind.i64 0, Value.int IntKind.i64 0, Value.string ⟨#[]⟩] 23)
  obtain ⟨hN, hN1⟩ := h_keep hb h2.1 h2.2
  have HB1 := Lib.hid ((((Below.refl _ _).alloc (Nat.le_refl w.heap.size) _).alloc (by simp) _).trans (hb.mono (by simp; try omega)))
  obtain ⟨⟨a0, a1, a2⟩, f0, f1, f2⟩ := h_cells hN
  obtain ⟨⟨b0, b1, b2⟩, g0, g1, g2⟩ := h_cells hN1
  have HN2 := Lib.hid hN
  have HN4 := Lib.hid hN1
  clear hb h2 hN hN1
  go_wp2_with fail
  refine (value_Parse.calls t (parseR t.data.toList).1 (parseR t.data.toList).2.1 (parseR t.data.toList).2.2.1 (parseR t.data.toList).2.2.2 _ (GT.below HG.out HB1.out) HP.out).mono ?_
  rintro e w9 ⟨rfl, hb⟩
  generalize hr1 : (parseR t.data.toList).1 = r1 at *
  generalize hr2 : (parseR t.data.toList).2.1 = r2 at *
  generalize hr3 : (parseR t.data.toList).2.2.1 = r3 at *
  generalize hr4 : (parseR t.data.toList).2.2.2 = r4 at *
  have HRR := Lib.hid (show parseR t.data.toList = (r1, r2, r3, r4) by rw [← hr1, ← hr2, ← hr3, ← hr4])
  clear hr1 hr2 hr3 hr4
  obtain ⟨hN, hN1⟩ := h_keep hb HN2.out HN4.out
  have HB9 := Lib.hid (HB1.out.trans (hb.mono HB1.out.size))
  clear a0 a1 a2 f0 f1 f2 b0 b1 b2 g0 g1 g2
  obtain ⟨⟨a0, a1, a2⟩, f0, f1, f2⟩ := h_cells hN
  obtain ⟨⟨b0, b1, b2⟩, g0, g1, g2⟩ := h_cells hN1
  have hlt : w.heap.size + 1 < w9.heap.size := h_lt hN1
  have HN9 := Lib.hid hN1
  clear hb hN hN1
  go_wp2_with fail
  refine bodyPost_ret (results_ct rfl _ _ (w.heap.size + 1) 23 #[.int .i64 (0), .int .i64 (0), .string ⟨#[]⟩] (0, 0) _ rfl ((Below.heap_alloc _ _ _ (by simp; exact hlt)).trans (h_set3 HN9.out _ _ _)) Tryz.underlying23 rfl (by kernel_rfl)) rfl ?_
  exact ⟨rfl, (h_below3 HB9.out (Nat.le_succ _) _ _ _).alloc (by simp; exact HB9.out.size) _⟩

set_option maxRecDepth 100000 in
set_option maxHeartbeats 4000000 in
theorem cast_g3 (k n : Int) (t : ByteArray) (d : Int) (w : World) (h : ValidP k n t.data.toList) (hd : 1 ≤ d) (hd4 : d ≤ 4) (hG : GT w) (hk : k ≠ d) (h0 : k ≠ 0) (hd1 : d ≠ 1) (hk1 : k = 1) (he : (parseR t.data.toList).2.2.2 ≠ 0) : Calls Tryz.prog 15 #[.agg #[.int .i64 k, .int .i64 n, .string t], .int .i64 d] w fun e w' => CastPost (0, 0, bs [], 15) w e w' := by
  have HV := Lib.hid ((valid_f 0 k n t).trans (congrArg some (valid_iff.2 h)))
  have q1 : decide (d < 1) = false := decide_eq_false (by omega)
  have q2 : decide (4 < d) = false := decide_eq_false (by omega)
  have q3 := nes hk
  have q4 := nes h0
  have q5 := nes hd1
  have q6 := eqs hk1
  have hs : t.size ≤ 1000000 := by
    have h4 : t.data.toList.length = t.size := len_list t
    unfold ValidP at h; omega
  have HG := Lib.hid hG
  have HP := Lib.hid (show value_Parse.f t = some (parseR t.data.toList) by unfold value_Parse.f; rw [if_pos hs])
  have s1 := nes he
  clear he
  clear h hk h0 hd hd4 hd1 hk1 hG hs
  go_enter Tryz.func15, Tryz.ntmps15
  go_wp2_with fail
  refine (Px.value_Valid.calls 1 _ _ _ _ _ HV.out).mono ?_
  rintro e w1 ⟨rfl, hb⟩
  have h2 := h_two w (.cells #[Value.int IntKind.i64 k, Value.int IntKind.i64 n, Value.string t] 23) (.cells #[Value.int IntKind.i64 0, Value.int IntKind.i64 0, Value.string ⟨#[]⟩] 23)
  obtain ⟨hN, hN1⟩ := h_keep hb h2.1 h2.2
  have HB1 := Lib.hid ((((Below.refl _ _).alloc (Nat.le_refl w.heap.size) _).alloc (by simp) _).trans (hb.mono (by simp; try omega)))
  obtain ⟨⟨a0, a1, a2⟩, f0, f1, f2⟩ := h_cells hN
  obtain ⟨⟨b0, b1, b2⟩, g0, g1, g2⟩ := h_cells hN1
  have HN2 := Lib.hid hN
  have HN4 := Lib.hid hN1
  clear hb h2 hN hN1
  go_wp2_with fail
  refine (value_Parse.calls t (parseR t.data.toList).1 (parseR t.data.toList).2.1 (parseR t.data.toList).2.2.1 (parseR t.data.toList).2.2.2 _ (GT.below HG.out HB1.out) HP.out).mono ?_
  rintro e w9 ⟨rfl, hb⟩
  generalize hr1 : (parseR t.data.toList).1 = r1 at *
  generalize hr2 : (parseR t.data.toList).2.1 = r2 at *
  generalize hr3 : (parseR t.data.toList).2.2.1 = r3 at *
  generalize hr4 : (parseR t.data.toList).2.2.2 = r4 at *
  have HRR := Lib.hid (show parseR t.data.toList = (r1, r2, r3, r4) by rw [← hr1, ← hr2, ← hr3, ← hr4])
  clear hr1 hr2 hr3 hr4
  obtain ⟨hN, hN1⟩ := h_keep hb HN2.out HN4.out
  have HB9 := Lib.hid (HB1.out.trans (hb.mono HB1.out.size))
  clear a0 a1 a2 f0 f1 f2 b0 b1 b2 g0 g1 g2
  obtain ⟨⟨a0, a1, a2⟩, f0, f1, f2⟩ := h_cells hN
  obtain ⟨⟨b0, b1, b2⟩, g0, g1, g2⟩ := h_cells hN1
  have hlt : w.heap.size + 1 < w9.heap.size := h_lt hN1
  have HN9 := Lib.hid hN1
  clear hb hN hN1
  go_wp2_with fail
  refine bodyPost_ret (results_ct rfl _ _ (w.heap.size + 1) 23 #[.int .i64 (0), .int .i64 (0), .string ⟨#[]⟩] (0, 0) _ rfl ((Below.heap_alloc _ _ _ (by simp; exact hlt)).trans (h_set3 HN9.out _ _ _)) Tryz.underlying23 rfl (by kernel_rfl)) rfl ?_
  exact ⟨rfl, (h_below3 HB9.out (Nat.le_succ _) _ _ _).alloc (by simp; exact HB9.out.size) _⟩

set_option maxRecDepth 100000 in
set_option maxHeartbeats 4000000 in
theorem cast_h (k n : Int) (t : ByteArray) (d : Int) (w : World) (h : ValidP k n t.data.toList) (hd : 1 ≤ d) (hd4 : d ≤ 4) (hk : k ≠ d) (h0 : k ≠ 0) (hd1 : d ≠ 1) (hk1 : k ≠ 1) (hk4 : k = 4) : Calls Tryz.prog 15 #[.agg #[.int .i64 k, .int .i64 n, .string t], .int .i64 d] w fun e w' => CastPost (0, 0, bs [], 10) w e w' := by
  have HV := Lib.hid ((valid_f 0 k n t).trans (congrArg some (valid_iff.2 h)))
  have q1 : decide (d < 1) = false := decide_eq_false (by omega)
  have q2 : decide (4 < d) = false := decide_eq_false (by omega)
  have q3 := nes hk
  have q4 := nes h0
  have q5 := nes hd1
  have q6 := nes hk1
  have q7 := eqs hk4
  clear h hk h0 hd hd4 hd1 hk1 hk4
  go_enter Tryz.func15, Tryz.ntmps15
  go_wp2_with fail
  refine (Px.value_Valid.calls 1 _ _ _ _ _ HV.out).mono ?_
  rintro e w1 ⟨rfl, hb⟩
  have h2 := h_two w (.cells #[Value.int IntKind.i64 k, Value.int IntKind.i64 n, Value.string t] 23) (.cells #[Value.int IntKind.i64 0, Value.int IntKind.i64 0, Value.string ⟨#[]⟩] 23)
  obtain ⟨hN, hN1⟩ := h_keep hb h2.1 h2.2
  have HB1 := Lib.hid ((((Below.refl _ _).alloc (Nat.le_refl w.heap.size) _).alloc (by simp) _).trans (hb.mono (by simp; try omega)))
  obtain ⟨⟨a0, a1, a2⟩, f0, f1, f2⟩ := h_cells hN
  obtain ⟨⟨b0, b1, b2⟩, g0, g1, g2⟩ := h_cells hN1
  have HN2 := Lib.hid hN
  have HN4 := Lib.hid hN1
  clear hb h2 hN hN1
  go_wp2_with fail
  refine bodyPost_ret (results_ct rfl _ _ (w.heap.size + 1) 23 #[.int .i64 (0), .int .i64 (0), .string ⟨#[]⟩] (0, 0) _ rfl (h_set3 HN4.out _ _ _) Tryz.underlying23 rfl (by kernel_rfl)) rfl ?_
  exact ⟨rfl, h_below3 HB1.out (Nat.le_succ _) _ _ _⟩

set_option maxRecDepth 100000 in
set_option maxHeartbeats 4000000 in
theorem cast_i (k n : Int) (t : ByteArray) (d : Int) (w : World) (h : ValidP k n t.data.toList) (hd : 1 ≤ d) (hd4 : d ≤ 4) (hk : k ≠ d) (h0 : k ≠ 0) (hd1 : d ≠ 1) (hk1 : k ≠ 1) (hk4 : k ≠ 4) (hd5 : d = 4) : Calls Tryz.prog 15 #[.agg #[.int .i64 k, .int .i64 n, .string t], .int .i64 d] w fun e w' => CastPost (0, 0, bs [], 10) w e w' := by
  have HV := Lib.hid ((valid_f 0 k n t).trans (congrArg some (valid_iff.2 h)))
  have q1 : decide (d < 1) = false := decide_eq_false (by omega)
  have q2 : decide (4 < d) = false := decide_eq_false (by omega)
  have q3 := nes hk
  have q4 := nes h0
  have q5 := nes hd1
  have q6 := nes hk1
  have q7 := nes hk4
  have q8 := eqs hd5
  clear h hk h0 hd hd4 hd1 hk1 hk4 hd5
  go_enter Tryz.func15, Tryz.ntmps15
  go_wp2_with fail
  refine (Px.value_Valid.calls 1 _ _ _ _ _ HV.out).mono ?_
  rintro e w1 ⟨rfl, hb⟩
  have h2 := h_two w (.cells #[Value.int IntKind.i64 k, Value.int IntKind.i64 n, Value.string t] 23) (.cells #[Value.int IntKind.i64 0, Value.int IntKind.i64 0, Value.string ⟨#[]⟩] 23)
  obtain ⟨hN, hN1⟩ := h_keep hb h2.1 h2.2
  have HB1 := Lib.hid ((((Below.refl _ _).alloc (Nat.le_refl w.heap.size) _).alloc (by simp) _).trans (hb.mono (by simp; try omega)))
  obtain ⟨⟨a0, a1, a2⟩, f0, f1, f2⟩ := h_cells hN
  obtain ⟨⟨b0, b1, b2⟩, g0, g1, g2⟩ := h_cells hN1
  have HN2 := Lib.hid hN
  have HN4 := Lib.hid hN1
  clear hb h2 hN hN1
  go_wp2_with fail
  refine bodyPost_ret (results_ct rfl _ _ (w.heap.size + 1) 23 #[.int .i64 (0), .int .i64 (0), .string ⟨#[]⟩] (0, 0) _ rfl (h_set3 HN4.out _ _ _) Tryz.underlying23 rfl (by kernel_rfl)) rfl ?_
  exact ⟨rfl, h_below3 HB1.out (Nat.le_succ _) _ _ _⟩

set_option maxRecDepth 100000 in
set_option maxHeartbeats 4000000 in
theorem cast_j (k n : Int) (t : ByteArray) (d : Int) (w : World) (h : ValidP k n t.data.toList) (hd : 1 ≤ d) (hd4 : d ≤ 4) (hk : k ≠ d) (h0 : k ≠ 0) (hd1 : d ≠ 1) (hk1 : k ≠ 1) (hk4 : k ≠ 4) (hd5 : d ≠ 4) (h' : ValidP d n t.data.toList) : Calls Tryz.prog 15 #[.agg #[.int .i64 k, .int .i64 n, .string t], .int .i64 d] w fun e w' => CastPost (d, n, t, 0) w e w' := by
  have HV := Lib.hid ((valid_f 0 k n t).trans (congrArg some (valid_iff.2 h)))
  have q1 : decide (d < 1) = false := decide_eq_false (by omega)
  have q2 : decide (4 < d) = false := decide_eq_false (by omega)
  have q3 := nes hk
  have q4 := nes h0
  have q5 := nes hd1
  have q6 := nes hk1
  have q7 := nes hk4
  have q8 := nes hd5
  have HV2 := Lib.hid ((valid_f 0 d n t).trans (congrArg some (valid_iff.2 h')))
  clear h hk h0 hd hd4 hd1 hk1 hk4 hd5 h'
  go_enter Tryz.func15, Tryz.ntmps15
  go_wp2_with fail
  refine (Px.value_Valid.calls 1 _ _ _ _ _ HV.out).mono ?_
  rintro e w1 ⟨rfl, hb⟩
  have h2 := h_two w (.cells #[Value.int IntKind.i64 k, Value.int IntKind.i64 n, Value.string t] 23) (.cells #[Value.int IntKind.i64 0, Value.int IntKind.i64 0, Value.string ⟨#[]⟩] 23)
  obtain ⟨hN, hN1⟩ := h_keep hb h2.1 h2.2
  have HB1 := Lib.hid ((((Below.refl _ _).alloc (Nat.le_refl w.heap.size) _).alloc (by simp) _).trans (hb.mono (by simp; try omega)))
  obtain ⟨⟨a0, a1, a2⟩, f0, f1, f2⟩ := h_cells hN
  obtain ⟨⟨b0, b1, b2⟩, g0, g1, g2⟩ := h_cells hN1
  have HN2 := Lib.hid hN
  have HN4 := Lib.hid hN1
  clear hb h2 hN hN1
  go_wp2_with fail
  refine (Px.value_Valid.calls 1 _ _ _ _ _ HV2.out).mono ?_
  rintro e w9 ⟨rfl, hb⟩
  obtain ⟨hN, hN1⟩ := h_keep hb (h_set0 HN2.out _) (h_far HN4.out (by omega))
  have HB9 := Lib.hid ((HB1.out.setCell (p := ⟨w.heap.size, 0, none⟩) (Nat.le_refl _) _).trans (hb.mono (by first | (simp; done) | (simp; omega) | (have hs_ := HB1.out.size; simp; omega))))
  clear a0 a1 a2 f0 f1 f2 b0 b1 b2 g0 g1 g2
  obtain ⟨⟨a0, a1, a2⟩, f0, f1, f2⟩ := h_cells hN
  obtain ⟨⟨b0, b1, b2⟩, g0, g1, g2⟩ := h_cells hN1
  have HN9 := Lib.hid hN1
  clear hb hN hN1
  go_wp2_with fail
  refine bodyPost_ret (results_ct rfl _ _ (w.heap.size + 1) 23 #[.int .i64 (d), .int .i64 (n), .string t] (0, 0) _ rfl (h_set3 HN9.out _ _ _) Tryz.underlying23 rfl (by kernel_rfl)) rfl ?_
  exact ⟨rfl, h_below3 HB9.out (Nat.le_succ _) _ _ _⟩

set_option maxRecDepth 100000 in
set_option maxHeartbeats 4000000 in
theorem cast_l (k n : Int) (t : ByteArray) (d : Int) (w : World) (h : ValidP k n t.data.toList) (hd : 1 ≤ d) (hd4 : d ≤ 4) (hk : k ≠ d) (h0 : k ≠ 0) (hd1 : d ≠ 1) (hk1 : k ≠ 1) (hk4 : k ≠ 4) (hd5 : d ≠ 4) (h' : ¬ ValidP d n t.data.toList) : Calls Tryz.prog 15 #[.agg #[.int .i64 k, .int .i64 n, .string t], .int .i64 d] w fun e w' => CastPost (0, 0, bs [], 15) w e w' := by
  have HV := Lib.hid ((valid_f 0 k n t).trans (congrArg some (valid_iff.2 h)))
  have q1 : decide (d < 1) = false := decide_eq_false (by omega)
  have q2 : decide (4 < d) = false := decide_eq_false (by omega)
  have q3 := nes hk
  have q4 := nes h0
  have q5 := nes hd1
  have q6 := nes hk1
  have q7 := nes hk4
  have q8 := nes hd5
  have HV2 := Lib.hid ((valid_f 0 d n t).trans (congrArg some (not_valid h')))
  clear h hk h0 hd hd4 hd1 hk1 hk4 hd5 h'
  go_enter Tryz.func15, Tryz.ntmps15
  go_wp2_with fail
  refine (Px.value_Valid.calls 1 _ _ _ _ _ HV.out).mono ?_
  rintro e w1 ⟨rfl, hb⟩
  have h2 := h_two w (.cells #[Value.int IntKind.i64 k, Value.int IntKind.i64 n, Value.string t] 23) (.cells #[Value.int IntKind.i64 0, Value.int IntKind.i64 0, Value.string ⟨#[]⟩] 23)
  obtain ⟨hN, hN1⟩ := h_keep hb h2.1 h2.2
  have HB1 := Lib.hid ((((Below.refl _ _).alloc (Nat.le_refl w.heap.size) _).alloc (by simp) _).trans (hb.mono (by simp; try omega)))
  obtain ⟨⟨a0, a1, a2⟩, f0, f1, f2⟩ := h_cells hN
  obtain ⟨⟨b0, b1, b2⟩, g0, g1, g2⟩ := h_cells hN1
  have HN2 := Lib.hid hN
  have HN4 := Lib.hid hN1
  clear hb h2 hN hN1
  go_wp2_with fail
  refine (Px.value_Valid.calls 1 _ _ _ _ _ HV2.out).mono ?_
  rintro e w9 ⟨rfl, hb⟩
  obtain ⟨hN, hN1⟩ := h_keep hb (h_set0 HN2.out _) (h_far HN4.out (by omega))
  have HB9 := Lib.hid ((HB1.out.setCell (p := ⟨w.heap.size, 0, none⟩) (Nat.le_refl _) _).trans (hb.mono (by first | (simp; done) | (simp; omega) | (have hs_ := HB1.out.size; simp; omega))))
  clear a0 a1 a2 f0 f1 f2 b0 b1 b2 g0 g1 g2
  obtain ⟨⟨a0, a1, a2⟩, f0, f1, f2⟩ := h_cells hN
  obtain ⟨⟨b0, b1, b2⟩, g0, g1, g2⟩ := h_cells hN1
  have HN9 := Lib.hid hN1
  clear hb hN hN1
  go_wp2_with fail
  refine bodyPost_ret (results_ct rfl _ _ (w.heap.size + 1) 23 #[.int .i64 (0), .int .i64 (0), .string ⟨#[]⟩] (0, 0) _ rfl (h_set3 HN9.out _ _ _) Tryz.underlying23 rfl (by kernel_rfl)) rfl ?_
  exact ⟨rfl, h_below3 HB9.out (Nat.le_succ _) _ _ _⟩

theorem cast_all (k n : Int) (t : ByteArray) (d : Int) (w : World) (hG : GT w) : Calls Tryz.prog 15 #[.agg #[.int .i64 k, .int .i64 n, .string t], .int .i64 d] w fun e w' => CastPost (castR k n t d) w e w' := by
  unfold castR
  by_cases h : ValidP k n t.data.toList
  case neg => rw [if_pos h]; exact cast_a k n t d w h
  rw [if_neg (fun h2 => h2 h)]
  by_cases hd : d < 1
  · rw [if_pos hd]; exact cast_b k n t d w h hd
  rw [if_neg hd]
  have hd' : 1 ≤ d := by omega
  by_cases hd4 : 4 < d
  · rw [if_pos hd4]; exact cast_c k n t d w h hd' hd4
  rw [if_neg hd4]
  have hd4' : d ≤ 4 := by omega
  by_cases hk : k = d
  · rw [if_pos hk]; exact cast_d k n t d w h hd' hd4' hk
  rw [if_neg hk]
  by_cases h0 : k = 0
  · rw [if_pos h0]; exact cast_e k n t d w h hd' hd4' hk h0
  rw [if_neg h0]
  by_cases hd1 : d = 1
  · rw [if_pos hd1]; exact cast_f k n t d w h hd' hd4' hG hk h0 hd1
  rw [if_neg hd1]
  by_cases hk1 : k = 1
  · rw [if_pos hk1]
    by_cases he : (parseR t.data.toList).2.2.2 = 0
    · rw [if_pos he]
      by_cases hm : (parseR t.data.toList).1 = d
      · rw [if_pos hm]; exact cast_g1 k n t d w h hd' hd4' hG hk h0 hd1 hk1 he hm
      · rw [if_neg hm]; exact cast_g2 k n t d w h hd' hd4' hG hk h0 hd1 hk1 he hm
    · rw [if_neg he]; exact cast_g3 k n t d w h hd' hd4' hG hk h0 hd1 hk1 he
  rw [if_neg hk1]
  by_cases hk4 : k = 4
  · rw [if_pos hk4]; exact cast_h k n t d w h hd' hd4' hk h0 hd1 hk1 hk4
  rw [if_neg hk4]
  by_cases hd5 : d = 4
  · rw [if_pos hd5]; exact cast_i k n t d w h hd' hd4' hk h0 hd1 hk1 hk4 hd5
  rw [if_neg hd5]
  by_cases h' : ValidP d n t.data.toList
  · rw [if_pos h']; exact cast_j k n t d w h hd' hd4' hk h0 hd1 hk1 hk4 hd5 h'
  · rw [if_neg h']; exact cast_l k n t d w h hd' hd4' hk h0 hd1 hk1 hk4 hd5 h'
def value_Cast.f (k n : Int) (t : ByteArray) (d : Int) : Option (Int × Int × ByteArray × Int) := some (castR k n t d)
theorem value_Cast.calls (k n : Int) (t : ByteArray) (d : Int) (r1 r2 : Int) (r3 : ByteArray) (r4 : Int) (w : World) (hG : GT w) (h : value_Cast.f k n t d = some (r1, r2, r3, r4)) :
    Calls Tryz.prog 15 #[.agg #[.int .i64 k, .int .i64 n, .string t], .int .i64 d] w fun e w' => e = .returned (.tuple #[.agg #[.int .i64 r1, .int .i64 r2, .string r3], .int .i64 r4]) ∧ Below w.heap.size w w' := by
  have hz := Option.some.inj h
  refine (cast_all k n t d w hG).mono ?_
  rintro e w' ⟨rfl, hb⟩
  rw [hz]
  exact ⟨rfl, hb⟩
end Go.Proofs.YthgppbpmcjkadaaGreatDoor.X
