/- The statement ValueNothing's way, walked. -/
import Derived.Test.YthgppbpmcjkadaaGreatDoorX10
import Derived.Test.YthgppbpmcjkadaaGreatDoorPlE
set_option linter.unusedVariables false
set_option linter.unusedSimpArgs false
namespace Go.Proofs.YthgppbpmcjkadaaGreatDoor.X
open Go.RowKit Go.Proofs.YthgppbpmcjkadaaGreatDoorW.PrintWords Go.Proofs.YthgppbpmcjkadaaGreatDoorW.PrintLast Go.Proofs.YthgppbpmcjkadaaGreatDoorW.PrintMore
attribute [local go_sem high] Px.eqA23
theorem row1 {W : World} {C : Nat} {a b : Int} {c : ByteArray} (h : W.heap[C]? = some (.cells #[.int .i64 a, .int .i64 b, .string c] 23 (0, 0))) : Kd.C Px.k23 W (some ⟨C, 0, none⟩) 1 [⟨a, b, c⟩] := by
  refine ⟨rfl, by decide, fun _ => ⟨_, rfl, fun j s hj => ?_⟩⟩
  have e : ∀ o, (⟨C, 0, none⟩ : Addr).add o = ⟨C, o, none⟩ := fun o => by unfold Addr.add; split <;> simp_all
  match j, hj with
  | 0, hj =>
    obtain rfl := Option.some.inj hj
    refine ⟨_, rfl, Px.k23_mk W _, fun i u hi => ?_⟩
    rw [e]
    match i, hi with
    | 0, hi => obtain rfl := Option.some.inj hi; simp [World.cell?, h, show Px.k23.sz = 3 from rfl]
    | 1, hi => obtain rfl := Option.some.inj hi; simp [World.cell?, h, show Px.k23.sz = 3 from rfl]
    | 2, hi => obtain rfl := Option.some.inj hi; simp [World.cell?, h, show Px.k23.sz = 3 from rfl]
    | i + 3, hi => simp at hi
  | j + 1, hj => simp at hj
theorem row2 {W : World} {C : Nat} {a b : Int} {c : ByteArray} {a' b' : Int} {c' : ByteArray} (h : W.heap[C]? = some (.cells #[.int .i64 a, .int .i64 b, .string c, .int .i64 a', .int .i64 b', .string c'] 23 (0, 0))) : Kd.C Px.k23 W (some ⟨C, 0, none⟩) 2 [⟨a, b, c⟩, ⟨a', b', c'⟩] := by
  refine ⟨rfl, by decide, fun _ => ⟨_, rfl, fun j s hj => ?_⟩⟩
  have e : ∀ o, (⟨C, 0, none⟩ : Addr).add o = ⟨C, o, none⟩ := fun o => by unfold Addr.add; split <;> simp_all
  match j, hj with
  | 0, hj =>
    obtain rfl := Option.some.inj hj
    refine ⟨_, rfl, Px.k23_mk W _, fun i u hi => ?_⟩
    rw [e]
    match i, hi with
    | 0, hi => obtain rfl := Option.some.inj hi; simp [World.cell?, h, show Px.k23.sz = 3 from rfl]
    | 1, hi => obtain rfl := Option.some.inj hi; simp [World.cell?, h, show Px.k23.sz = 3 from rfl]
    | 2, hi => obtain rfl := Option.some.inj hi; simp [World.cell?, h, show Px.k23.sz = 3 from rfl]
    | i + 3, hi => simp at hi
  | 1, hj =>
    obtain rfl := Option.some.inj hj
    refine ⟨_, rfl, Px.k23_mk W _, fun i u hi => ?_⟩
    rw [e]
    match i, hi with
    | 0, hi => obtain rfl := Option.some.inj hi; simp [World.cell?, h, show Px.k23.sz = 3 from rfl]
    | 1, hi => obtain rfl := Option.some.inj hi; simp [World.cell?, h, show Px.k23.sz = 3 from rfl]
    | 2, hi => obtain rfl := Option.some.inj hi; simp [World.cell?, h, show Px.k23.sz = 3 from rfl]
    | i + 3, hi => simp at hi
  | j + 2, hj => simp at hj
theorem test_no {k n : Int} {t : List UInt8} {op k' n' : Int} {t' : List UInt8} {add : Int} (h : ¬ (ValidP k n t ∧ ValidP k' n' t' ∧ k = k' ∧ k ≠ 0 ∧ 1 ≤ op ∧ op ≤ 4)) : testZ k n t op k' n' t' add = false := by
  unfold testZ
  by_cases h1 : ValidP k n t ∧ ValidP k' n' t' ∧ k = k'
  · rw [if_pos h1]
    by_cases h0 : k = 0
    · rw [if_neg (by omega), if_neg (by omega)]
    · have hh : ¬ (1 ≤ op ∧ op ≤ 4) := fun hh => h ⟨h1.1, h1.2.1, h1.2.2, h0, hh⟩
      have ho : ∀ x, opB op x = false := fun x => by
        unfold opB
        rw [if_neg (by omega), if_neg (by omega), if_neg (by omega), if_neg (by omega)]
      rw [ho, ho]; simp
  · rw [if_neg h1]
theorem test_add {k n : Int} {t : List UInt8} {op k' n' : Int} {t' : List UInt8} {add : Int} (ha : add ≠ 0) (hk : k = 1 ∨ k = 4) : testZ k n t op k' n' t' add = false := by
  unfold testZ
  by_cases h1 : ValidP k n t ∧ ValidP k' n' t' ∧ k = k'
  · rw [if_pos h1, if_neg (by omega), if_pos hk, if_neg ha]
  · rw [if_neg h1]
theorem test_nil_r (k n : Int) (t : List UInt8) (op add : Int) : testZ k n t op 0 0 [] add = false := test_no (by omega)
theorem test_nil_l (op k' n' : Int) (t' : List UInt8) (add : Int) : testZ 0 0 [] op k' n' t' add = false := test_no (by omega)

set_option maxRecDepth 100000 in
set_option maxHeartbeats 4000000 in
theorem nothing_s (k n : Int) (t : ByteArray) (k' n' : Int) (t' : ByteArray) (op add : Int) (w : World) (hG : GT w) (hs : shortB [⟨k, n, t⟩, ⟨k', n', t'⟩] = false) :
    Calls Tryz.prog 9 #[.agg #[.int .i64 k, .int .i64 n, .string t], .agg #[.int .i64 k', .int .i64 n', .string t'], .int .i64 op, .int .i64 add] w fun e w' => HeadPost w e w' := by
  have HG := Lib.hid hG
  clear hG
  have HSH := Lib.hid ((short_f [⟨k, n, t⟩, ⟨k', n', t'⟩] (by simp) 10 (by simp)).trans (congrArg some hs))
  clear hs
  go_enter Tryz.func9, Tryz.ntmps9
  go_wp2_with fail
  have KA := heap_new w (.cells #[.int .i64 k, .int .i64 n, .string t] 23)
  have KB := heap_new (w.alloc (.cells #[.int .i64 k, .int .i64 n, .string t] 23)) (.cells #[.int .i64 k', .int .i64 n', .string t'] 23)
  rw [show (w.alloc (.cells #[.int .i64 k, .int .i64 n, .string t] 23)).heap.size = w.heap.size + 1 by simp] at KB
  have KA := keepA (o' := .cells #[.int .i64 k', .int .i64 n', .string t'] 23) KA
  have K_ := Lib.hid KA
  clear KA
  have KA := K_
  clear K_
  have K_ := Lib.hid KB
  clear KB
  have KB := K_
  clear K_
  have HB0 := Lib.hid (((Below.refl w.heap.size w).alloc (Nat.le_refl _) (.cells #[.int .i64 k, .int .i64 n, .string t] 23)).alloc (by simp) (.cells #[.int .i64 k', .int .i64 n', .string t'] 23))
  refine (cleanselaw02_head.calls true _ (GT.below HG.out HB0.out) rfl).mono ?_
  rintro e w1 ⟨rfl, hb⟩
  have K_ := Lib.hid (keep1 hb KA.out)
  clear KA
  have KA := K_
  clear K_
  have K_ := Lib.hid (keep1 hb KB.out)
  clear KB
  have KB := K_
  clear K_
  have HB1 := Lib.hid (HB0.out.trans (hb.mono HB0.out.size))
  clear hb
  obtain ⟨⟨cA0, cA1, cA2⟩, _⟩ := h_cells KA.out
  obtain ⟨⟨cB0, cB1, cB2⟩, _⟩ := h_cells KB.out
  go_wp2_with fail
  clear cA0 cA1 cA2 cB0 cB1 cB2
  have K_ := Lib.hid (keepA (o' := .cells #[.int .i64 k, .int .i64 n, .string t, .int .i64 k', .int .i64 n', .string t'] 23) KA.out)
  clear KA
  have KA := K_
  clear K_
  have K_ := Lib.hid (keepA (o' := .cells #[.int .i64 k, .int .i64 n, .string t, .int .i64 k', .int .i64 n', .string t'] 23) KB.out)
  clear KB
  have KB := K_
  clear K_
  have HB1s := Lib.hid (HB1.out.alloc HB1.out.size (.cells #[.int .i64 k, .int .i64 n, .string t, .int .i64 k', .int .i64 n', .string t'] 23))
  refine (Px.cleanselaw02_short.calls 10 _ 2 [⟨k, n, t⟩, ⟨k', n', t'⟩] false _ (row2 (heap_new w1 _)) (Nat.le_refl _) HSH.out).mono ?_
  rintro e w2 ⟨rfl, hd⟩
  have hb := hd.below
  clear hd
  have K_ := Lib.hid (keep1 hb KA.out)
  clear KA
  have KA := K_
  clear K_
  have K_ := Lib.hid (keep1 hb KB.out)
  clear KB
  have KB := K_
  clear K_
  have HB2 := Lib.hid (HB1s.out.trans (hb.mono HB1s.out.size))
  clear hb
  obtain ⟨⟨cA0, cA1, cA2⟩, _⟩ := h_cells KA.out
  obtain ⟨⟨cB0, cB1, cB2⟩, _⟩ := h_cells KB.out
  go_wp2_with fail
  go_ret
  exact ⟨rfl, HB2.out⟩

set_option maxRecDepth 100000 in
set_option maxHeartbeats 4000000 in
theorem nothing_a (k n : Int) (t : ByteArray) (k' n' : Int) (t' : ByteArray) (op add : Int) (w : World) (hG : GT w) (hs : shortB [⟨k, n, t⟩, ⟨k', n', t'⟩] = true) (ha : ¬ ValidP k n t.data.toList) :
    Calls Tryz.prog 9 #[.agg #[.int .i64 k, .int .i64 n, .string t], .agg #[.int .i64 k', .int .i64 n', .string t'], .int .i64 op, .int .i64 add] w fun e w' => HeadPost w e w' := by
  have HG := Lib.hid hG
  clear hG
  have HSH := Lib.hid ((short_f [⟨k, n, t⟩, ⟨k', n', t'⟩] (by simp) 10 (by simp)).trans (congrArg some hs))
  clear hs
  have HVA := Lib.hid ((valid_f 0 k n t).trans (congrArg some (not_valid ha)))
  have HT := Lib.hid (show value_Test.f k n t op k' n' t' add = some false from congrArg some (test_no (fun h => ha h.1)))
  have HT1 := Lib.hid (show value_Test.f k n t op 0 0 ⟨#[]⟩ add = some false from congrArg some (test_nil_r _ _ _ _ _))
  have HT2 := Lib.hid (show value_Test.f 0 0 ⟨#[]⟩ op k' n' t' add = some false from congrArg some (test_nil_l _ _ _ _ _))
  clear ha
  go_enter Tryz.func9, Tryz.ntmps9
  go_wp2_with fail
  have KA := heap_new w (.cells #[.int .i64 k, .int .i64 n, .string t] 23)
  have KB := heap_new (w.alloc (.cells #[.int .i64 k, .int .i64 n, .string t] 23)) (.cells #[.int .i64 k', .int .i64 n', .string t'] 23)
  rw [show (w.alloc (.cells #[.int .i64 k, .int .i64 n, .string t] 23)).heap.size = w.heap.size + 1 by simp] at KB
  have KA := keepA (o' := .cells #[.int .i64 k', .int .i64 n', .string t'] 23) KA
  have K_ := Lib.hid KA
  clear KA
  have KA := K_
  clear K_
  have K_ := Lib.hid KB
  clear KB
  have KB := K_
  clear K_
  have HB0 := Lib.hid (((Below.refl w.heap.size w).alloc (Nat.le_refl _) (.cells #[.int .i64 k, .int .i64 n, .string t] 23)).alloc (by simp) (.cells #[.int .i64 k', .int .i64 n', .string t'] 23))
  refine (cleanselaw02_head.calls true _ (GT.below HG.out HB0.out) rfl).mono ?_
  rintro e w1 ⟨rfl, hb⟩
  have K_ := Lib.hid (keep1 hb KA.out)
  clear KA
  have KA := K_
  clear K_
  have K_ := Lib.hid (keep1 hb KB.out)
  clear KB
  have KB := K_
  clear K_
  have HB1 := Lib.hid (HB0.out.trans (hb.mono HB0.out.size))
  clear hb
  obtain ⟨⟨cA0, cA1, cA2⟩, _⟩ := h_cells KA.out
  obtain ⟨⟨cB0, cB1, cB2⟩, _⟩ := h_cells KB.out
  go_wp2_with fail
  clear cA0 cA1 cA2 cB0 cB1 cB2
  have K_ := Lib.hid (keepA (o' := .cells #[.int .i64 k, .int .i64 n, .string t, .int .i64 k', .int .i64 n', .string t'] 23) KA.out)
  clear KA
  have KA := K_
  clear K_
  have K_ := Lib.hid (keepA (o' := .cells #[.int .i64 k, .int .i64 n, .string t, .int .i64 k', .int .i64 n', .string t'] 23) KB.out)
  clear KB
  have KB := K_
  clear K_
  have HB1s := Lib.hid (HB1.out.alloc HB1.out.size (.cells #[.int .i64 k, .int .i64 n, .string t, .int .i64 k', .int .i64 n', .string t'] 23))
  refine (Px.cleanselaw02_short.calls 10 _ 2 [⟨k, n, t⟩, ⟨k', n', t'⟩] true _ (row2 (heap_new w1 _)) (Nat.le_refl _) HSH.out).mono ?_
  rintro e w2 ⟨rfl, hd⟩
  have hb := hd.below
  clear hd
  have K_ := Lib.hid (keep1 hb KA.out)
  clear KA
  have KA := K_
  clear K_
  have K_ := Lib.hid (keep1 hb KB.out)
  clear KB
  have KB := K_
  clear K_
  have HB2 := Lib.hid (HB1s.out.trans (hb.mono HB1s.out.size))
  clear hb
  obtain ⟨⟨cA0, cA1, cA2⟩, _⟩ := h_cells KA.out
  obtain ⟨⟨cB0, cB1, cB2⟩, _⟩ := h_cells KB.out
  go_wp2_with fail
  refine (Px.value_Valid.calls 1 k n t _ _ HVA.out).mono ?_
  rintro e w3 ⟨rfl, hb⟩
  clear cA0 cA1 cA2 cB0 cB1 cB2
  have K_ := Lib.hid (keep1 hb KA.out)
  clear KA
  have KA := K_
  clear K_
  have K_ := Lib.hid (keep1 hb KB.out)
  clear KB
  have KB := K_
  clear K_
  have HB3 := Lib.hid (HB2.out.trans (hb.mono HB2.out.size))
  clear hb
  obtain ⟨⟨cA0, cA1, cA2⟩, _⟩ := h_cells KA.out
  obtain ⟨⟨cB0, cB1, cB2⟩, _⟩ := h_cells KB.out
  go_wp2_with fail
  refine (value_Test.calls k n t op k' n' t' add false _ HT.out).mono ?_
  rintro e w4 ⟨rfl, hb⟩
  clear cA0 cA1 cA2 cB0 cB1 cB2
  have K_ := Lib.hid (keep1 hb KA.out)
  clear KA
  have KA := K_
  clear K_
  have K_ := Lib.hid (keep1 hb KB.out)
  clear KB
  have KB := K_
  clear K_
  have HB4 := Lib.hid (HB3.out.trans (hb.mono HB3.out.size))
  clear hb
  obtain ⟨⟨cA0, cA1, cA2⟩, _⟩ := h_cells KA.out
  obtain ⟨⟨cB0, cB1, cB2⟩, _⟩ := h_cells KB.out
  go_wp2_with fail
  refine (value_Test.calls k n t op 0 0 ⟨#[]⟩ add false _ HT1.out).mono ?_
  rintro e w5 ⟨rfl, hb⟩
  clear cA0 cA1 cA2 cB0 cB1 cB2
  have K_ := Lib.hid (keep1 hb KA.out)
  clear KA
  have KA := K_
  clear K_
  have K_ := Lib.hid (keep1 hb KB.out)
  clear KB
  have KB := K_
  clear K_
  have HB5 := Lib.hid (HB4.out.trans (hb.mono HB4.out.size))
  clear hb
  obtain ⟨⟨cA0, cA1, cA2⟩, _⟩ := h_cells KA.out
  obtain ⟨⟨cB0, cB1, cB2⟩, _⟩ := h_cells KB.out
  go_wp2_with fail
  refine (value_Test.calls 0 0 ⟨#[]⟩ op k' n' t' add false _ HT2.out).mono ?_
  rintro e w6 ⟨rfl, hb⟩
  clear cA0 cA1 cA2 cB0 cB1 cB2
  have K_ := Lib.hid (keep1 hb KA.out)
  clear KA
  have KA := K_
  clear K_
  have K_ := Lib.hid (keep1 hb KB.out)
  clear KB
  have KB := K_
  clear K_
  have HB6 := Lib.hid (HB5.out.trans (hb.mono HB5.out.size))
  clear hb
  obtain ⟨⟨cA0, cA1, cA2⟩, _⟩ := h_cells KA.out
  obtain ⟨⟨cB0, cB1, cB2⟩, _⟩ := h_cells KB.out
  go_wp2_with fail
  go_ret
  exact ⟨rfl, HB6.out⟩

set_option maxRecDepth 100000 in
set_option maxHeartbeats 4000000 in
theorem nothing_b (k n : Int) (t : ByteArray) (k' n' : Int) (t' : ByteArray) (op add : Int) (w : World) (hG : GT w) (hs : shortB [⟨k, n, t⟩, ⟨k', n', t'⟩] = true) (ha : ValidP k n t.data.toList) (hb : ¬ ValidP k' n' t'.data.toList) :
    Calls Tryz.prog 9 #[.agg #[.int .i64 k, .int .i64 n, .string t], .agg #[.int .i64 k', .int .i64 n', .string t'], .int .i64 op, .int .i64 add] w fun e w' => HeadPost w e w' := by
  have HG := Lib.hid hG
  clear hG
  have HSH := Lib.hid ((short_f [⟨k, n, t⟩, ⟨k', n', t'⟩] (by simp) 10 (by simp)).trans (congrArg some hs))
  clear hs
  have HVA := Lib.hid ((valid_f 0 k n t).trans (congrArg some (valid_iff.2 ha)))
  have HVB := Lib.hid ((valid_f 0 k' n' t').trans (congrArg some (not_valid hb)))
  have HT := Lib.hid (show value_Test.f k n t op k' n' t' add = some false from congrArg some (test_no (fun h => hb h.2.1)))
  have HT1 := Lib.hid (show value_Test.f k n t op 0 0 ⟨#[]⟩ add = some false from congrArg some (test_nil_r _ _ _ _ _))
  have HT2 := Lib.hid (show value_Test.f 0 0 ⟨#[]⟩ op k' n' t' add = some false from congrArg some (test_nil_l _ _ _ _ _))
  clear ha hb
  go_enter Tryz.func9, Tryz.ntmps9
  go_wp2_with fail
  have KA := heap_new w (.cells #[.int .i64 k, .int .i64 n, .string t] 23)
  have KB := heap_new (w.alloc (.cells #[.int .i64 k, .int .i64 n, .string t] 23)) (.cells #[.int .i64 k', .int .i64 n', .string t'] 23)
  rw [show (w.alloc (.cells #[.int .i64 k, .int .i64 n, .string t] 23)).heap.size = w.heap.size + 1 by simp] at KB
  have KA := keepA (o' := .cells #[.int .i64 k', .int .i64 n', .string t'] 23) KA
  have K_ := Lib.hid KA
  clear KA
  have KA := K_
  clear K_
  have K_ := Lib.hid KB
  clear KB
  have KB := K_
  clear K_
  have HB0 := Lib.hid (((Below.refl w.heap.size w).alloc (Nat.le_refl _) (.cells #[.int .i64 k, .int .i64 n, .string t] 23)).alloc (by simp) (.cells #[.int .i64 k', .int .i64 n', .string t'] 23))
  refine (cleanselaw02_head.calls true _ (GT.below HG.out HB0.out) rfl).mono ?_
  rintro e w1 ⟨rfl, hb⟩
  have K_ := Lib.hid (keep1 hb KA.out)
  clear KA
  have KA := K_
  clear K_
  have K_ := Lib.hid (keep1 hb KB.out)
  clear KB
  have KB := K_
  clear K_
  have HB1 := Lib.hid (HB0.out.trans (hb.mono HB0.out.size))
  clear hb
  obtain ⟨⟨cA0, cA1, cA2⟩, _⟩ := h_cells KA.out
  obtain ⟨⟨cB0, cB1, cB2⟩, _⟩ := h_cells KB.out
  go_wp2_with fail
  clear cA0 cA1 cA2 cB0 cB1 cB2
  have K_ := Lib.hid (keepA (o' := .cells #[.int .i64 k, .int .i64 n, .string t, .int .i64 k', .int .i64 n', .string t'] 23) KA.out)
  clear KA
  have KA := K_
  clear K_
  have K_ := Lib.hid (keepA (o' := .cells #[.int .i64 k, .int .i64 n, .string t, .int .i64 k', .int .i64 n', .string t'] 23) KB.out)
  clear KB
  have KB := K_
  clear K_
  have HB1s := Lib.hid (HB1.out.alloc HB1.out.size (.cells #[.int .i64 k, .int .i64 n, .string t, .int .i64 k', .int .i64 n', .string t'] 23))
  refine (Px.cleanselaw02_short.calls 10 _ 2 [⟨k, n, t⟩, ⟨k', n', t'⟩] true _ (row2 (heap_new w1 _)) (Nat.le_refl _) HSH.out).mono ?_
  rintro e w2 ⟨rfl, hd⟩
  have hb := hd.below
  clear hd
  have K_ := Lib.hid (keep1 hb KA.out)
  clear KA
  have KA := K_
  clear K_
  have K_ := Lib.hid (keep1 hb KB.out)
  clear KB
  have KB := K_
  clear K_
  have HB2 := Lib.hid (HB1s.out.trans (hb.mono HB1s.out.size))
  clear hb
  obtain ⟨⟨cA0, cA1, cA2⟩, _⟩ := h_cells KA.out
  obtain ⟨⟨cB0, cB1, cB2⟩, _⟩ := h_cells KB.out
  go_wp2_with fail
  refine (Px.value_Valid.calls 1 k n t _ _ HVA.out).mono ?_
  rintro e w3 ⟨rfl, hb⟩
  clear cA0 cA1 cA2 cB0 cB1 cB2
  have K_ := Lib.hid (keep1 hb KA.out)
  clear KA
  have KA := K_
  clear K_
  have K_ := Lib.hid (keep1 hb KB.out)
  clear KB
  have KB := K_
  clear K_
  have HB3 := Lib.hid (HB2.out.trans (hb.mono HB2.out.size))
  clear hb
  obtain ⟨⟨cA0, cA1, cA2⟩, _⟩ := h_cells KA.out
  obtain ⟨⟨cB0, cB1, cB2⟩, _⟩ := h_cells KB.out
  go_wp2_with fail
  refine (Px.value_Valid.calls 1 k' n' t' _ _ HVB.out).mono ?_
  rintro e w4 ⟨rfl, hb⟩
  clear cA0 cA1 cA2 cB0 cB1 cB2
  have K_ := Lib.hid (keep1 hb KA.out)
  clear KA
  have KA := K_
  clear K_
  have K_ := Lib.hid (keep1 hb KB.out)
  clear KB
  have KB := K_
  clear K_
  have HB4 := Lib.hid (HB3.out.trans (hb.mono HB3.out.size))
  clear hb
  obtain ⟨⟨cA0, cA1, cA2⟩, _⟩ := h_cells KA.out
  obtain ⟨⟨cB0, cB1, cB2⟩, _⟩ := h_cells KB.out
  go_wp2_with fail
  refine (value_Test.calls k n t op k' n' t' add false _ HT.out).mono ?_
  rintro e w5 ⟨rfl, hb⟩
  clear cA0 cA1 cA2 cB0 cB1 cB2
  have K_ := Lib.hid (keep1 hb KA.out)
  clear KA
  have KA := K_
  clear K_
  have K_ := Lib.hid (keep1 hb KB.out)
  clear KB
  have KB := K_
  clear K_
  have HB5 := Lib.hid (HB4.out.trans (hb.mono HB4.out.size))
  clear hb
  obtain ⟨⟨cA0, cA1, cA2⟩, _⟩ := h_cells KA.out
  obtain ⟨⟨cB0, cB1, cB2⟩, _⟩ := h_cells KB.out
  go_wp2_with fail
  refine (value_Test.calls k n t op 0 0 ⟨#[]⟩ add false _ HT1.out).mono ?_
  rintro e w6 ⟨rfl, hb⟩
  clear cA0 cA1 cA2 cB0 cB1 cB2
  have K_ := Lib.hid (keep1 hb KA.out)
  clear KA
  have KA := K_
  clear K_
  have K_ := Lib.hid (keep1 hb KB.out)
  clear KB
  have KB := K_
  clear K_
  have HB6 := Lib.hid (HB5.out.trans (hb.mono HB5.out.size))
  clear hb
  obtain ⟨⟨cA0, cA1, cA2⟩, _⟩ := h_cells KA.out
  obtain ⟨⟨cB0, cB1, cB2⟩, _⟩ := h_cells KB.out
  go_wp2_with fail
  refine (value_Test.calls 0 0 ⟨#[]⟩ op k' n' t' add false _ HT2.out).mono ?_
  rintro e w7 ⟨rfl, hb⟩
  clear cA0 cA1 cA2 cB0 cB1 cB2
  have K_ := Lib.hid (keep1 hb KA.out)
  clear KA
  have KA := K_
  clear K_
  have K_ := Lib.hid (keep1 hb KB.out)
  clear KB
  have KB := K_
  clear K_
  have HB7 := Lib.hid (HB6.out.trans (hb.mono HB6.out.size))
  clear hb
  obtain ⟨⟨cA0, cA1, cA2⟩, _⟩ := h_cells KA.out
  obtain ⟨⟨cB0, cB1, cB2⟩, _⟩ := h_cells KB.out
  go_wp2_with fail
  go_ret
  exact ⟨rfl, HB7.out⟩

set_option maxRecDepth 100000 in
set_option maxHeartbeats 4000000 in
theorem nothing_c (k n : Int) (t : ByteArray) (k' n' : Int) (t' : ByteArray) (op add : Int) (w : World) (hG : GT w) (hs : shortB [⟨k, n, t⟩, ⟨k', n', t'⟩] = true) (ha : ValidP k n t.data.toList) (hb : ValidP k' n' t'.data.toList) (hk : k ≠ k') :
    Calls Tryz.prog 9 #[.agg #[.int .i64 k, .int .i64 n, .string t], .agg #[.int .i64 k', .int .i64 n', .string t'], .int .i64 op, .int .i64 add] w fun e w' => HeadPost w e w' := by
  have HG := Lib.hid hG
  clear hG
  have HSH := Lib.hid ((short_f [⟨k, n, t⟩, ⟨k', n', t'⟩] (by simp) 10 (by simp)).trans (congrArg some hs))
  clear hs
  have HVA := Lib.hid ((valid_f 0 k n t).trans (congrArg some (valid_iff.2 ha)))
  have HVB := Lib.hid ((valid_f 0 k' n' t').trans (congrArg some (valid_iff.2 hb)))
  have HT := Lib.hid (show value_Test.f k n t op k' n' t' add = some false from congrArg some (test_no (fun h => hk h.2.2.1)))
  have HT1 := Lib.hid (show value_Test.f k n t op 0 0 ⟨#[]⟩ add = some false from congrArg some (test_nil_r _ _ _ _ _))
  have HT2 := Lib.hid (show value_Test.f 0 0 ⟨#[]⟩ op k' n' t' add = some false from congrArg some (test_nil_l _ _ _ _ _))
  have q1 : (k != k') = true := bne_iff_ne.2 hk
  have q2 := nes hk
  clear ha hb hk
  go_enter Tryz.func9, Tryz.ntmps9
  go_wp2_with fail
  have KA := heap_new w (.cells #[.int .i64 k, .int .i64 n, .string t] 23)
  have KB := heap_new (w.alloc (.cells #[.int .i64 k, .int .i64 n, .string t] 23)) (.cells #[.int .i64 k', .int .i64 n', .string t'] 23)
  rw [show (w.alloc (.cells #[.int .i64 k, .int .i64 n, .string t] 23)).heap.size = w.heap.size + 1 by simp] at KB
  have KA := keepA (o' := .cells #[.int .i64 k', .int .i64 n', .string t'] 23) KA
  have K_ := Lib.hid KA
  clear KA
  have KA := K_
  clear K_
  have K_ := Lib.hid KB
  clear KB
  have KB := K_
  clear K_
  have HB0 := Lib.hid (((Below.refl w.heap.size w).alloc (Nat.le_refl _) (.cells #[.int .i64 k, .int .i64 n, .string t] 23)).alloc (by simp) (.cells #[.int .i64 k', .int .i64 n', .string t'] 23))
  refine (cleanselaw02_head.calls true _ (GT.below HG.out HB0.out) rfl).mono ?_
  rintro e w1 ⟨rfl, hb⟩
  have K_ := Lib.hid (keep1 hb KA.out)
  clear KA
  have KA := K_
  clear K_
  have K_ := Lib.hid (keep1 hb KB.out)
  clear KB
  have KB := K_
  clear K_
  have HB1 := Lib.hid (HB0.out.trans (hb.mono HB0.out.size))
  clear hb
  obtain ⟨⟨cA0, cA1, cA2⟩, _⟩ := h_cells KA.out
  obtain ⟨⟨cB0, cB1, cB2⟩, _⟩ := h_cells KB.out
  go_wp2_with fail
  clear cA0 cA1 cA2 cB0 cB1 cB2
  have K_ := Lib.hid (keepA (o' := .cells #[.int .i64 k, .int .i64 n, .string t, .int .i64 k', .int .i64 n', .string t'] 23) KA.out)
  clear KA
  have KA := K_
  clear K_
  have K_ := Lib.hid (keepA (o' := .cells #[.int .i64 k, .int .i64 n, .string t, .int .i64 k', .int .i64 n', .string t'] 23) KB.out)
  clear KB
  have KB := K_
  clear K_
  have HB1s := Lib.hid (HB1.out.alloc HB1.out.size (.cells #[.int .i64 k, .int .i64 n, .string t, .int .i64 k', .int .i64 n', .string t'] 23))
  refine (Px.cleanselaw02_short.calls 10 _ 2 [⟨k, n, t⟩, ⟨k', n', t'⟩] true _ (row2 (heap_new w1 _)) (Nat.le_refl _) HSH.out).mono ?_
  rintro e w2 ⟨rfl, hd⟩
  have hb := hd.below
  clear hd
  have K_ := Lib.hid (keep1 hb KA.out)
  clear KA
  have KA := K_
  clear K_
  have K_ := Lib.hid (keep1 hb KB.out)
  clear KB
  have KB := K_
  clear K_
  have HB2 := Lib.hid (HB1s.out.trans (hb.mono HB1s.out.size))
  clear hb
  obtain ⟨⟨cA0, cA1, cA2⟩, _⟩ := h_cells KA.out
  obtain ⟨⟨cB0, cB1, cB2⟩, _⟩ := h_cells KB.out
  go_wp2_with fail
  refine (Px.value_Valid.calls 1 k n t _ _ HVA.out).mono ?_
  rintro e w3 ⟨rfl, hb⟩
  clear cA0 cA1 cA2 cB0 cB1 cB2
  have K_ := Lib.hid (keep1 hb KA.out)
  clear KA
  have KA := K_
  clear K_
  have K_ := Lib.hid (keep1 hb KB.out)
  clear KB
  have KB := K_
  clear K_
  have HB3 := Lib.hid (HB2.out.trans (hb.mono HB2.out.size))
  clear hb
  obtain ⟨⟨cA0, cA1, cA2⟩, _⟩ := h_cells KA.out
  obtain ⟨⟨cB0, cB1, cB2⟩, _⟩ := h_cells KB.out
  go_wp2_with fail
  refine (Px.value_Valid.calls 1 k' n' t' _ _ HVB.out).mono ?_
  rintro e w4 ⟨rfl, hb⟩
  clear cA0 cA1 cA2 cB0 cB1 cB2
  have K_ := Lib.hid (keep1 hb KA.out)
  clear KA
  have KA := K_
  clear K_
  have K_ := Lib.hid (keep1 hb KB.out)
  clear KB
  have KB := K_
  clear K_
  have HB4 := Lib.hid (HB3.out.trans (hb.mono HB3.out.size))
  clear hb
  obtain ⟨⟨cA0, cA1, cA2⟩, _⟩ := h_cells KA.out
  obtain ⟨⟨cB0, cB1, cB2⟩, _⟩ := h_cells KB.out
  go_wp2_with fail
  refine (value_Test.calls k n t op k' n' t' add false _ HT.out).mono ?_
  rintro e w5 ⟨rfl, hb⟩
  clear cA0 cA1 cA2 cB0 cB1 cB2
  have K_ := Lib.hid (keep1 hb KA.out)
  clear KA
  have KA := K_
  clear K_
  have K_ := Lib.hid (keep1 hb KB.out)
  clear KB
  have KB := K_
  clear K_
  have HB5 := Lib.hid (HB4.out.trans (hb.mono HB4.out.size))
  clear hb
  obtain ⟨⟨cA0, cA1, cA2⟩, _⟩ := h_cells KA.out
  obtain ⟨⟨cB0, cB1, cB2⟩, _⟩ := h_cells KB.out
  go_wp2_with fail
  refine (value_Test.calls k n t op 0 0 ⟨#[]⟩ add false _ HT1.out).mono ?_
  rintro e w6 ⟨rfl, hb⟩
  clear cA0 cA1 cA2 cB0 cB1 cB2
  have K_ := Lib.hid (keep1 hb KA.out)
  clear KA
  have KA := K_
  clear K_
  have K_ := Lib.hid (keep1 hb KB.out)
  clear KB
  have KB := K_
  clear K_
  have HB6 := Lib.hid (HB5.out.trans (hb.mono HB5.out.size))
  clear hb
  obtain ⟨⟨cA0, cA1, cA2⟩, _⟩ := h_cells KA.out
  obtain ⟨⟨cB0, cB1, cB2⟩, _⟩ := h_cells KB.out
  go_wp2_with fail
  refine (value_Test.calls 0 0 ⟨#[]⟩ op k' n' t' add false _ HT2.out).mono ?_
  rintro e w7 ⟨rfl, hb⟩
  clear cA0 cA1 cA2 cB0 cB1 cB2
  have K_ := Lib.hid (keep1 hb KA.out)
  clear KA
  have KA := K_
  clear K_
  have K_ := Lib.hid (keep1 hb KB.out)
  clear KB
  have KB := K_
  clear K_
  have HB7 := Lib.hid (HB6.out.trans (hb.mono HB6.out.size))
  clear hb
  obtain ⟨⟨cA0, cA1, cA2⟩, _⟩ := h_cells KA.out
  obtain ⟨⟨cB0, cB1, cB2⟩, _⟩ := h_cells KB.out
  go_wp2_with fail
  go_ret
  exact ⟨rfl, HB7.out⟩

set_option maxRecDepth 100000 in
set_option maxHeartbeats 4000000 in
theorem nothing_d (k n : Int) (t : ByteArray) (k' n' : Int) (t' : ByteArray) (op add : Int) (w : World) (hG : GT w) (hs : shortB [⟨k, n, t⟩, ⟨k', n', t'⟩] = true) (ha : ValidP k n t.data.toList) (hb : ValidP k' n' t'.data.toList) (hk : k = k') (h0 : k = 0) :
    Calls Tryz.prog 9 #[.agg #[.int .i64 k, .int .i64 n, .string t], .agg #[.int .i64 k', .int .i64 n', .string t'], .int .i64 op, .int .i64 add] w fun e w' => HeadPost w e w' := by
  have HG := Lib.hid hG
  clear hG
  have HSH := Lib.hid ((short_f [⟨k, n, t⟩, ⟨k', n', t'⟩] (by simp) 10 (by simp)).trans (congrArg some hs))
  clear hs
  have HVA := Lib.hid ((valid_f 0 k n t).trans (congrArg some (valid_iff.2 ha)))
  have HVB := Lib.hid ((valid_f 0 k' n' t').trans (congrArg some (valid_iff.2 hb)))
  have HT := Lib.hid (show value_Test.f k n t op k' n' t' add = some false from congrArg some (test_no (fun h => h.2.2.2.1 h0)))
  have HT1 := Lib.hid (show value_Test.f k n t op 0 0 ⟨#[]⟩ add = some false from congrArg some (test_nil_r _ _ _ _ _))
  have HT2 := Lib.hid (show value_Test.f 0 0 ⟨#[]⟩ op k' n' t' add = some false from congrArg some (test_nil_l _ _ _ _ _))
  have q1 : (k != k') = false := bne_eq_false_iff_eq.2 hk
  have q2 := eqs hk
  have q3 := eqs h0
  clear ha hb hk h0
  go_enter Tryz.func9, Tryz.ntmps9
  go_wp2_with fail
  have KA := heap_new w (.cells #[.int .i64 k, .int .i64 n, .string t] 23)
  have KB := heap_new (w.alloc (.cells #[.int .i64 k, .int .i64 n, .string t] 23)) (.cells #[.int .i64 k', .int .i64 n', .string t'] 23)
  rw [show (w.alloc (.cells #[.int .i64 k, .int .i64 n, .string t] 23)).heap.size = w.heap.size + 1 by simp] at KB
  have KA := keepA (o' := .cells #[.int .i64 k', .int .i64 n', .string t'] 23) KA
  have K_ := Lib.hid KA
  clear KA
  have KA := K_
  clear K_
  have K_ := Lib.hid KB
  clear KB
  have KB := K_
  clear K_
  have HB0 := Lib.hid (((Below.refl w.heap.size w).alloc (Nat.le_refl _) (.cells #[.int .i64 k, .int .i64 n, .string t] 23)).alloc (by simp) (.cells #[.int .i64 k', .int .i64 n', .string t'] 23))
  refine (cleanselaw02_head.calls true _ (GT.below HG.out HB0.out) rfl).mono ?_
  rintro e w1 ⟨rfl, hb⟩
  have K_ := Lib.hid (keep1 hb KA.out)
  clear KA
  have KA := K_
  clear K_
  have K_ := Lib.hid (keep1 hb KB.out)
  clear KB
  have KB := K_
  clear K_
  have HB1 := Lib.hid (HB0.out.trans (hb.mono HB0.out.size))
  clear hb
  obtain ⟨⟨cA0, cA1, cA2⟩, _⟩ := h_cells KA.out
  obtain ⟨⟨cB0, cB1, cB2⟩, _⟩ := h_cells KB.out
  go_wp2_with fail
  clear cA0 cA1 cA2 cB0 cB1 cB2
  have K_ := Lib.hid (keepA (o' := .cells #[.int .i64 k, .int .i64 n, .string t, .int .i64 k', .int .i64 n', .string t'] 23) KA.out)
  clear KA
  have KA := K_
  clear K_
  have K_ := Lib.hid (keepA (o' := .cells #[.int .i64 k, .int .i64 n, .string t, .int .i64 k', .int .i64 n', .string t'] 23) KB.out)
  clear KB
  have KB := K_
  clear K_
  have HB1s := Lib.hid (HB1.out.alloc HB1.out.size (.cells #[.int .i64 k, .int .i64 n, .string t, .int .i64 k', .int .i64 n', .string t'] 23))
  refine (Px.cleanselaw02_short.calls 10 _ 2 [⟨k, n, t⟩, ⟨k', n', t'⟩] true _ (row2 (heap_new w1 _)) (Nat.le_refl _) HSH.out).mono ?_
  rintro e w2 ⟨rfl, hd⟩
  have hb := hd.below
  clear hd
  have K_ := Lib.hid (keep1 hb KA.out)
  clear KA
  have KA := K_
  clear K_
  have K_ := Lib.hid (keep1 hb KB.out)
  clear KB
  have KB := K_
  clear K_
  have HB2 := Lib.hid (HB1s.out.trans (hb.mono HB1s.out.size))
  clear hb
  obtain ⟨⟨cA0, cA1, cA2⟩, _⟩ := h_cells KA.out
  obtain ⟨⟨cB0, cB1, cB2⟩, _⟩ := h_cells KB.out
  go_wp2_with fail
  refine (Px.value_Valid.calls 1 k n t _ _ HVA.out).mono ?_
  rintro e w3 ⟨rfl, hb⟩
  clear cA0 cA1 cA2 cB0 cB1 cB2
  have K_ := Lib.hid (keep1 hb KA.out)
  clear KA
  have KA := K_
  clear K_
  have K_ := Lib.hid (keep1 hb KB.out)
  clear KB
  have KB := K_
  clear K_
  have HB3 := Lib.hid (HB2.out.trans (hb.mono HB2.out.size))
  clear hb
  obtain ⟨⟨cA0, cA1, cA2⟩, _⟩ := h_cells KA.out
  obtain ⟨⟨cB0, cB1, cB2⟩, _⟩ := h_cells KB.out
  go_wp2_with fail
  refine (Px.value_Valid.calls 1 k' n' t' _ _ HVB.out).mono ?_
  rintro e w4 ⟨rfl, hb⟩
  clear cA0 cA1 cA2 cB0 cB1 cB2
  have K_ := Lib.hid (keep1 hb KA.out)
  clear KA
  have KA := K_
  clear K_
  have K_ := Lib.hid (keep1 hb KB.out)
  clear KB
  have KB := K_
  clear K_
  have HB4 := Lib.hid (HB3.out.trans (hb.mono HB3.out.size))
  clear hb
  obtain ⟨⟨cA0, cA1, cA2⟩, _⟩ := h_cells KA.out
  obtain ⟨⟨cB0, cB1, cB2⟩, _⟩ := h_cells KB.out
  go_wp2_with fail
  refine (value_Test.calls k n t op k' n' t' add false _ HT.out).mono ?_
  rintro e w5 ⟨rfl, hb⟩
  clear cA0 cA1 cA2 cB0 cB1 cB2
  have K_ := Lib.hid (keep1 hb KA.out)
  clear KA
  have KA := K_
  clear K_
  have K_ := Lib.hid (keep1 hb KB.out)
  clear KB
  have KB := K_
  clear K_
  have HB5 := Lib.hid (HB4.out.trans (hb.mono HB4.out.size))
  clear hb
  obtain ⟨⟨cA0, cA1, cA2⟩, _⟩ := h_cells KA.out
  obtain ⟨⟨cB0, cB1, cB2⟩, _⟩ := h_cells KB.out
  go_wp2_with fail
  refine (value_Test.calls k n t op 0 0 ⟨#[]⟩ add false _ HT1.out).mono ?_
  rintro e w6 ⟨rfl, hb⟩
  clear cA0 cA1 cA2 cB0 cB1 cB2
  have K_ := Lib.hid (keep1 hb KA.out)
  clear KA
  have KA := K_
  clear K_
  have K_ := Lib.hid (keep1 hb KB.out)
  clear KB
  have KB := K_
  clear K_
  have HB6 := Lib.hid (HB5.out.trans (hb.mono HB5.out.size))
  clear hb
  obtain ⟨⟨cA0, cA1, cA2⟩, _⟩ := h_cells KA.out
  obtain ⟨⟨cB0, cB1, cB2⟩, _⟩ := h_cells KB.out
  go_wp2_with fail
  refine (value_Test.calls 0 0 ⟨#[]⟩ op k' n' t' add false _ HT2.out).mono ?_
  rintro e w7 ⟨rfl, hb⟩
  clear cA0 cA1 cA2 cB0 cB1 cB2
  have K_ := Lib.hid (keep1 hb KA.out)
  clear KA
  have KA := K_
  clear K_
  have K_ := Lib.hid (keep1 hb KB.out)
  clear KB
  have KB := K_
  clear K_
  have HB7 := Lib.hid (HB6.out.trans (hb.mono HB6.out.size))
  clear hb
  obtain ⟨⟨cA0, cA1, cA2⟩, _⟩ := h_cells KA.out
  obtain ⟨⟨cB0, cB1, cB2⟩, _⟩ := h_cells KB.out
  go_wp2_with fail
  go_ret
  exact ⟨rfl, HB7.out⟩

set_option maxRecDepth 100000 in
set_option maxHeartbeats 4000000 in
theorem nothing_e (k n : Int) (t : ByteArray) (k' n' : Int) (t' : ByteArray) (op add : Int) (w : World) (hG : GT w) (hs : shortB [⟨k, n, t⟩, ⟨k', n', t'⟩] = true) (ha : ValidP k n t.data.toList) (hb : ValidP k' n' t'.data.toList) (hk : k = k') (h0 : k ≠ 0) (ho : op < 1) :
    Calls Tryz.prog 9 #[.agg #[.int .i64 k, .int .i64 n, .string t], .agg #[.int .i64 k', .int .i64 n', .string t'], .int .i64 op, .int .i64 add] w fun e w' => HeadPost w e w' := by
  have HG := Lib.hid hG
  clear hG
  have HSH := Lib.hid ((short_f [⟨k, n, t⟩, ⟨k', n', t'⟩] (by simp) 10 (by simp)).trans (congrArg some hs))
  clear hs
  have HVA := Lib.hid ((valid_f 0 k n t).trans (congrArg some (valid_iff.2 ha)))
  have HVB := Lib.hid ((valid_f 0 k' n' t').trans (congrArg some (valid_iff.2 hb)))
  have HT := Lib.hid (show value_Test.f k n t op k' n' t' add = some false from congrArg some (test_no (fun h => by omega)))
  have HT1 := Lib.hid (show value_Test.f k n t op 0 0 ⟨#[]⟩ add = some false from congrArg some (test_nil_r _ _ _ _ _))
  have HT2 := Lib.hid (show value_Test.f 0 0 ⟨#[]⟩ op k' n' t' add = some false from congrArg some (test_nil_l _ _ _ _ _))
  have q1 : (k != k') = false := bne_eq_false_iff_eq.2 hk
  have q2 := eqs hk
  have q3 := nes h0
  have q4 : decide (op < 1) = true := decide_eq_true ho
  clear ha hb hk h0
  go_enter Tryz.func9, Tryz.ntmps9
  go_wp2_with fail
  have KA := heap_new w (.cells #[.int .i64 k, .int .i64 n, .string t] 23)
  have KB := heap_new (w.alloc (.cells #[.int .i64 k, .int .i64 n, .string t] 23)) (.cells #[.int .i64 k', .int .i64 n', .string t'] 23)
  rw [show (w.alloc (.cells #[.int .i64 k, .int .i64 n, .string t] 23)).heap.size = w.heap.size + 1 by simp] at KB
  have KA := keepA (o' := .cells #[.int .i64 k', .int .i64 n', .string t'] 23) KA
  have K_ := Lib.hid KA
  clear KA
  have KA := K_
  clear K_
  have K_ := Lib.hid KB
  clear KB
  have KB := K_
  clear K_
  have HB0 := Lib.hid (((Below.refl w.heap.size w).alloc (Nat.le_refl _) (.cells #[.int .i64 k, .int .i64 n, .string t] 23)).alloc (by simp) (.cells #[.int .i64 k', .int .i64 n', .string t'] 23))
  refine (cleanselaw02_head.calls true _ (GT.below HG.out HB0.out) rfl).mono ?_
  rintro e w1 ⟨rfl, hb⟩
  have K_ := Lib.hid (keep1 hb KA.out)
  clear KA
  have KA := K_
  clear K_
  have K_ := Lib.hid (keep1 hb KB.out)
  clear KB
  have KB := K_
  clear K_
  have HB1 := Lib.hid (HB0.out.trans (hb.mono HB0.out.size))
  clear hb
  obtain ⟨⟨cA0, cA1, cA2⟩, _⟩ := h_cells KA.out
  obtain ⟨⟨cB0, cB1, cB2⟩, _⟩ := h_cells KB.out
  go_wp2_with fail
  clear cA0 cA1 cA2 cB0 cB1 cB2
  have K_ := Lib.hid (keepA (o' := .cells #[.int .i64 k, .int .i64 n, .string t, .int .i64 k', .int .i64 n', .string t'] 23) KA.out)
  clear KA
  have KA := K_
  clear K_
  have K_ := Lib.hid (keepA (o' := .cells #[.int .i64 k, .int .i64 n, .string t, .int .i64 k', .int .i64 n', .string t'] 23) KB.out)
  clear KB
  have KB := K_
  clear K_
  have HB1s := Lib.hid (HB1.out.alloc HB1.out.size (.cells #[.int .i64 k, .int .i64 n, .string t, .int .i64 k', .int .i64 n', .string t'] 23))
  refine (Px.cleanselaw02_short.calls 10 _ 2 [⟨k, n, t⟩, ⟨k', n', t'⟩] true _ (row2 (heap_new w1 _)) (Nat.le_refl _) HSH.out).mono ?_
  rintro e w2 ⟨rfl, hd⟩
  have hb := hd.below
  clear hd
  have K_ := Lib.hid (keep1 hb KA.out)
  clear KA
  have KA := K_
  clear K_
  have K_ := Lib.hid (keep1 hb KB.out)
  clear KB
  have KB := K_
  clear K_
  have HB2 := Lib.hid (HB1s.out.trans (hb.mono HB1s.out.size))
  clear hb
  obtain ⟨⟨cA0, cA1, cA2⟩, _⟩ := h_cells KA.out
  obtain ⟨⟨cB0, cB1, cB2⟩, _⟩ := h_cells KB.out
  go_wp2_with fail
  refine (Px.value_Valid.calls 1 k n t _ _ HVA.out).mono ?_
  rintro e w3 ⟨rfl, hb⟩
  clear cA0 cA1 cA2 cB0 cB1 cB2
  have K_ := Lib.hid (keep1 hb KA.out)
  clear KA
  have KA := K_
  clear K_
  have K_ := Lib.hid (keep1 hb KB.out)
  clear KB
  have KB := K_
  clear K_
  have HB3 := Lib.hid (HB2.out.trans (hb.mono HB2.out.size))
  clear hb
  obtain ⟨⟨cA0, cA1, cA2⟩, _⟩ := h_cells KA.out
  obtain ⟨⟨cB0, cB1, cB2⟩, _⟩ := h_cells KB.out
  go_wp2_with fail
  refine (Px.value_Valid.calls 1 k' n' t' _ _ HVB.out).mono ?_
  rintro e w4 ⟨rfl, hb⟩
  clear cA0 cA1 cA2 cB0 cB1 cB2
  have K_ := Lib.hid (keep1 hb KA.out)
  clear KA
  have KA := K_
  clear K_
  have K_ := Lib.hid (keep1 hb KB.out)
  clear KB
  have KB := K_
  clear K_
  have HB4 := Lib.hid (HB3.out.trans (hb.mono HB3.out.size))
  clear hb
  obtain ⟨⟨cA0, cA1, cA2⟩, _⟩ := h_cells KA.out
  obtain ⟨⟨cB0, cB1, cB2⟩, _⟩ := h_cells KB.out
  go_wp2_with fail
  refine (value_Test.calls k n t op k' n' t' add false _ HT.out).mono ?_
  rintro e w5 ⟨rfl, hb⟩
  clear cA0 cA1 cA2 cB0 cB1 cB2
  have K_ := Lib.hid (keep1 hb KA.out)
  clear KA
  have KA := K_
  clear K_
  have K_ := Lib.hid (keep1 hb KB.out)
  clear KB
  have KB := K_
  clear K_
  have HB5 := Lib.hid (HB4.out.trans (hb.mono HB4.out.size))
  clear hb
  obtain ⟨⟨cA0, cA1, cA2⟩, _⟩ := h_cells KA.out
  obtain ⟨⟨cB0, cB1, cB2⟩, _⟩ := h_cells KB.out
  go_wp2_with fail
  refine (value_Test.calls k n t op 0 0 ⟨#[]⟩ add false _ HT1.out).mono ?_
  rintro e w6 ⟨rfl, hb⟩
  clear cA0 cA1 cA2 cB0 cB1 cB2
  have K_ := Lib.hid (keep1 hb KA.out)
  clear KA
  have KA := K_
  clear K_
  have K_ := Lib.hid (keep1 hb KB.out)
  clear KB
  have KB := K_
  clear K_
  have HB6 := Lib.hid (HB5.out.trans (hb.mono HB5.out.size))
  clear hb
  obtain ⟨⟨cA0, cA1, cA2⟩, _⟩ := h_cells KA.out
  obtain ⟨⟨cB0, cB1, cB2⟩, _⟩ := h_cells KB.out
  go_wp2_with fail
  refine (value_Test.calls 0 0 ⟨#[]⟩ op k' n' t' add false _ HT2.out).mono ?_
  rintro e w7 ⟨rfl, hb⟩
  clear cA0 cA1 cA2 cB0 cB1 cB2
  have K_ := Lib.hid (keep1 hb KA.out)
  clear KA
  have KA := K_
  clear K_
  have K_ := Lib.hid (keep1 hb KB.out)
  clear KB
  have KB := K_
  clear K_
  have HB7 := Lib.hid (HB6.out.trans (hb.mono HB6.out.size))
  clear hb
  obtain ⟨⟨cA0, cA1, cA2⟩, _⟩ := h_cells KA.out
  obtain ⟨⟨cB0, cB1, cB2⟩, _⟩ := h_cells KB.out
  go_wp2_with fail
  go_ret
  exact ⟨rfl, HB7.out⟩

set_option maxRecDepth 100000 in
set_option maxHeartbeats 4000000 in
theorem nothing_f (k n : Int) (t : ByteArray) (k' n' : Int) (t' : ByteArray) (op add : Int) (w : World) (hG : GT w) (hs : shortB [⟨k, n, t⟩, ⟨k', n', t'⟩] = true) (ha : ValidP k n t.data.toList) (hb : ValidP k' n' t'.data.toList) (hk : k = k') (h0 : k ≠ 0) (ho : 1 ≤ op) (ho4 : 4 < op) :
    Calls Tryz.prog 9 #[.agg #[.int .i64 k, .int .i64 n, .string t], .agg #[.int .i64 k', .int .i64 n', .string t'], .int .i64 op, .int .i64 add] w fun e w' => HeadPost w e w' := by
  have HG := Lib.hid hG
  clear hG
  have HSH := Lib.hid ((short_f [⟨k, n, t⟩, ⟨k', n', t'⟩] (by simp) 10 (by simp)).trans (congrArg some hs))
  clear hs
  have HVA := Lib.hid ((valid_f 0 k n t).trans (congrArg some (valid_iff.2 ha)))
  have HVB := Lib.hid ((valid_f 0 k' n' t').trans (congrArg some (valid_iff.2 hb)))
  have HT := Lib.hid (show value_Test.f k n t op k' n' t' add = some false from congrArg some (test_no (fun h => by omega)))
  have HT1 := Lib.hid (show value_Test.f k n t op 0 0 ⟨#[]⟩ add = some false from congrArg some (test_nil_r _ _ _ _ _))
  have HT2 := Lib.hid (show value_Test.f 0 0 ⟨#[]⟩ op k' n' t' add = some false from congrArg some (test_nil_l _ _ _ _ _))
  have q1 : (k != k') = false := bne_eq_false_iff_eq.2 hk
  have q2 := eqs hk
  have q3 := nes h0
  have q4 : decide (op < 1) = false := decide_eq_false (by omega)
  have q5 : decide (4 < op) = true := decide_eq_true ho4
  clear ha hb hk h0
  go_enter Tryz.func9, Tryz.ntmps9
  go_wp2_with fail
  have KA := heap_new w (.cells #[.int .i64 k, .int .i64 n, .string t] 23)
  have KB := heap_new (w.alloc (.cells #[.int .i64 k, .int .i64 n, .string t] 23)) (.cells #[.int .i64 k', .int .i64 n', .string t'] 23)
  rw [show (w.alloc (.cells #[.int .i64 k, .int .i64 n, .string t] 23)).heap.size = w.heap.size + 1 by simp] at KB
  have KA := keepA (o' := .cells #[.int .i64 k', .int .i64 n', .string t'] 23) KA
  have K_ := Lib.hid KA
  clear KA
  have KA := K_
  clear K_
  have K_ := Lib.hid KB
  clear KB
  have KB := K_
  clear K_
  have HB0 := Lib.hid (((Below.refl w.heap.size w).alloc (Nat.le_refl _) (.cells #[.int .i64 k, .int .i64 n, .string t] 23)).alloc (by simp) (.cells #[.int .i64 k', .int .i64 n', .string t'] 23))
  refine (cleanselaw02_head.calls true _ (GT.below HG.out HB0.out) rfl).mono ?_
  rintro e w1 ⟨rfl, hb⟩
  have K_ := Lib.hid (keep1 hb KA.out)
  clear KA
  have KA := K_
  clear K_
  have K_ := Lib.hid (keep1 hb KB.out)
  clear KB
  have KB := K_
  clear K_
  have HB1 := Lib.hid (HB0.out.trans (hb.mono HB0.out.size))
  clear hb
  obtain ⟨⟨cA0, cA1, cA2⟩, _⟩ := h_cells KA.out
  obtain ⟨⟨cB0, cB1, cB2⟩, _⟩ := h_cells KB.out
  go_wp2_with fail
  clear cA0 cA1 cA2 cB0 cB1 cB2
  have K_ := Lib.hid (keepA (o' := .cells #[.int .i64 k, .int .i64 n, .string t, .int .i64 k', .int .i64 n', .string t'] 23) KA.out)
  clear KA
  have KA := K_
  clear K_
  have K_ := Lib.hid (keepA (o' := .cells #[.int .i64 k, .int .i64 n, .string t, .int .i64 k', .int .i64 n', .string t'] 23) KB.out)
  clear KB
  have KB := K_
  clear K_
  have HB1s := Lib.hid (HB1.out.alloc HB1.out.size (.cells #[.int .i64 k, .int .i64 n, .string t, .int .i64 k', .int .i64 n', .string t'] 23))
  refine (Px.cleanselaw02_short.calls 10 _ 2 [⟨k, n, t⟩, ⟨k', n', t'⟩] true _ (row2 (heap_new w1 _)) (Nat.le_refl _) HSH.out).mono ?_
  rintro e w2 ⟨rfl, hd⟩
  have hb := hd.below
  clear hd
  have K_ := Lib.hid (keep1 hb KA.out)
  clear KA
  have KA := K_
  clear K_
  have K_ := Lib.hid (keep1 hb KB.out)
  clear KB
  have KB := K_
  clear K_
  have HB2 := Lib.hid (HB1s.out.trans (hb.mono HB1s.out.size))
  clear hb
  obtain ⟨⟨cA0, cA1, cA2⟩, _⟩ := h_cells KA.out
  obtain ⟨⟨cB0, cB1, cB2⟩, _⟩ := h_cells KB.out
  go_wp2_with fail
  refine (Px.value_Valid.calls 1 k n t _ _ HVA.out).mono ?_
  rintro e w3 ⟨rfl, hb⟩
  clear cA0 cA1 cA2 cB0 cB1 cB2
  have K_ := Lib.hid (keep1 hb KA.out)
  clear KA
  have KA := K_
  clear K_
  have K_ := Lib.hid (keep1 hb KB.out)
  clear KB
  have KB := K_
  clear K_
  have HB3 := Lib.hid (HB2.out.trans (hb.mono HB2.out.size))
  clear hb
  obtain ⟨⟨cA0, cA1, cA2⟩, _⟩ := h_cells KA.out
  obtain ⟨⟨cB0, cB1, cB2⟩, _⟩ := h_cells KB.out
  go_wp2_with fail
  refine (Px.value_Valid.calls 1 k' n' t' _ _ HVB.out).mono ?_
  rintro e w4 ⟨rfl, hb⟩
  clear cA0 cA1 cA2 cB0 cB1 cB2
  have K_ := Lib.hid (keep1 hb KA.out)
  clear KA
  have KA := K_
  clear K_
  have K_ := Lib.hid (keep1 hb KB.out)
  clear KB
  have KB := K_
  clear K_
  have HB4 := Lib.hid (HB3.out.trans (hb.mono HB3.out.size))
  clear hb
  obtain ⟨⟨cA0, cA1, cA2⟩, _⟩ := h_cells KA.out
  obtain ⟨⟨cB0, cB1, cB2⟩, _⟩ := h_cells KB.out
  go_wp2_with fail
  refine (value_Test.calls k n t op k' n' t' add false _ HT.out).mono ?_
  rintro e w5 ⟨rfl, hb⟩
  clear cA0 cA1 cA2 cB0 cB1 cB2
  have K_ := Lib.hid (keep1 hb KA.out)
  clear KA
  have KA := K_
  clear K_
  have K_ := Lib.hid (keep1 hb KB.out)
  clear KB
  have KB := K_
  clear K_
  have HB5 := Lib.hid (HB4.out.trans (hb.mono HB4.out.size))
  clear hb
  obtain ⟨⟨cA0, cA1, cA2⟩, _⟩ := h_cells KA.out
  obtain ⟨⟨cB0, cB1, cB2⟩, _⟩ := h_cells KB.out
  go_wp2_with fail
  refine (value_Test.calls k n t op 0 0 ⟨#[]⟩ add false _ HT1.out).mono ?_
  rintro e w6 ⟨rfl, hb⟩
  clear cA0 cA1 cA2 cB0 cB1 cB2
  have K_ := Lib.hid (keep1 hb KA.out)
  clear KA
  have KA := K_
  clear K_
  have K_ := Lib.hid (keep1 hb KB.out)
  clear KB
  have KB := K_
  clear K_
  have HB6 := Lib.hid (HB5.out.trans (hb.mono HB5.out.size))
  clear hb
  obtain ⟨⟨cA0, cA1, cA2⟩, _⟩ := h_cells KA.out
  obtain ⟨⟨cB0, cB1, cB2⟩, _⟩ := h_cells KB.out
  go_wp2_with fail
  refine (value_Test.calls 0 0 ⟨#[]⟩ op k' n' t' add false _ HT2.out).mono ?_
  rintro e w7 ⟨rfl, hb⟩
  clear cA0 cA1 cA2 cB0 cB1 cB2
  have K_ := Lib.hid (keep1 hb KA.out)
  clear KA
  have KA := K_
  clear K_
  have K_ := Lib.hid (keep1 hb KB.out)
  clear KB
  have KB := K_
  clear K_
  have HB7 := Lib.hid (HB6.out.trans (hb.mono HB6.out.size))
  clear hb
  obtain ⟨⟨cA0, cA1, cA2⟩, _⟩ := h_cells KA.out
  obtain ⟨⟨cB0, cB1, cB2⟩, _⟩ := h_cells KB.out
  go_wp2_with fail
  go_ret
  exact ⟨rfl, HB7.out⟩

set_option maxRecDepth 100000 in
set_option maxHeartbeats 4000000 in
theorem nothing_g (k n : Int) (t : ByteArray) (k' n' : Int) (t' : ByteArray) (op add : Int) (w : World) (hG : GT w) (hs : shortB [⟨k, n, t⟩, ⟨k', n', t'⟩] = true) (ha : ValidP k n t.data.toList) (hb : ValidP k' n' t'.data.toList) (hk : k = k') (h0 : k ≠ 0) (ho : 1 ≤ op) (ho4 : op ≤ 4) (hz : add = 0) :
    Calls Tryz.prog 9 #[.agg #[.int .i64 k, .int .i64 n, .string t], .agg #[.int .i64 k', .int .i64 n', .string t'], .int .i64 op, .int .i64 add] w fun e w' => HeadPost w e w' := by
  have HG := Lib.hid hG
  clear hG
  have HSH := Lib.hid ((short_f [⟨k, n, t⟩, ⟨k', n', t'⟩] (by simp) 10 (by simp)).trans (congrArg some hs))
  clear hs
  have HVA := Lib.hid ((valid_f 0 k n t).trans (congrArg some (valid_iff.2 ha)))
  have HVB := Lib.hid ((valid_f 0 k' n' t').trans (congrArg some (valid_iff.2 hb)))
  have HT1 := Lib.hid (show value_Test.f k n t op 0 0 ⟨#[]⟩ add = some false from congrArg some (test_nil_r _ _ _ _ _))
  have HT2 := Lib.hid (show value_Test.f 0 0 ⟨#[]⟩ op k' n' t' add = some false from congrArg some (test_nil_l _ _ _ _ _))
  have q1 : (k != k') = false := bne_eq_false_iff_eq.2 hk
  have q2 := eqs hk
  have q3 := nes h0
  have q4 : decide (op < 1) = false := decide_eq_false (by omega)
  have q5 : decide (4 < op) = false := decide_eq_false (by omega)
  have z1 : (add != 0) = false := bne_eq_false_iff_eq.2 hz
  have z2 := eqs hz
  clear ha hb hk h0 hz
  go_enter Tryz.func9, Tryz.ntmps9
  go_wp2_with fail
  have KA := heap_new w (.cells #[.int .i64 k, .int .i64 n, .string t] 23)
  have KB := heap_new (w.alloc (.cells #[.int .i64 k, .int .i64 n, .string t] 23)) (.cells #[.int .i64 k', .int .i64 n', .string t'] 23)
  rw [show (w.alloc (.cells #[.int .i64 k, .int .i64 n, .string t] 23)).heap.size = w.heap.size + 1 by simp] at KB
  have KA := keepA (o' := .cells #[.int .i64 k', .int .i64 n', .string t'] 23) KA
  have K_ := Lib.hid KA
  clear KA
  have KA := K_
  clear K_
  have K_ := Lib.hid KB
  clear KB
  have KB := K_
  clear K_
  have HB0 := Lib.hid (((Below.refl w.heap.size w).alloc (Nat.le_refl _) (.cells #[.int .i64 k, .int .i64 n, .string t] 23)).alloc (by simp) (.cells #[.int .i64 k', .int .i64 n', .string t'] 23))
  refine (cleanselaw02_head.calls true _ (GT.below HG.out HB0.out) rfl).mono ?_
  rintro e w1 ⟨rfl, hb⟩
  have K_ := Lib.hid (keep1 hb KA.out)
  clear KA
  have KA := K_
  clear K_
  have K_ := Lib.hid (keep1 hb KB.out)
  clear KB
  have KB := K_
  clear K_
  have HB1 := Lib.hid (HB0.out.trans (hb.mono HB0.out.size))
  clear hb
  obtain ⟨⟨cA0, cA1, cA2⟩, _⟩ := h_cells KA.out
  obtain ⟨⟨cB0, cB1, cB2⟩, _⟩ := h_cells KB.out
  go_wp2_with fail
  clear cA0 cA1 cA2 cB0 cB1 cB2
  have K_ := Lib.hid (keepA (o' := .cells #[.int .i64 k, .int .i64 n, .string t, .int .i64 k', .int .i64 n', .string t'] 23) KA.out)
  clear KA
  have KA := K_
  clear K_
  have K_ := Lib.hid (keepA (o' := .cells #[.int .i64 k, .int .i64 n, .string t, .int .i64 k', .int .i64 n', .string t'] 23) KB.out)
  clear KB
  have KB := K_
  clear K_
  have HB1s := Lib.hid (HB1.out.alloc HB1.out.size (.cells #[.int .i64 k, .int .i64 n, .string t, .int .i64 k', .int .i64 n', .string t'] 23))
  refine (Px.cleanselaw02_short.calls 10 _ 2 [⟨k, n, t⟩, ⟨k', n', t'⟩] true _ (row2 (heap_new w1 _)) (Nat.le_refl _) HSH.out).mono ?_
  rintro e w2 ⟨rfl, hd⟩
  have hb := hd.below
  clear hd
  have K_ := Lib.hid (keep1 hb KA.out)
  clear KA
  have KA := K_
  clear K_
  have K_ := Lib.hid (keep1 hb KB.out)
  clear KB
  have KB := K_
  clear K_
  have HB2 := Lib.hid (HB1s.out.trans (hb.mono HB1s.out.size))
  clear hb
  obtain ⟨⟨cA0, cA1, cA2⟩, _⟩ := h_cells KA.out
  obtain ⟨⟨cB0, cB1, cB2⟩, _⟩ := h_cells KB.out
  go_wp2_with fail
  refine (Px.value_Valid.calls 1 k n t _ _ HVA.out).mono ?_
  rintro e w3 ⟨rfl, hb⟩
  clear cA0 cA1 cA2 cB0 cB1 cB2
  have K_ := Lib.hid (keep1 hb KA.out)
  clear KA
  have KA := K_
  clear K_
  have K_ := Lib.hid (keep1 hb KB.out)
  clear KB
  have KB := K_
  clear K_
  have HB3 := Lib.hid (HB2.out.trans (hb.mono HB2.out.size))
  clear hb
  obtain ⟨⟨cA0, cA1, cA2⟩, _⟩ := h_cells KA.out
  obtain ⟨⟨cB0, cB1, cB2⟩, _⟩ := h_cells KB.out
  go_wp2_with fail
  refine (Px.value_Valid.calls 1 k' n' t' _ _ HVB.out).mono ?_
  rintro e w4 ⟨rfl, hb⟩
  clear cA0 cA1 cA2 cB0 cB1 cB2
  have K_ := Lib.hid (keep1 hb KA.out)
  clear KA
  have KA := K_
  clear K_
  have K_ := Lib.hid (keep1 hb KB.out)
  clear KB
  have KB := K_
  clear K_
  have HB4 := Lib.hid (HB3.out.trans (hb.mono HB3.out.size))
  clear hb
  obtain ⟨⟨cA0, cA1, cA2⟩, _⟩ := h_cells KA.out
  obtain ⟨⟨cB0, cB1, cB2⟩, _⟩ := h_cells KB.out
  go_wp2_with fail
  refine (value_Test.calls k n t op 0 0 ⟨#[]⟩ add false _ HT1.out).mono ?_
  rintro e w5 ⟨rfl, hb⟩
  clear cA0 cA1 cA2 cB0 cB1 cB2
  have K_ := Lib.hid (keep1 hb KA.out)
  clear KA
  have KA := K_
  clear K_
  have K_ := Lib.hid (keep1 hb KB.out)
  clear KB
  have KB := K_
  clear K_
  have HB5 := Lib.hid (HB4.out.trans (hb.mono HB4.out.size))
  clear hb
  obtain ⟨⟨cA0, cA1, cA2⟩, _⟩ := h_cells KA.out
  obtain ⟨⟨cB0, cB1, cB2⟩, _⟩ := h_cells KB.out
  go_wp2_with fail
  refine (value_Test.calls 0 0 ⟨#[]⟩ op k' n' t' add false _ HT2.out).mono ?_
  rintro e w6 ⟨rfl, hb⟩
  clear cA0 cA1 cA2 cB0 cB1 cB2
  have K_ := Lib.hid (keep1 hb KA.out)
  clear KA
  have KA := K_
  clear K_
  have K_ := Lib.hid (keep1 hb KB.out)
  clear KB
  have KB := K_
  clear K_
  have HB6 := Lib.hid (HB5.out.trans (hb.mono HB5.out.size))
  clear hb
  obtain ⟨⟨cA0, cA1, cA2⟩, _⟩ := h_cells KA.out
  obtain ⟨⟨cB0, cB1, cB2⟩, _⟩ := h_cells KB.out
  go_wp2_with fail
  go_ret
  exact ⟨rfl, HB6.out⟩

set_option maxRecDepth 100000 in
set_option maxHeartbeats 4000000 in
theorem nothing_h (k n : Int) (t : ByteArray) (k' n' : Int) (t' : ByteArray) (op add : Int) (w : World) (hG : GT w) (hs : shortB [⟨k, n, t⟩, ⟨k', n', t'⟩] = true) (ha : ValidP k n t.data.toList) (hb : ValidP k' n' t'.data.toList) (hk : k = k') (h0 : k ≠ 0) (ho : 1 ≤ op) (ho4 : op ≤ 4) (hz : add ≠ 0) (h1 : k = 1) :
    Calls Tryz.prog 9 #[.agg #[.int .i64 k, .int .i64 n, .string t], .agg #[.int .i64 k', .int .i64 n', .string t'], .int .i64 op, .int .i64 add] w fun e w' => HeadPost w e w' := by
  have HG := Lib.hid hG
  clear hG
  have HSH := Lib.hid ((short_f [⟨k, n, t⟩, ⟨k', n', t'⟩] (by simp) 10 (by simp)).trans (congrArg some hs))
  clear hs
  have HVA := Lib.hid ((valid_f 0 k n t).trans (congrArg some (valid_iff.2 ha)))
  have HVB := Lib.hid ((valid_f 0 k' n' t').trans (congrArg some (valid_iff.2 hb)))
  have HT := Lib.hid (show value_Test.f k n t op k' n' t' add = some false from congrArg some (test_add hz (.inl h1)))
  have HT1 := Lib.hid (show value_Test.f k n t op 0 0 ⟨#[]⟩ add = some false from congrArg some (test_nil_r _ _ _ _ _))
  have HT2 := Lib.hid (show value_Test.f 0 0 ⟨#[]⟩ op k' n' t' add = some false from congrArg some (test_nil_l _ _ _ _ _))
  have q1 : (k != k') = false := bne_eq_false_iff_eq.2 hk
  have q2 := eqs hk
  have q3 := nes h0
  have q4 : decide (op < 1) = false := decide_eq_false (by omega)
  have q5 : decide (4 < op) = false := decide_eq_false (by omega)
  have z1 : (add != 0) = true := bne_iff_ne.2 hz
  have z2 := nes hz
  have q6 := eqs h1
  clear ha hb hk h0 h1 hz
  go_enter Tryz.func9, Tryz.ntmps9
  go_wp2_with fail
  have KA := heap_new w (.cells #[.int .i64 k, .int .i64 n, .string t] 23)
  have KB := heap_new (w.alloc (.cells #[.int .i64 k, .int .i64 n, .string t] 23)) (.cells #[.int .i64 k', .int .i64 n', .string t'] 23)
  rw [show (w.alloc (.cells #[.int .i64 k, .int .i64 n, .string t] 23)).heap.size = w.heap.size + 1 by simp] at KB
  have KA := keepA (o' := .cells #[.int .i64 k', .int .i64 n', .string t'] 23) KA
  have K_ := Lib.hid KA
  clear KA
  have KA := K_
  clear K_
  have K_ := Lib.hid KB
  clear KB
  have KB := K_
  clear K_
  have HB0 := Lib.hid (((Below.refl w.heap.size w).alloc (Nat.le_refl _) (.cells #[.int .i64 k, .int .i64 n, .string t] 23)).alloc (by simp) (.cells #[.int .i64 k', .int .i64 n', .string t'] 23))
  refine (cleanselaw02_head.calls true _ (GT.below HG.out HB0.out) rfl).mono ?_
  rintro e w1 ⟨rfl, hb⟩
  have K_ := Lib.hid (keep1 hb KA.out)
  clear KA
  have KA := K_
  clear K_
  have K_ := Lib.hid (keep1 hb KB.out)
  clear KB
  have KB := K_
  clear K_
  have HB1 := Lib.hid (HB0.out.trans (hb.mono HB0.out.size))
  clear hb
  obtain ⟨⟨cA0, cA1, cA2⟩, _⟩ := h_cells KA.out
  obtain ⟨⟨cB0, cB1, cB2⟩, _⟩ := h_cells KB.out
  go_wp2_with fail
  clear cA0 cA1 cA2 cB0 cB1 cB2
  have K_ := Lib.hid (keepA (o' := .cells #[.int .i64 k, .int .i64 n, .string t, .int .i64 k', .int .i64 n', .string t'] 23) KA.out)
  clear KA
  have KA := K_
  clear K_
  have K_ := Lib.hid (keepA (o' := .cells #[.int .i64 k, .int .i64 n, .string t, .int .i64 k', .int .i64 n', .string t'] 23) KB.out)
  clear KB
  have KB := K_
  clear K_
  have HB1s := Lib.hid (HB1.out.alloc HB1.out.size (.cells #[.int .i64 k, .int .i64 n, .string t, .int .i64 k', .int .i64 n', .string t'] 23))
  refine (Px.cleanselaw02_short.calls 10 _ 2 [⟨k, n, t⟩, ⟨k', n', t'⟩] true _ (row2 (heap_new w1 _)) (Nat.le_refl _) HSH.out).mono ?_
  rintro e w2 ⟨rfl, hd⟩
  have hb := hd.below
  clear hd
  have K_ := Lib.hid (keep1 hb KA.out)
  clear KA
  have KA := K_
  clear K_
  have K_ := Lib.hid (keep1 hb KB.out)
  clear KB
  have KB := K_
  clear K_
  have HB2 := Lib.hid (HB1s.out.trans (hb.mono HB1s.out.size))
  clear hb
  obtain ⟨⟨cA0, cA1, cA2⟩, _⟩ := h_cells KA.out
  obtain ⟨⟨cB0, cB1, cB2⟩, _⟩ := h_cells KB.out
  go_wp2_with fail
  refine (Px.value_Valid.calls 1 k n t _ _ HVA.out).mono ?_
  rintro e w3 ⟨rfl, hb⟩
  clear cA0 cA1 cA2 cB0 cB1 cB2
  have K_ := Lib.hid (keep1 hb KA.out)
  clear KA
  have KA := K_
  clear K_
  have K_ := Lib.hid (keep1 hb KB.out)
  clear KB
  have KB := K_
  clear K_
  have HB3 := Lib.hid (HB2.out.trans (hb.mono HB2.out.size))
  clear hb
  obtain ⟨⟨cA0, cA1, cA2⟩, _⟩ := h_cells KA.out
  obtain ⟨⟨cB0, cB1, cB2⟩, _⟩ := h_cells KB.out
  go_wp2_with fail
  refine (Px.value_Valid.calls 1 k' n' t' _ _ HVB.out).mono ?_
  rintro e w4 ⟨rfl, hb⟩
  clear cA0 cA1 cA2 cB0 cB1 cB2
  have K_ := Lib.hid (keep1 hb KA.out)
  clear KA
  have KA := K_
  clear K_
  have K_ := Lib.hid (keep1 hb KB.out)
  clear KB
  have KB := K_
  clear K_
  have HB4 := Lib.hid (HB3.out.trans (hb.mono HB3.out.size))
  clear hb
  obtain ⟨⟨cA0, cA1, cA2⟩, _⟩ := h_cells KA.out
  obtain ⟨⟨cB0, cB1, cB2⟩, _⟩ := h_cells KB.out
  go_wp2_with fail
  refine (value_Test.calls k n t op k' n' t' add false _ HT.out).mono ?_
  rintro e w5 ⟨rfl, hb⟩
  clear cA0 cA1 cA2 cB0 cB1 cB2
  have K_ := Lib.hid (keep1 hb KA.out)
  clear KA
  have KA := K_
  clear K_
  have K_ := Lib.hid (keep1 hb KB.out)
  clear KB
  have KB := K_
  clear K_
  have HB5 := Lib.hid (HB4.out.trans (hb.mono HB4.out.size))
  clear hb
  obtain ⟨⟨cA0, cA1, cA2⟩, _⟩ := h_cells KA.out
  obtain ⟨⟨cB0, cB1, cB2⟩, _⟩ := h_cells KB.out
  go_wp2_with fail
  refine (value_Test.calls k n t op 0 0 ⟨#[]⟩ add false _ HT1.out).mono ?_
  rintro e w6 ⟨rfl, hb⟩
  clear cA0 cA1 cA2 cB0 cB1 cB2
  have K_ := Lib.hid (keep1 hb KA.out)
  clear KA
  have KA := K_
  clear K_
  have K_ := Lib.hid (keep1 hb KB.out)
  clear KB
  have KB := K_
  clear K_
  have HB6 := Lib.hid (HB5.out.trans (hb.mono HB5.out.size))
  clear hb
  obtain ⟨⟨cA0, cA1, cA2⟩, _⟩ := h_cells KA.out
  obtain ⟨⟨cB0, cB1, cB2⟩, _⟩ := h_cells KB.out
  go_wp2_with fail
  refine (value_Test.calls 0 0 ⟨#[]⟩ op k' n' t' add false _ HT2.out).mono ?_
  rintro e w7 ⟨rfl, hb⟩
  clear cA0 cA1 cA2 cB0 cB1 cB2
  have K_ := Lib.hid (keep1 hb KA.out)
  clear KA
  have KA := K_
  clear K_
  have K_ := Lib.hid (keep1 hb KB.out)
  clear KB
  have KB := K_
  clear K_
  have HB7 := Lib.hid (HB6.out.trans (hb.mono HB6.out.size))
  clear hb
  obtain ⟨⟨cA0, cA1, cA2⟩, _⟩ := h_cells KA.out
  obtain ⟨⟨cB0, cB1, cB2⟩, _⟩ := h_cells KB.out
  go_wp2_with fail
  go_ret
  exact ⟨rfl, HB7.out⟩

set_option maxRecDepth 100000 in
set_option maxHeartbeats 4000000 in
theorem nothing_i (k n : Int) (t : ByteArray) (k' n' : Int) (t' : ByteArray) (op add : Int) (w : World) (hG : GT w) (hs : shortB [⟨k, n, t⟩, ⟨k', n', t'⟩] = true) (ha : ValidP k n t.data.toList) (hb : ValidP k' n' t'.data.toList) (hk : k = k') (h0 : k ≠ 0) (ho : 1 ≤ op) (ho4 : op ≤ 4) (hz : add ≠ 0) (h1 : k ≠ 1) (h4 : k = 4) :
    Calls Tryz.prog 9 #[.agg #[.int .i64 k, .int .i64 n, .string t], .agg #[.int .i64 k', .int .i64 n', .string t'], .int .i64 op, .int .i64 add] w fun e w' => HeadPost w e w' := by
  have HG := Lib.hid hG
  clear hG
  have HSH := Lib.hid ((short_f [⟨k, n, t⟩, ⟨k', n', t'⟩] (by simp) 10 (by simp)).trans (congrArg some hs))
  clear hs
  have HVA := Lib.hid ((valid_f 0 k n t).trans (congrArg some (valid_iff.2 ha)))
  have HVB := Lib.hid ((valid_f 0 k' n' t').trans (congrArg some (valid_iff.2 hb)))
  have HT := Lib.hid (show value_Test.f k n t op k' n' t' add = some false from congrArg some (test_add hz (.inr h4)))
  have HT1 := Lib.hid (show value_Test.f k n t op 0 0 ⟨#[]⟩ add = some false from congrArg some (test_nil_r _ _ _ _ _))
  have HT2 := Lib.hid (show value_Test.f 0 0 ⟨#[]⟩ op k' n' t' add = some false from congrArg some (test_nil_l _ _ _ _ _))
  have q1 : (k != k') = false := bne_eq_false_iff_eq.2 hk
  have q2 := eqs hk
  have q3 := nes h0
  have q4 : decide (op < 1) = false := decide_eq_false (by omega)
  have q5 : decide (4 < op) = false := decide_eq_false (by omega)
  have z1 : (add != 0) = true := bne_iff_ne.2 hz
  have z2 := nes hz
  have q6 := nes h1
  have q7 := eqs h4
  clear ha hb hk h0 h1 h4 hz
  go_enter Tryz.func9, Tryz.ntmps9
  go_wp2_with fail
  have KA := heap_new w (.cells #[.int .i64 k, .int .i64 n, .string t] 23)
  have KB := heap_new (w.alloc (.cells #[.int .i64 k, .int .i64 n, .string t] 23)) (.cells #[.int .i64 k', .int .i64 n', .string t'] 23)
  rw [show (w.alloc (.cells #[.int .i64 k, .int .i64 n, .string t] 23)).heap.size = w.heap.size + 1 by simp] at KB
  have KA := keepA (o' := .cells #[.int .i64 k', .int .i64 n', .string t'] 23) KA
  have K_ := Lib.hid KA
  clear KA
  have KA := K_
  clear K_
  have K_ := Lib.hid KB
  clear KB
  have KB := K_
  clear K_
  have HB0 := Lib.hid (((Below.refl w.heap.size w).alloc (Nat.le_refl _) (.cells #[.int .i64 k, .int .i64 n, .string t] 23)).alloc (by simp) (.cells #[.int .i64 k', .int .i64 n', .string t'] 23))
  refine (cleanselaw02_head.calls true _ (GT.below HG.out HB0.out) rfl).mono ?_
  rintro e w1 ⟨rfl, hb⟩
  have K_ := Lib.hid (keep1 hb KA.out)
  clear KA
  have KA := K_
  clear K_
  have K_ := Lib.hid (keep1 hb KB.out)
  clear KB
  have KB := K_
  clear K_
  have HB1 := Lib.hid (HB0.out.trans (hb.mono HB0.out.size))
  clear hb
  obtain ⟨⟨cA0, cA1, cA2⟩, _⟩ := h_cells KA.out
  obtain ⟨⟨cB0, cB1, cB2⟩, _⟩ := h_cells KB.out
  go_wp2_with fail
  clear cA0 cA1 cA2 cB0 cB1 cB2
  have K_ := Lib.hid (keepA (o' := .cells #[.int .i64 k, .int .i64 n, .string t, .int .i64 k', .int .i64 n', .string t'] 23) KA.out)
  clear KA
  have KA := K_
  clear K_
  have K_ := Lib.hid (keepA (o' := .cells #[.int .i64 k, .int .i64 n, .string t, .int .i64 k', .int .i64 n', .string t'] 23) KB.out)
  clear KB
  have KB := K_
  clear K_
  have HB1s := Lib.hid (HB1.out.alloc HB1.out.size (.cells #[.int .i64 k, .int .i64 n, .string t, .int .i64 k', .int .i64 n', .string t'] 23))
  refine (Px.cleanselaw02_short.calls 10 _ 2 [⟨k, n, t⟩, ⟨k', n', t'⟩] true _ (row2 (heap_new w1 _)) (Nat.le_refl _) HSH.out).mono ?_
  rintro e w2 ⟨rfl, hd⟩
  have hb := hd.below
  clear hd
  have K_ := Lib.hid (keep1 hb KA.out)
  clear KA
  have KA := K_
  clear K_
  have K_ := Lib.hid (keep1 hb KB.out)
  clear KB
  have KB := K_
  clear K_
  have HB2 := Lib.hid (HB1s.out.trans (hb.mono HB1s.out.size))
  clear hb
  obtain ⟨⟨cA0, cA1, cA2⟩, _⟩ := h_cells KA.out
  obtain ⟨⟨cB0, cB1, cB2⟩, _⟩ := h_cells KB.out
  go_wp2_with fail
  refine (Px.value_Valid.calls 1 k n t _ _ HVA.out).mono ?_
  rintro e w3 ⟨rfl, hb⟩
  clear cA0 cA1 cA2 cB0 cB1 cB2
  have K_ := Lib.hid (keep1 hb KA.out)
  clear KA
  have KA := K_
  clear K_
  have K_ := Lib.hid (keep1 hb KB.out)
  clear KB
  have KB := K_
  clear K_
  have HB3 := Lib.hid (HB2.out.trans (hb.mono HB2.out.size))
  clear hb
  obtain ⟨⟨cA0, cA1, cA2⟩, _⟩ := h_cells KA.out
  obtain ⟨⟨cB0, cB1, cB2⟩, _⟩ := h_cells KB.out
  go_wp2_with fail
  refine (Px.value_Valid.calls 1 k' n' t' _ _ HVB.out).mono ?_
  rintro e w4 ⟨rfl, hb⟩
  clear cA0 cA1 cA2 cB0 cB1 cB2
  have K_ := Lib.hid (keep1 hb KA.out)
  clear KA
  have KA := K_
  clear K_
  have K_ := Lib.hid (keep1 hb KB.out)
  clear KB
  have KB := K_
  clear K_
  have HB4 := Lib.hid (HB3.out.trans (hb.mono HB3.out.size))
  clear hb
  obtain ⟨⟨cA0, cA1, cA2⟩, _⟩ := h_cells KA.out
  obtain ⟨⟨cB0, cB1, cB2⟩, _⟩ := h_cells KB.out
  go_wp2_with fail
  refine (value_Test.calls k n t op k' n' t' add false _ HT.out).mono ?_
  rintro e w5 ⟨rfl, hb⟩
  clear cA0 cA1 cA2 cB0 cB1 cB2
  have K_ := Lib.hid (keep1 hb KA.out)
  clear KA
  have KA := K_
  clear K_
  have K_ := Lib.hid (keep1 hb KB.out)
  clear KB
  have KB := K_
  clear K_
  have HB5 := Lib.hid (HB4.out.trans (hb.mono HB4.out.size))
  clear hb
  obtain ⟨⟨cA0, cA1, cA2⟩, _⟩ := h_cells KA.out
  obtain ⟨⟨cB0, cB1, cB2⟩, _⟩ := h_cells KB.out
  go_wp2_with fail
  refine (value_Test.calls k n t op 0 0 ⟨#[]⟩ add false _ HT1.out).mono ?_
  rintro e w6 ⟨rfl, hb⟩
  clear cA0 cA1 cA2 cB0 cB1 cB2
  have K_ := Lib.hid (keep1 hb KA.out)
  clear KA
  have KA := K_
  clear K_
  have K_ := Lib.hid (keep1 hb KB.out)
  clear KB
  have KB := K_
  clear K_
  have HB6 := Lib.hid (HB5.out.trans (hb.mono HB5.out.size))
  clear hb
  obtain ⟨⟨cA0, cA1, cA2⟩, _⟩ := h_cells KA.out
  obtain ⟨⟨cB0, cB1, cB2⟩, _⟩ := h_cells KB.out
  go_wp2_with fail
  refine (value_Test.calls 0 0 ⟨#[]⟩ op k' n' t' add false _ HT2.out).mono ?_
  rintro e w7 ⟨rfl, hb⟩
  clear cA0 cA1 cA2 cB0 cB1 cB2
  have K_ := Lib.hid (keep1 hb KA.out)
  clear KA
  have KA := K_
  clear K_
  have K_ := Lib.hid (keep1 hb KB.out)
  clear KB
  have KB := K_
  clear K_
  have HB7 := Lib.hid (HB6.out.trans (hb.mono HB6.out.size))
  clear hb
  obtain ⟨⟨cA0, cA1, cA2⟩, _⟩ := h_cells KA.out
  obtain ⟨⟨cB0, cB1, cB2⟩, _⟩ := h_cells KB.out
  go_wp2_with fail
  go_ret
  exact ⟨rfl, HB7.out⟩

set_option maxRecDepth 100000 in
set_option maxHeartbeats 4000000 in
theorem nothing_j (k n : Int) (t : ByteArray) (k' n' : Int) (t' : ByteArray) (op add : Int) (w : World) (hG : GT w) (hs : shortB [⟨k, n, t⟩, ⟨k', n', t'⟩] = true) (ha : ValidP k n t.data.toList) (hb : ValidP k' n' t'.data.toList) (hk : k = k') (h0 : k ≠ 0) (ho : 1 ≤ op) (ho4 : op ≤ 4) (hz : add ≠ 0) (h1 : k ≠ 1) (h4 : k ≠ 4) :
    Calls Tryz.prog 9 #[.agg #[.int .i64 k, .int .i64 n, .string t], .agg #[.int .i64 k', .int .i64 n', .string t'], .int .i64 op, .int .i64 add] w fun e w' => HeadPost w e w' := by
  have HG := Lib.hid hG
  clear hG
  have HSH := Lib.hid ((short_f [⟨k, n, t⟩, ⟨k', n', t'⟩] (by simp) 10 (by simp)).trans (congrArg some hs))
  clear hs
  have HVA := Lib.hid ((valid_f 0 k n t).trans (congrArg some (valid_iff.2 ha)))
  have HVB := Lib.hid ((valid_f 0 k' n' t').trans (congrArg some (valid_iff.2 hb)))
  have HT1 := Lib.hid (show value_Test.f k n t op 0 0 ⟨#[]⟩ add = some false from congrArg some (test_nil_r _ _ _ _ _))
  have HT2 := Lib.hid (show value_Test.f 0 0 ⟨#[]⟩ op k' n' t' add = some false from congrArg some (test_nil_l _ _ _ _ _))
  have q1 : (k != k') = false := bne_eq_false_iff_eq.2 hk
  have q2 := eqs hk
  have q3 := nes h0
  have q4 : decide (op < 1) = false := decide_eq_false (by omega)
  have q5 : decide (4 < op) = false := decide_eq_false (by omega)
  have z1 : (add != 0) = true := bne_iff_ne.2 hz
  have z2 := nes hz
  have q6 := nes h1
  have q7 := nes h4
  clear ha hb hk h0 h1 h4 hz
  go_enter Tryz.func9, Tryz.ntmps9
  go_wp2_with fail
  have KA := heap_new w (.cells #[.int .i64 k, .int .i64 n, .string t] 23)
  have KB := heap_new (w.alloc (.cells #[.int .i64 k, .int .i64 n, .string t] 23)) (.cells #[.int .i64 k', .int .i64 n', .string t'] 23)
  rw [show (w.alloc (.cells #[.int .i64 k, .int .i64 n, .string t] 23)).heap.size = w.heap.size + 1 by simp] at KB
  have KA := keepA (o' := .cells #[.int .i64 k', .int .i64 n', .string t'] 23) KA
  have K_ := Lib.hid KA
  clear KA
  have KA := K_
  clear K_
  have K_ := Lib.hid KB
  clear KB
  have KB := K_
  clear K_
  have HB0 := Lib.hid (((Below.refl w.heap.size w).alloc (Nat.le_refl _) (.cells #[.int .i64 k, .int .i64 n, .string t] 23)).alloc (by simp) (.cells #[.int .i64 k', .int .i64 n', .string t'] 23))
  refine (cleanselaw02_head.calls true _ (GT.below HG.out HB0.out) rfl).mono ?_
  rintro e w1 ⟨rfl, hb⟩
  have K_ := Lib.hid (keep1 hb KA.out)
  clear KA
  have KA := K_
  clear K_
  have K_ := Lib.hid (keep1 hb KB.out)
  clear KB
  have KB := K_
  clear K_
  have HB1 := Lib.hid (HB0.out.trans (hb.mono HB0.out.size))
  clear hb
  obtain ⟨⟨cA0, cA1, cA2⟩, _⟩ := h_cells KA.out
  obtain ⟨⟨cB0, cB1, cB2⟩, _⟩ := h_cells KB.out
  go_wp2_with fail
  clear cA0 cA1 cA2 cB0 cB1 cB2
  have K_ := Lib.hid (keepA (o' := .cells #[.int .i64 k, .int .i64 n, .string t, .int .i64 k', .int .i64 n', .string t'] 23) KA.out)
  clear KA
  have KA := K_
  clear K_
  have K_ := Lib.hid (keepA (o' := .cells #[.int .i64 k, .int .i64 n, .string t, .int .i64 k', .int .i64 n', .string t'] 23) KB.out)
  clear KB
  have KB := K_
  clear K_
  have HB1s := Lib.hid (HB1.out.alloc HB1.out.size (.cells #[.int .i64 k, .int .i64 n, .string t, .int .i64 k', .int .i64 n', .string t'] 23))
  refine (Px.cleanselaw02_short.calls 10 _ 2 [⟨k, n, t⟩, ⟨k', n', t'⟩] true _ (row2 (heap_new w1 _)) (Nat.le_refl _) HSH.out).mono ?_
  rintro e w2 ⟨rfl, hd⟩
  have hb := hd.below
  clear hd
  have K_ := Lib.hid (keep1 hb KA.out)
  clear KA
  have KA := K_
  clear K_
  have K_ := Lib.hid (keep1 hb KB.out)
  clear KB
  have KB := K_
  clear K_
  have HB2 := Lib.hid (HB1s.out.trans (hb.mono HB1s.out.size))
  clear hb
  obtain ⟨⟨cA0, cA1, cA2⟩, _⟩ := h_cells KA.out
  obtain ⟨⟨cB0, cB1, cB2⟩, _⟩ := h_cells KB.out
  go_wp2_with fail
  refine (Px.value_Valid.calls 1 k n t _ _ HVA.out).mono ?_
  rintro e w3 ⟨rfl, hb⟩
  clear cA0 cA1 cA2 cB0 cB1 cB2
  have K_ := Lib.hid (keep1 hb KA.out)
  clear KA
  have KA := K_
  clear K_
  have K_ := Lib.hid (keep1 hb KB.out)
  clear KB
  have KB := K_
  clear K_
  have HB3 := Lib.hid (HB2.out.trans (hb.mono HB2.out.size))
  clear hb
  obtain ⟨⟨cA0, cA1, cA2⟩, _⟩ := h_cells KA.out
  obtain ⟨⟨cB0, cB1, cB2⟩, _⟩ := h_cells KB.out
  go_wp2_with fail
  refine (Px.value_Valid.calls 1 k' n' t' _ _ HVB.out).mono ?_
  rintro e w4 ⟨rfl, hb⟩
  clear cA0 cA1 cA2 cB0 cB1 cB2
  have K_ := Lib.hid (keep1 hb KA.out)
  clear KA
  have KA := K_
  clear K_
  have K_ := Lib.hid (keep1 hb KB.out)
  clear KB
  have KB := K_
  clear K_
  have HB4 := Lib.hid (HB3.out.trans (hb.mono HB3.out.size))
  clear hb
  obtain ⟨⟨cA0, cA1, cA2⟩, _⟩ := h_cells KA.out
  obtain ⟨⟨cB0, cB1, cB2⟩, _⟩ := h_cells KB.out
  go_wp2_with fail
  refine (value_Test.calls k n t op 0 0 ⟨#[]⟩ add false _ HT1.out).mono ?_
  rintro e w5 ⟨rfl, hb⟩
  clear cA0 cA1 cA2 cB0 cB1 cB2
  have K_ := Lib.hid (keep1 hb KA.out)
  clear KA
  have KA := K_
  clear K_
  have K_ := Lib.hid (keep1 hb KB.out)
  clear KB
  have KB := K_
  clear K_
  have HB5 := Lib.hid (HB4.out.trans (hb.mono HB4.out.size))
  clear hb
  obtain ⟨⟨cA0, cA1, cA2⟩, _⟩ := h_cells KA.out
  obtain ⟨⟨cB0, cB1, cB2⟩, _⟩ := h_cells KB.out
  go_wp2_with fail
  refine (value_Test.calls 0 0 ⟨#[]⟩ op k' n' t' add false _ HT2.out).mono ?_
  rintro e w6 ⟨rfl, hb⟩
  clear cA0 cA1 cA2 cB0 cB1 cB2
  have K_ := Lib.hid (keep1 hb KA.out)
  clear KA
  have KA := K_
  clear K_
  have K_ := Lib.hid (keep1 hb KB.out)
  clear KB
  have KB := K_
  clear K_
  have HB6 := Lib.hid (HB5.out.trans (hb.mono HB5.out.size))
  clear hb
  obtain ⟨⟨cA0, cA1, cA2⟩, _⟩ := h_cells KA.out
  obtain ⟨⟨cB0, cB1, cB2⟩, _⟩ := h_cells KB.out
  go_wp2_with fail
  go_ret
  exact ⟨rfl, HB6.out⟩

end Go.Proofs.YthgppbpmcjkadaaGreatDoor.X
namespace Go.Proofs.YthgppbpmcjkadaaGreatDoor.Xn
open Go.RowKit X Go.Proofs.YthgppbpmcjkadaaGreatDoorW.PrintWords
def cleanselaw02_ValueNothing.f (a0_0 : Int) (a0_1 : Int) (a0_2 : ByteArray) (a1_0 : Int) (a1_1 : Int) (a1_2 : ByteArray) (a2 : Int) (a3 : Int) : Option Bool := some true
theorem cleanselaw02_ValueNothing.calls (a0_0 : Int) (a0_1 : Int) (a0_2 : ByteArray) (a1_0 : Int) (a1_1 : Int) (a1_2 : ByteArray) (a2 : Int) (a3 : Int) (r : Bool) (w : World) (hG : X.GT w) (h : cleanselaw02_ValueNothing.f a0_0 a0_1 a0_2 a1_0 a1_1 a1_2 a2 a3 = some r) :
    Calls Tryz.prog 9 #[.agg #[.int .i64 a0_0, .int .i64 a0_1, .string a0_2], .agg #[.int .i64 a1_0, .int .i64 a1_1, .string a1_2], .int .i64 a2, .int .i64 a3] w fun e w' => e = .returned (.bool r) ∧ Below w.heap.size w w' := by
  obtain rfl := Option.some.inj h
  show Calls Tryz.prog 9 _ w fun e w' => HeadPost w e w'
  cases hs : shortB [⟨a0_0, a0_1, a0_2⟩, ⟨a1_0, a1_1, a1_2⟩] with
  | false => exact nothing_s _ _ _ _ _ _ _ _ w hG hs
  | true =>
    by_cases ha : ValidP a0_0 a0_1 a0_2.data.toList
    case neg => exact nothing_a _ _ _ _ _ _ _ _ w hG hs ha
    by_cases hb : ValidP a1_0 a1_1 a1_2.data.toList
    case neg => exact nothing_b _ _ _ _ _ _ _ _ w hG hs ha hb
    by_cases hk : a0_0 = a1_0
    case neg => exact nothing_c _ _ _ _ _ _ _ _ w hG hs ha hb hk
    by_cases h0 : a0_0 = 0
    · exact nothing_d _ _ _ _ _ _ _ _ w hG hs ha hb hk h0
    by_cases ho : a2 < 1
    · exact nothing_e _ _ _ _ _ _ _ _ w hG hs ha hb hk h0 ho
    by_cases ho4 : 4 < a2
    · exact nothing_f _ _ _ _ _ _ _ _ w hG hs ha hb hk h0 (by omega) ho4
    by_cases hz : a3 = 0
    · exact nothing_g _ _ _ _ _ _ _ _ w hG hs ha hb hk h0 (by omega) (by omega) hz
    by_cases h1 : a0_0 = 1
    · exact nothing_h _ _ _ _ _ _ _ _ w hG hs ha hb hk h0 (by omega) (by omega) hz h1
    by_cases h4 : a0_0 = 4
    · exact nothing_i _ _ _ _ _ _ _ _ w hG hs ha hb hk h0 (by omega) (by omega) hz h1 h4
    · exact nothing_j _ _ _ _ _ _ _ _ w hG hs ha hb hk h0 (by omega) (by omega) hz h1 h4
end Go.Proofs.YthgppbpmcjkadaaGreatDoor.Xn
