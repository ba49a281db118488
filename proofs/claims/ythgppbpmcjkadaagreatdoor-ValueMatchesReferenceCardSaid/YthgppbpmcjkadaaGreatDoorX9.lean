/- value.Test in the form of the printed contracts. -/
import Derived.Test.YthgppbpmcjkadaaGreatDoorX6
import Derived.Test.YthgppbpmcjkadaaGreatDoorPx5 -- F value_Compare
import Derived.Laws.EntriesVeiled
set_option linter.unusedVariables false
set_option linter.unusedSimpArgs false
namespace Go.Proofs.YthgppbpmcjkadaaGreatDoor.X
open Go.RowKit Go.Proofs.YthgppbpmcjkadaaGreatDoorW.PrintWords Go.Proofs.YthgppbpmcjkadaaGreatDoorW.PrintLast Go.Proofs.YthgppbpmcjkadaaGreatDoorW.PrintMore
def opB (op c : Int) : Bool := if op = 1 then c == 0 else if op = 2 then c != 0 else if op = 3 then decide (c < 0) else if op = 4 then decide (c ≤ 0) else false
theorem cmp1 (c : Int) (w : World) : Calls Tryz.prog 54 #[.int .i64 c] w fun e w' => e = .returned (.bool (c == 0)) ∧ w' = w := by
  go_enter Tryz.func54, Tryz.ntmps54
  go_wp2
  go_ret
  exact ⟨rfl, rfl⟩
theorem cmp2 (c : Int) (w : World) : Calls Tryz.prog 55 #[.int .i64 c] w fun e w' => e = .returned (.bool (c != 0)) ∧ w' = w := by
  go_enter Tryz.func55, Tryz.ntmps55
  go_wp2
  go_ret
  exact ⟨rfl, rfl⟩
theorem cmp3 (c : Int) (w : World) : Calls Tryz.prog 56 #[.int .i64 c] w fun e w' => e = .returned (.bool (decide (c < 0))) ∧ w' = w := by
  go_enter Tryz.func56, Tryz.ntmps56
  go_wp2
  go_ret
  exact ⟨rfl, rfl⟩
theorem cmp4 (c : Int) (w : World) : Calls Tryz.prog 57 #[.int .i64 c] w fun e w' => e = .returned (.bool (decide (c ≤ 0))) ∧ w' = w := by
  go_enter Tryz.func57, Tryz.ntmps57
  go_wp2
  go_ret
  exact ⟨rfl, rfl⟩
theorem comparisons_any (w : World) : Calls Tryz.prog 44 #[] w fun e w' => e = .returned (.slice (some ⟨w.heap.size, 0, none⟩) 4 4) ∧ w' = w.alloc (.cells #[.int .i64 1, .func (.func 54) #[] #[], .int .i64 2, .func (.func 55) #[] #[], .int .i64 3, .func (.func 56) #[] #[], .int .i64 4, .func (.func 57) #[] #[]] 63) := by
  go_enter Tryz.func44, Tryz.ntmps44
  go_wp2
  go_ret
  exact ⟨rfl, rfl⟩
def ordI (x y : Int) : Int := if x < y then -1 else if y < x then 1 else 0
def ordT (x y : List UInt8) : Int := if Op.bytesLess x y = true then -1 else if Op.bytesLess y x = true then 1 else 0
def cmpZ (k n : Int) (t : List UInt8) (k' n' : Int) (t' : List UInt8) : Int := if ordI k k' = 0 then (if ordI n n' = 0 then ordT t t' else ordI n n') else ordI k k'
theorem order_f (x y : Int) : Px.value_order_int.f x y = some (ordI x y) := by
  unfold Px.value_order_int.f ordI
  by_cases h : x < y
  · rw [if_pos h, if_pos h]
  · rw [if_neg h, if_neg h]
    by_cases h2 : y < x
    · rw [if_pos h2, if_pos h2]
    · rw [if_neg h2, if_neg h2]
theorem compare_f (k n : Int) (t : ByteArray) (k' n' : Int) (t' : ByteArray) : Px.value_Compare.f k n t k' n' t' = some (cmpZ k n t.data.toList k' n' t'.data.toList) := by
  unfold Px.value_Compare.f cmpZ
  rw [order_f]
  simp only [Option.bind_some]
  by_cases h : ordI k k' = 0
  · rw [if_pos h, if_pos h, order_f]
    simp only [Option.bind_some]
    by_cases h2 : ordI n n' = 0
    · rw [if_pos h2, if_pos h2]
      unfold Px.value_order_string.f ordT
      rw [ByteArray.toList_eq, ByteArray.toList_eq]
      by_cases h3 : Op.bytesLess t.data.toList t'.data.toList = true
      · rw [if_pos h3, if_pos h3]; rfl
      · rw [if_neg h3, if_neg h3]
        by_cases h4 : Op.bytesLess t'.data.toList t.data.toList = true
        · rw [if_pos h4, if_pos h4]; rfl
        · rw [if_neg h4, if_neg h4]; rfl
    · rw [if_neg h2, if_neg h2]
  · rw [if_neg h, if_neg h]
def testZ (k n : Int) (t : List UInt8) (op k' n' : Int) (t' : List UInt8) (add : Int) : Bool :=
  if ValidP k n t ∧ ValidP k' n' t' ∧ k = k' then (if k = 2 ∨ k = 3 then opB op (ordI (n - n') add) else if k = 1 ∨ k = 4 then (if add = 0 then opB op (cmpZ k n t k' n' t') else false) else false) else false
def TestPost (z : Bool) (w : World) (e : Ending) (w' : World) : Prop := e = .returned (.bool z) ∧ Below w.heap.size w w'
theorem false_of {k n : Int} {t : List UInt8} (h : ¬ ValidP k n t) : validZ k n t = false := by
  cases hx : validZ k n t with
  | false => rfl
  | true => exact absurd (valid_iff.1 hx) h
theorem two_box (w : World) (o1 o2 : Obj) : ((w.alloc o1).alloc o2).heap[w.heap.size]? = some o1 ∧ ((w.alloc o1).alloc o2).heap[w.heap.size + 1]? = some o2 := by
  have h2 := heap_new (w.alloc o1) o2
  have e : (w.alloc o1).heap.size = w.heap.size + 1 := World.size_alloc _ _
  rw [e] at h2
  refine ⟨?_, h2⟩
  rw [Below.heap_alloc _ _ _ (show w.heap.size < (w.alloc o1).heap.size by rw [e]; omega)]
  exact heap_new w o1
theorem cells8 {W : World} {N T : Nat} {a b c d e f g h : Value} (x : W.heap[N]? = some (.cells #[a, b, c, d, e, f, g, h] T (0, 0))) : (W.cell? ⟨N, 0, none⟩ = some a ∧ W.cell? ⟨N, 1, none⟩ = some b ∧ W.cell? ⟨N, 2, none⟩ = some c ∧ W.cell? ⟨N, 3, none⟩ = some d ∧ W.cell? ⟨N, 4, none⟩ = some e ∧ W.cell? ⟨N, 5, none⟩ = some f ∧ W.cell? ⟨N, 6, none⟩ = some g ∧ W.cell? ⟨N, 7, none⟩ = some h) ∧ N < W.heap.size := by
  refine ⟨by simp [World.cell?, x], (Array.getElem?_eq_some_iff.1 x).1⟩
theorem hop_next {op : Int} {j : Nat} (h : ∀ i : Nat, i < j → op ≠ (i : Int) + 1) (ho : ¬ op = (j : Int) + 1) : ∀ i : Nat, i < j + 1 → op ≠ (i : Int) + 1 := by
  intro i hi
  rcases Nat.lt_or_ge i j with h2 | h2
  · exact h i h2
  · obtain rfl : i = j := by omega
    exact ho
theorem keepT {W w1 : World} (hb : Below W.heap.size W w1) {N : Nat} {o1 o2 : Obj} (h1 : W.heap[N]? = some o1) (h2 : W.heap[N + 1]? = some o2) : w1.heap[N]? = some o1 ∧ w1.heap[N + 1]? = some o2 := by
  have lt : ∀ k o, W.heap[k]? = some o → k < W.heap.size := fun k o h => (Array.getElem?_eq_some_iff.1 h).1
  exact ⟨(hb.block N (lt _ _ h1)).trans h1, (hb.block (N + 1) (lt _ _ h2)).trans h2⟩
set_option maxRecDepth 100000 in
set_option maxHeartbeats 8000000 in
theorem test_no1 (k n : Int) (t : ByteArray) (op k' n' : Int) (t' : ByteArray) (add : Int) (w : World) (h : ¬ ValidP k n t.data.toList) :
    Calls Tryz.prog 23 #[.agg #[.int .i64 k, .int .i64 n, .string t], .int .i64 op, .agg #[.int .i64 k', .int .i64 n', .string t'], .int .i64 add] w fun e w' => TestPost false w e w' := by
  have hf := valid_f 0 k n t
  rw [false_of h] at hf
  have HV := Lib.hid hf
  clear hf
  clear h
  go_enter Tryz.func23, Tryz.ntmps23
  go_wp2_with fail
  refine (Px.value_Valid.calls 1 k n t _ _ HV.out).mono ?_
  rintro e w1 ⟨rfl, hb⟩
  obtain ⟨h1, h2⟩ := two_box w (Obj.cells #[Value.int IntKind.i64 k, Value.int IntKind.i64 n, Value.string t] 23) (Obj.cells #[Value.int IntKind.i64 k', Value.int IntKind.i64 n', Value.string t'] 23)
  obtain ⟨hN, hN1⟩ := keepT hb h1 h2
  have HB := Lib.hid ((((Below.refl _ _).alloc (Nat.le_refl w.heap.size) _).alloc (by simp) _).trans (hb.mono (by simp; omega)))
  obtain ⟨a0, a1, a2⟩ := cells3' hN
  obtain ⟨b0, b1, b2⟩ := cells3' hN1
  have HN := Lib.hid (And.intro hN hN1)
  clear hb h1 h2 hN hN1
  go_wp2_with fail
  go_ret
  exact ⟨rfl, HB.out⟩

set_option maxRecDepth 100000 in
set_option maxHeartbeats 8000000 in
theorem test_no2 (k n : Int) (t : ByteArray) (op k' n' : Int) (t' : ByteArray) (add : Int) (w : World) (h : ValidP k n t.data.toList) (h' : ¬ ValidP k' n' t'.data.toList) :
    Calls Tryz.prog 23 #[.agg #[.int .i64 k, .int .i64 n, .string t], .int .i64 op, .agg #[.int .i64 k', .int .i64 n', .string t'], .int .i64 add] w fun e w' => TestPost false w e w' := by
  have hf := valid_f 0 k n t
  rw [valid_iff.2 h] at hf
  have HV := Lib.hid hf
  clear hf
  have hf := valid_f 0 k' n' t'
  rw [false_of h'] at hf
  have HV2 := Lib.hid hf
  clear hf
  clear h h'
  go_enter Tryz.func23, Tryz.ntmps23
  go_wp2_with fail
  refine (Px.value_Valid.calls 1 k n t _ _ HV.out).mono ?_
  rintro e w1 ⟨rfl, hb⟩
  obtain ⟨h1, h2⟩ := two_box w (Obj.cells #[Value.int IntKind.i64 k, Value.int IntKind.i64 n, Value.string t] 23) (Obj.cells #[Value.int IntKind.i64 k', Value.int IntKind.i64 n', Value.string t'] 23)
  obtain ⟨hN, hN1⟩ := keepT hb h1 h2
  have HB := Lib.hid ((((Below.refl _ _).alloc (Nat.le_refl w.heap.size) _).alloc (by simp) _).trans (hb.mono (by simp; omega)))
  obtain ⟨a0, a1, a2⟩ := cells3' hN
  obtain ⟨b0, b1, b2⟩ := cells3' hN1
  have HN := Lib.hid (And.intro hN hN1)
  clear hb h1 h2 hN hN1
  go_wp2_with fail
  refine (Px.value_Valid.calls 1 k' n' t' _ _ HV2.out).mono ?_
  rintro e w2 ⟨rfl, hb⟩
  obtain ⟨hN, hN1⟩ := keepT hb HN.out.1 HN.out.2
  have HB2 := Lib.hid (HB.out.trans (hb.mono HB.out.size))
  clear a0 a1 a2 b0 b1 b2
  obtain ⟨a0, a1, a2⟩ := cells3' hN
  obtain ⟨b0, b1, b2⟩ := cells3' hN1
  have HN2 := Lib.hid (And.intro hN hN1)
  clear hb hN hN1
  go_wp2_with fail
  go_ret
  exact ⟨rfl, HB2.out⟩

set_option maxRecDepth 100000 in
set_option maxHeartbeats 8000000 in
theorem test_no3 (k n : Int) (t : ByteArray) (op k' n' : Int) (t' : ByteArray) (add : Int) (w : World) (h : ValidP k n t.data.toList) (h' : ValidP k' n' t'.data.toList) (hk : k ≠ k') :
    Calls Tryz.prog 23 #[.agg #[.int .i64 k, .int .i64 n, .string t], .int .i64 op, .agg #[.int .i64 k', .int .i64 n', .string t'], .int .i64 add] w fun e w' => TestPost false w e w' := by
  have hf := valid_f 0 k n t
  rw [valid_iff.2 h] at hf
  have HV := Lib.hid hf
  clear hf
  have hf := valid_f 0 k' n' t'
  rw [valid_iff.2 h'] at hf
  have HV2 := Lib.hid hf
  clear hf
  clear h h'
  have hk1 : (k != k') = true := bne_iff_ne.2 hk
  have hk2 : (k == k') = false := beq_eq_false_iff_ne.2 hk
  go_enter Tryz.func23, Tryz.ntmps23
  go_wp2_with fail
  refine (Px.value_Valid.calls 1 k n t _ _ HV.out).mono ?_
  rintro e w1 ⟨rfl, hb⟩
  obtain ⟨h1, h2⟩ := two_box w (Obj.cells #[Value.int IntKind.i64 k, Value.int IntKind.i64 n, Value.string t] 23) (Obj.cells #[Value.int IntKind.i64 k', Value.int IntKind.i64 n', Value.string t'] 23)
  obtain ⟨hN, hN1⟩ := keepT hb h1 h2
  have HB := Lib.hid ((((Below.refl _ _).alloc (Nat.le_refl w.heap.size) _).alloc (by simp) _).trans (hb.mono (by simp; omega)))
  obtain ⟨a0, a1, a2⟩ := cells3' hN
  obtain ⟨b0, b1, b2⟩ := cells3' hN1
  have HN := Lib.hid (And.intro hN hN1)
  clear hb h1 h2 hN hN1
  go_wp2_with fail
  refine (Px.value_Valid.calls 1 k' n' t' _ _ HV2.out).mono ?_
  rintro e w2 ⟨rfl, hb⟩
  obtain ⟨hN, hN1⟩ := keepT hb HN.out.1 HN.out.2
  have HB2 := Lib.hid (HB.out.trans (hb.mono HB.out.size))
  clear a0 a1 a2 b0 b1 b2
  obtain ⟨a0, a1, a2⟩ := cells3' hN
  obtain ⟨b0, b1, b2⟩ := cells3' hN1
  have HN2 := Lib.hid (And.intro hN hN1)
  clear hb hN hN1
  go_wp2_with fail
  go_ret
  exact ⟨rfl, HB2.out⟩

set_option maxRecDepth 100000 in
set_option maxHeartbeats 8000000 in
theorem test_null (k n : Int) (t : ByteArray) (op k' n' : Int) (t' : ByteArray) (add : Int) (w : World) (hk : k = 0) (hk' : k' = 0) (h : ValidP k n t.data.toList) (h' : ValidP k' n' t'.data.toList) :
    Calls Tryz.prog 23 #[.agg #[.int .i64 k, .int .i64 n, .string t], .int .i64 op, .agg #[.int .i64 k', .int .i64 n', .string t'], .int .i64 add] w fun e w' => TestPost false w e w' := by
  have hf := valid_f 0 k n t
  rw [valid_iff.2 h] at hf
  have HV := Lib.hid hf
  clear hf
  have hf := valid_f 0 k' n' t'
  rw [valid_iff.2 h'] at hf
  have HV2 := Lib.hid hf
  clear hf
  clear h h'
  subst hk hk'
  go_enter Tryz.func23, Tryz.ntmps23
  go_wp2_with fail
  refine (Px.value_Valid.calls 1 _ n t _ _ HV.out).mono ?_
  rintro e w1 ⟨rfl, hb⟩
  obtain ⟨h1, h2⟩ := two_box w (Obj.cells #[Value.int IntKind.i64 0, Value.int IntKind.i64 n, Value.string t] 23) (Obj.cells #[Value.int IntKind.i64 0, Value.int IntKind.i64 n', Value.string t'] 23)
  obtain ⟨hN, hN1⟩ := keepT hb h1 h2
  have HB := Lib.hid ((((Below.refl _ _).alloc (Nat.le_refl w.heap.size) _).alloc (by simp) _).trans (hb.mono (by simp; omega)))
  obtain ⟨a0, a1, a2⟩ := cells3' hN
  obtain ⟨b0, b1, b2⟩ := cells3' hN1
  have HN := Lib.hid (And.intro hN hN1)
  clear hb h1 h2 hN hN1
  go_wp2_with fail
  refine (Px.value_Valid.calls 1 _ n' t' _ _ HV2.out).mono ?_
  rintro e w2 ⟨rfl, hb⟩
  obtain ⟨hN, hN1⟩ := keepT hb HN.out.1 HN.out.2
  have HB2 := Lib.hid (HB.out.trans (hb.mono HB.out.size))
  clear a0 a1 a2 b0 b1 b2
  obtain ⟨a0, a1, a2⟩ := cells3' hN
  obtain ⟨b0, b1, b2⟩ := cells3' hN1
  have HN2 := Lib.hid (And.intro hN hN1)
  clear hb hN hN1
  go_wp2_with fail
  go_ret
  exact ⟨rfl, HB2.out⟩

set_option maxRecDepth 100000 in
set_option maxHeartbeats 8000000 in
theorem test_2 (k n : Int) (t : ByteArray) (op k' n' : Int) (t' : ByteArray) (add : Int) (w : World) (hk : k = 2) (hk' : k' = 2) (h : ValidP k n t.data.toList) (h' : ValidP k' n' t'.data.toList) :
    Calls Tryz.prog 23 #[.agg #[.int .i64 k, .int .i64 n, .string t], .int .i64 op, .agg #[.int .i64 k', .int .i64 n', .string t'], .int .i64 add] w fun e w' => TestPost (opB op (ordI (n - n') add)) w e w' := by
  have hb : -1000000000 ≤ n ∧ n ≤ 1000000000 ∧ -1000000000 ≤ n' ∧ n' ≤ 1000000000 := by
    unfold ValidP at h h'; omega
  have hf := valid_f 0 k n t
  rw [valid_iff.2 h] at hf
  have HV := Lib.hid hf
  clear hf
  have hf := valid_f 0 k' n' t'
  rw [valid_iff.2 h'] at hf
  have HV2 := Lib.hid hf
  clear hf
  clear h h'
  subst hk hk'
  have hw : IntKind.i64.wrap (n - n') = n - n' := by rw [i64_w]; unfold wrap64; omega
  have HO := Lib.hid (order_f (n - n') add)
  obtain ⟨g0, g1, g2, g3⟩ := hb
  go_enter Tryz.func23, Tryz.ntmps23
  go_wp2_with fail
  refine (Px.value_Valid.calls 1 _ n t _ _ HV.out).mono ?_
  rintro e w1 ⟨rfl, hb⟩
  obtain ⟨h1, h2⟩ := two_box w (Obj.cells #[Value.int IntKind.i64 2, Value.int IntKind.i64 n, Value.string t] 23) (Obj.cells #[Value.int IntKind.i64 2, Value.int IntKind.i64 n', Value.string t'] 23)
  obtain ⟨hN, hN1⟩ := keepT hb h1 h2
  have HB := Lib.hid ((((Below.refl _ _).alloc (Nat.le_refl w.heap.size) _).alloc (by simp) _).trans (hb.mono (by simp; omega)))
  obtain ⟨a0, a1, a2⟩ := cells3' hN
  obtain ⟨b0, b1, b2⟩ := cells3' hN1
  have HN := Lib.hid (And.intro hN hN1)
  clear hb h1 h2 hN hN1
  go_wp2_with fail
  refine (Px.value_Valid.calls 1 _ n' t' _ _ HV2.out).mono ?_
  rintro e w2 ⟨rfl, hb⟩
  obtain ⟨hN, hN1⟩ := keepT hb HN.out.1 HN.out.2
  have HB2 := Lib.hid (HB.out.trans (hb.mono HB.out.size))
  clear a0 a1 a2 b0 b1 b2
  obtain ⟨a0, a1, a2⟩ := cells3' hN
  obtain ⟨b0, b1, b2⟩ := cells3' hN1
  have HN2 := Lib.hid (And.intro hN hN1)
  clear hb hN hN1
  go_wp2_with fail
  refine (Px.value_order_int.calls _ _ _ _ HO.out).mono ?_
  rintro e w3 ⟨rfl, ⟨m, rfl⟩⟩
  go_wp2_with fail
  generalize hC : ordI (n - n') add = C at *
  have HC := Lib.hid hC
  clear hC
  refine (comparisons_any _).mono ?_
  rintro e w4 ⟨rfl, rfl⟩
  have hT := heap_new (w2.drewN m) (.cells #[.int .i64 1, .func (.func 54) #[] #[], .int .i64 2, .func (.func 55) #[] #[], .int .i64 3, .func (.func 56) #[] #[], .int .i64 4, .func (.func 57) #[] #[]] 63)
  have hbT : Below w.heap.size w ((w2.drewN m).alloc (.cells #[.int .i64 1, .func (.func 54) #[] #[], .int .i64 2, .func (.func 55) #[] #[], .int .i64 3, .func (.func 56) #[] #[], .int .i64 4, .func (.func 57) #[] #[]] 63)) := (Lib.hid (pw_below_drewN HB2.out m)).out.alloc (Lib.hid (pw_below_drewN HB2.out m)).out.size _
  generalize (w2.drewN m).heap.size = T at *
  generalize (w2.drewN m).alloc (.cells #[.int .i64 1, .func (.func 54) #[] #[], .int .i64 2, .func (.func 55) #[] #[], .int .i64 3, .func (.func 56) #[] #[], .int .i64 4, .func (.func 57) #[] #[]] 63) = W5 at *
  have HT := Lib.hid (And.intro hT hbT)
  clear hT hbT
  try clear a0 a1 a2 b0 b1 b2
  go_wp2_with fail
  go_loopw [49] (fun q wr => ∃ j : Nat, j ≤ 4 ∧ q = .int .i64 (j : Int) ∧ (∀ i : Nat, i < j → op ≠ (i : Int) + 1) ∧ wr.heap[T]? = some (.cells #[.int .i64 1, .func (.func 54) #[] #[], .int .i64 2, .func (.func 55) #[] #[], .int .i64 3, .func (.func 56) #[] #[], .int .i64 4, .func (.func 57) #[] #[]] 63 (0, 0)) ∧ Below w.heap.size w wr) (fun q _ => 4 - (intOf q).toNat)
  case atStart => exact ⟨0, Nat.zero_le _, rfl, fun i hi => by omega, HT.out.1, HT.out.2⟩
  case round =>
    obtain ⟨j, hj, rfl, hop, hT, hbr⟩ := hrel
    obtain ⟨⟨c0, c1, c2, c3, c4, c5, c6, c7⟩, hlT⟩ := cells8 hT
    have HR := Lib.hid (And.intro hop (And.intro hT hbr))
    clear hop hT hbr HT
    rcases j with _ | _ | _ | _ | _ | j
    · by_cases ho : op = 1
      · subst ho
        go_wp2_with (go_at_call 54; refine (cmp1 _ _).mono ?_; rintro e w6 ⟨rfl, rfl⟩)
        go_ret
        exact ⟨by rw [HC.out]; rfl, HR.out.2.2.alloc HR.out.2.2.size _⟩
      · have ho2 : ((1 : Int) == op) = false := beq_eq_false_iff_ne.2 (fun h => ho h.symm)
        go_wp2_with fail
        go_roundw
        case rel => exact ⟨1, by omega, rfl, hop_next (j := 0) HR.out.1 (by simpa using ho), (Below.heap_alloc _ _ _ hlT).trans HR.out.2.1, HR.out.2.2.alloc HR.out.2.2.size _⟩
        case measure => simp [intOf]
    · by_cases ho : op = 2
      · subst ho
        go_wp2_with (go_at_call 55; refine (cmp2 _ _).mono ?_; rintro e w6 ⟨rfl, rfl⟩)
        go_ret
        exact ⟨by rw [HC.out]; rfl, HR.out.2.2.alloc HR.out.2.2.size _⟩
      · have ho2 : ((2 : Int) == op) = false := beq_eq_false_iff_ne.2 (fun h => ho h.symm)
        go_wp2_with fail
        go_roundw
        case rel => exact ⟨2, by omega, rfl, hop_next (j := 1) HR.out.1 (by simpa using ho), (Below.heap_alloc _ _ _ hlT).trans HR.out.2.1, HR.out.2.2.alloc HR.out.2.2.size _⟩
        case measure => simp [intOf]
    · by_cases ho : op = 3
      · subst ho
        go_wp2_with (go_at_call 56; refine (cmp3 _ _).mono ?_; rintro e w6 ⟨rfl, rfl⟩)
        go_ret
        exact ⟨by rw [HC.out]; rfl, HR.out.2.2.alloc HR.out.2.2.size _⟩
      · have ho2 : ((3 : Int) == op) = false := beq_eq_false_iff_ne.2 (fun h => ho h.symm)
        go_wp2_with fail
        go_roundw
        case rel => exact ⟨3, by omega, rfl, hop_next (j := 2) HR.out.1 (by simpa using ho), (Below.heap_alloc _ _ _ hlT).trans HR.out.2.1, HR.out.2.2.alloc HR.out.2.2.size _⟩
        case measure => simp [intOf]
    · by_cases ho : op = 4
      · subst ho
        go_wp2_with (go_at_call 57; refine (cmp4 _ _).mono ?_; rintro e w6 ⟨rfl, rfl⟩)
        go_ret
        exact ⟨by rw [HC.out]; rfl, HR.out.2.2.alloc HR.out.2.2.size _⟩
      · have ho2 : ((4 : Int) == op) = false := beq_eq_false_iff_ne.2 (fun h => ho h.symm)
        go_wp2_with fail
        go_roundw
        case rel => exact ⟨4, by omega, rfl, hop_next (j := 3) HR.out.1 (by simpa using ho), (Below.heap_alloc _ _ _ hlT).trans HR.out.2.1, HR.out.2.2.alloc HR.out.2.2.size _⟩
        case measure => simp [intOf]
    · have hop := HR.out.1
      have e1 := hop 0 (by omega)
      have e2 := hop 1 (by omega)
      have e3 := hop 2 (by omega)
      have e4 := hop 3 (by omega)
      have hz : opB op C = false := by unfold opB; rw [if_neg (by simpa using e1), if_neg (by omega), if_neg (by omega), if_neg (by omega)]
      have HZ := Lib.hid hz
      clear hop e1 e2 e3 e4 hz
      go_wp2_with fail
      go_ret
      exact ⟨by rw [HC.out, HZ.out]; rfl, HR.out.2.2⟩
    · omega

set_option maxRecDepth 100000 in
set_option maxHeartbeats 8000000 in
theorem test_3 (k n : Int) (t : ByteArray) (op k' n' : Int) (t' : ByteArray) (add : Int) (w : World) (hk : k = 3) (hk' : k' = 3) (h : ValidP k n t.data.toList) (h' : ValidP k' n' t'.data.toList) :
    Calls Tryz.prog 23 #[.agg #[.int .i64 k, .int .i64 n, .string t], .int .i64 op, .agg #[.int .i64 k', .int .i64 n', .string t'], .int .i64 add] w fun e w' => TestPost (opB op (ordI (n - n') add)) w e w' := by
  have hb : -1000000000 ≤ n ∧ n ≤ 1000000000 ∧ -1000000000 ≤ n' ∧ n' ≤ 1000000000 := by
    unfold ValidP at h h'; omega
  have hf := valid_f 0 k n t
  rw [valid_iff.2 h] at hf
  have HV := Lib.hid hf
  clear hf
  have hf := valid_f 0 k' n' t'
  rw [valid_iff.2 h'] at hf
  have HV2 := Lib.hid hf
  clear hf
  clear h h'
  subst hk hk'
  have hw : IntKind.i64.wrap (n - n') = n - n' := by rw [i64_w]; unfold wrap64; omega
  have HO := Lib.hid (order_f (n - n') add)
  obtain ⟨g0, g1, g2, g3⟩ := hb
  go_enter Tryz.func23, Tryz.ntmps23
  go_wp2_with fail
  refine (Px.value_Valid.calls 1 _ n t _ _ HV.out).mono ?_
  rintro e w1 ⟨rfl, hb⟩
  obtain ⟨h1, h2⟩ := two_box w (Obj.cells #[Value.int IntKind.i64 3, Value.int IntKind.i64 n, Value.string t] 23) (Obj.cells #[Value.int IntKind.i64 3, Value.int IntKind.i64 n', Value.string t'] 23)
  obtain ⟨hN, hN1⟩ := keepT hb h1 h2
  have HB := Lib.hid ((((Below.refl _ _).alloc (Nat.le_refl w.heap.size) _).alloc (by simp) _).trans (hb.mono (by simp; omega)))
  obtain ⟨a0, a1, a2⟩ := cells3' hN
  obtain ⟨b0, b1, b2⟩ := cells3' hN1
  have HN := Lib.hid (And.intro hN hN1)
  clear hb h1 h2 hN hN1
  go_wp2_with fail
  refine (Px.value_Valid.calls 1 _ n' t' _ _ HV2.out).mono ?_
  rintro e w2 ⟨rfl, hb⟩
  obtain ⟨hN, hN1⟩ := keepT hb HN.out.1 HN.out.2
  have HB2 := Lib.hid (HB.out.trans (hb.mono HB.out.size))
  clear a0 a1 a2 b0 b1 b2
  obtain ⟨a0, a1, a2⟩ := cells3' hN
  obtain ⟨b0, b1, b2⟩ := cells3' hN1
  have HN2 := Lib.hid (And.intro hN hN1)
  clear hb hN hN1
  go_wp2_with fail
  refine (Px.value_order_int.calls _ _ _ _ HO.out).mono ?_
  rintro e w3 ⟨rfl, ⟨m, rfl⟩⟩
  go_wp2_with fail
  generalize hC : ordI (n - n') add = C at *
  have HC := Lib.hid hC
  clear hC
  refine (comparisons_any _).mono ?_
  rintro e w4 ⟨rfl, rfl⟩
  have hT := heap_new (w2.drewN m) (.cells #[.int .i64 1, .func (.func 54) #[] #[], .int .i64 2, .func (.func 55) #[] #[], .int .i64 3, .func (.func 56) #[] #[], .int .i64 4, .func (.func 57) #[] #[]] 63)
  have hbT : Below w.heap.size w ((w2.drewN m).alloc (.cells #[.int .i64 1, .func (.func 54) #[] #[], .int .i64 2, .func (.func 55) #[] #[], .int .i64 3, .func (.func 56) #[] #[], .int .i64 4, .func (.func 57) #[] #[]] 63)) := (Lib.hid (pw_below_drewN HB2.out m)).out.alloc (Lib.hid (pw_below_drewN HB2.out m)).out.size _
  generalize (w2.drewN m).heap.size = T at *
  generalize (w2.drewN m).alloc (.cells #[.int .i64 1, .func (.func 54) #[] #[], .int .i64 2, .func (.func 55) #[] #[], .int .i64 3, .func (.func 56) #[] #[], .int .i64 4, .func (.func 57) #[] #[]] 63) = W5 at *
  have HT := Lib.hid (And.intro hT hbT)
  clear hT hbT
  try clear a0 a1 a2 b0 b1 b2
  go_wp2_with fail
  go_loopw [49] (fun q wr => ∃ j : Nat, j ≤ 4 ∧ q = .int .i64 (j : Int) ∧ (∀ i : Nat, i < j → op ≠ (i : Int) + 1) ∧ wr.heap[T]? = some (.cells #[.int .i64 1, .func (.func 54) #[] #[], .int .i64 2, .func (.func 55) #[] #[], .int .i64 3, .func (.func 56) #[] #[], .int .i64 4, .func (.func 57) #[] #[]] 63 (0, 0)) ∧ Below w.heap.size w wr) (fun q _ => 4 - (intOf q).toNat)
  case atStart => exact ⟨0, Nat.zero_le _, rfl, fun i hi => by omega, HT.out.1, HT.out.2⟩
  case round =>
    obtain ⟨j, hj, rfl, hop, hT, hbr⟩ := hrel
    obtain ⟨⟨c0, c1, c2, c3, c4, c5, c6, c7⟩, hlT⟩ := cells8 hT
    have HR := Lib.hid (And.intro hop (And.intro hT hbr))
    clear hop hT hbr HT
    rcases j with _ | _ | _ | _ | _ | j
    · by_cases ho : op = 1
      · subst ho
        go_wp2_with (go_at_call 54; refine (cmp1 _ _).mono ?_; rintro e w6 ⟨rfl, rfl⟩)
        go_ret
        exact ⟨by rw [HC.out]; rfl, HR.out.2.2.alloc HR.out.2.2.size _⟩
      · have ho2 : ((1 : Int) == op) = false := beq_eq_false_iff_ne.2 (fun h => ho h.symm)
        go_wp2_with fail
        go_roundw
        case rel => exact ⟨1, by omega, rfl, hop_next (j := 0) HR.out.1 (by simpa using ho), (Below.heap_alloc _ _ _ hlT).trans HR.out.2.1, HR.out.2.2.alloc HR.out.2.2.size _⟩
        case measure => simp [intOf]
    · by_cases ho : op = 2
      · subst ho
        go_wp2_with (go_at_call 55; refine (cmp2 _ _).mono ?_; rintro e w6 ⟨rfl, rfl⟩)
        go_ret
        exact ⟨by rw [HC.out]; rfl, HR.out.2.2.alloc HR.out.2.2.size _⟩
      · have ho2 : ((2 : Int) == op) = false := beq_eq_false_iff_ne.2 (fun h => ho h.symm)
        go_wp2_with fail
        go_roundw
        case rel => exact ⟨2, by omega, rfl, hop_next (j := 1) HR.out.1 (by simpa using ho), (Below.heap_alloc _ _ _ hlT).trans HR.out.2.1, HR.out.2.2.alloc HR.out.2.2.size _⟩
        case measure => simp [intOf]
    · by_cases ho : op = 3
      · subst ho
        go_wp2_with (go_at_call 56; refine (cmp3 _ _).mono ?_; rintro e w6 ⟨rfl, rfl⟩)
        go_ret
        exact ⟨by rw [HC.out]; rfl, HR.out.2.2.alloc HR.out.2.2.size _⟩
      · have ho2 : ((3 : Int) == op) = false := beq_eq_false_iff_ne.2 (fun h => ho h.symm)
        go_wp2_with fail
        go_roundw
        case rel => exact ⟨3, by omega, rfl, hop_next (j := 2) HR.out.1 (by simpa using ho), (Below.heap_alloc _ _ _ hlT).trans HR.out.2.1, HR.out.2.2.alloc HR.out.2.2.size _⟩
        case measure => simp [intOf]
    · by_cases ho : op = 4
      · subst ho
        go_wp2_with (go_at_call 57; refine (cmp4 _ _).mono ?_; rintro e w6 ⟨rfl, rfl⟩)
        go_ret
        exact ⟨by rw [HC.out]; rfl, HR.out.2.2.alloc HR.out.2.2.size _⟩
      · have ho2 : ((4 : Int) == op) = false := beq_eq_false_iff_ne.2 (fun h => ho h.symm)
        go_wp2_with fail
        go_roundw
        case rel => exact ⟨4, by omega, rfl, hop_next (j := 3) HR.out.1 (by simpa using ho), (Below.heap_alloc _ _ _ hlT).trans HR.out.2.1, HR.out.2.2.alloc HR.out.2.2.size _⟩
        case measure => simp [intOf]
    · have hop := HR.out.1
      have e1 := hop 0 (by omega)
      have e2 := hop 1 (by omega)
      have e3 := hop 2 (by omega)
      have e4 := hop 3 (by omega)
      have hz : opB op C = false := by unfold opB; rw [if_neg (by simpa using e1), if_neg (by omega), if_neg (by omega), if_neg (by omega)]
      have HZ := Lib.hid hz
      clear hop e1 e2 e3 e4 hz
      go_wp2_with fail
      go_ret
      exact ⟨by rw [HC.out, HZ.out]; rfl, HR.out.2.2⟩
    · omega

set_option maxRecDepth 100000 in
set_option maxHeartbeats 8000000 in
theorem test_1n (k n : Int) (t : ByteArray) (op k' n' : Int) (t' : ByteArray) (add : Int) (w : World) (hk : k = 1) (hk' : k' = 1) (h : ValidP k n t.data.toList) (h' : ValidP k' n' t'.data.toList) (ha : add ≠ 0) :
    Calls Tryz.prog 23 #[.agg #[.int .i64 k, .int .i64 n, .string t], .int .i64 op, .agg #[.int .i64 k', .int .i64 n', .string t'], .int .i64 add] w fun e w' => TestPost false w e w' := by
  have hf := valid_f 0 k n t
  rw [valid_iff.2 h] at hf
  have HV := Lib.hid hf
  clear hf
  have hf := valid_f 0 k' n' t'
  rw [valid_iff.2 h'] at hf
  have HV2 := Lib.hid hf
  clear hf
  clear h h'
  subst hk hk'
  have ha1 : (add != 0) = true := bne_iff_ne.2 ha
  have ha2 : (add == 0) = false := beq_eq_false_iff_ne.2 ha
  go_enter Tryz.func23, Tryz.ntmps23
  go_wp2_with fail
  refine (Px.value_Valid.calls 1 _ n t _ _ HV.out).mono ?_
  rintro e w1 ⟨rfl, hb⟩
  obtain ⟨h1, h2⟩ := two_box w (Obj.cells #[Value.int IntKind.i64 1, Value.int IntKind.i64 n, Value.string t] 23) (Obj.cells #[Value.int IntKind.i64 1, Value.int IntKind.i64 n', Value.string t'] 23)
  obtain ⟨hN, hN1⟩ := keepT hb h1 h2
  have HB := Lib.hid ((((Below.refl _ _).alloc (Nat.le_refl w.heap.size) _).alloc (by simp) _).trans (hb.mono (by simp; omega)))
  obtain ⟨a0, a1, a2⟩ := cells3' hN
  obtain ⟨b0, b1, b2⟩ := cells3' hN1
  have HN := Lib.hid (And.intro hN hN1)
  clear hb h1 h2 hN hN1
  go_wp2_with fail
  refine (Px.value_Valid.calls 1 _ n' t' _ _ HV2.out).mono ?_
  rintro e w2 ⟨rfl, hb⟩
  obtain ⟨hN, hN1⟩ := keepT hb HN.out.1 HN.out.2
  have HB2 := Lib.hid (HB.out.trans (hb.mono HB.out.size))
  clear a0 a1 a2 b0 b1 b2
  obtain ⟨a0, a1, a2⟩ := cells3' hN
  obtain ⟨b0, b1, b2⟩ := cells3' hN1
  have HN2 := Lib.hid (And.intro hN hN1)
  clear hb hN hN1
  go_wp2_with fail
  go_ret
  exact ⟨rfl, HB2.out⟩

set_option maxRecDepth 100000 in
set_option maxHeartbeats 8000000 in
theorem test_1 (k n : Int) (t : ByteArray) (op k' n' : Int) (t' : ByteArray) (add : Int) (w : World) (hk : k = 1) (hk' : k' = 1) (h : ValidP k n t.data.toList) (h' : ValidP k' n' t'.data.toList) (ha : add = 0) :
    Calls Tryz.prog 23 #[.agg #[.int .i64 k, .int .i64 n, .string t], .int .i64 op, .agg #[.int .i64 k', .int .i64 n', .string t'], .int .i64 add] w fun e w' => TestPost (opB op (cmpZ k n t.data.toList k' n' t'.data.toList)) w e w' := by
  have hf := valid_f 0 k n t
  rw [valid_iff.2 h] at hf
  have HV := Lib.hid hf
  clear hf
  have hf := valid_f 0 k' n' t'
  rw [valid_iff.2 h'] at hf
  have HV2 := Lib.hid hf
  clear hf
  clear h h'
  subst hk hk' ha
  have HO := Lib.hid (compare_f 1 n t 1 n' t')
  go_enter Tryz.func23, Tryz.ntmps23
  go_wp2_with fail
  refine (Px.value_Valid.calls 1 _ n t _ _ HV.out).mono ?_
  rintro e w1 ⟨rfl, hb⟩
  obtain ⟨h1, h2⟩ := two_box w (Obj.cells #[Value.int IntKind.i64 1, Value.int IntKind.i64 n, Value.string t] 23) (Obj.cells #[Value.int IntKind.i64 1, Value.int IntKind.i64 n', Value.string t'] 23)
  obtain ⟨hN, hN1⟩ := keepT hb h1 h2
  have HB := Lib.hid ((((Below.refl _ _).alloc (Nat.le_refl w.heap.size) _).alloc (by simp) _).trans (hb.mono (by simp; omega)))
  obtain ⟨a0, a1, a2⟩ := cells3' hN
  obtain ⟨b0, b1, b2⟩ := cells3' hN1
  have HN := Lib.hid (And.intro hN hN1)
  clear hb h1 h2 hN hN1
  go_wp2_with fail
  refine (Px.value_Valid.calls 1 _ n' t' _ _ HV2.out).mono ?_
  rintro e w2 ⟨rfl, hb⟩
  obtain ⟨hN, hN1⟩ := keepT hb HN.out.1 HN.out.2
  have HB2 := Lib.hid (HB.out.trans (hb.mono HB.out.size))
  clear a0 a1 a2 b0 b1 b2
  obtain ⟨a0, a1, a2⟩ := cells3' hN
  obtain ⟨b0, b1, b2⟩ := cells3' hN1
  have HN2 := Lib.hid (And.intro hN hN1)
  clear hb hN hN1
  go_wp2_with fail
  refine (Px.value_Compare.calls _ _ _ _ _ _ _ _ HO.out).mono ?_
  rintro e w3 ⟨rfl, hb⟩
  have HB3 := Lib.hid (HB2.out.trans (hb.mono HB2.out.size))
  clear hb
  go_wp2_with fail
  generalize hC : cmpZ 1 n t.data.toList 1 n' t'.data.toList = C at *
  have HC := Lib.hid hC
  clear hC
  refine (comparisons_any _).mono ?_
  rintro e w4 ⟨rfl, rfl⟩
  have hT := heap_new w3 (.cells #[.int .i64 1, .func (.func 54) #[] #[], .int .i64 2, .func (.func 55) #[] #[], .int .i64 3, .func (.func 56) #[] #[], .int .i64 4, .func (.func 57) #[] #[]] 63)
  have hbT : Below w.heap.size w (w3.alloc (.cells #[.int .i64 1, .func (.func 54) #[] #[], .int .i64 2, .func (.func 55) #[] #[], .int .i64 3, .func (.func 56) #[] #[], .int .i64 4, .func (.func 57) #[] #[]] 63)) := HB3.out.alloc HB3.out.size _
  generalize w3.heap.size = T at *
  generalize w3.alloc (.cells #[.int .i64 1, .func (.func 54) #[] #[], .int .i64 2, .func (.func 55) #[] #[], .int .i64 3, .func (.func 56) #[] #[], .int .i64 4, .func (.func 57) #[] #[]] 63) = W5 at *
  have HT := Lib.hid (And.intro hT hbT)
  clear hT hbT
  try clear a0 a1 a2 b0 b1 b2
  go_wp2_with fail
  go_loopw [49] (fun q wr => ∃ j : Nat, j ≤ 4 ∧ q = .int .i64 (j : Int) ∧ (∀ i : Nat, i < j → op ≠ (i : Int) + 1) ∧ wr.heap[T]? = some (.cells #[.int .i64 1, .func (.func 54) #[] #[], .int .i64 2, .func (.func 55) #[] #[], .int .i64 3, .func (.func 56) #[] #[], .int .i64 4, .func (.func 57) #[] #[]] 63 (0, 0)) ∧ Below w.heap.size w wr) (fun q _ => 4 - (intOf q).toNat)
  case atStart => exact ⟨0, Nat.zero_le _, rfl, fun i hi => by omega, HT.out.1, HT.out.2⟩
  case round =>
    obtain ⟨j, hj, rfl, hop, hT, hbr⟩ := hrel
    obtain ⟨⟨c0, c1, c2, c3, c4, c5, c6, c7⟩, hlT⟩ := cells8 hT
    have HR := Lib.hid (And.intro hop (And.intro hT hbr))
    clear hop hT hbr HT
    rcases j with _ | _ | _ | _ | _ | j
    · by_cases ho : op = 1
      · subst ho
        go_wp2_with (go_at_call 54; refine (cmp1 _ _).mono ?_; rintro e w6 ⟨rfl, rfl⟩)
        go_ret
        exact ⟨by rw [HC.out]; rfl, HR.out.2.2.alloc HR.out.2.2.size _⟩
      · have ho2 : ((1 : Int) == op) = false := beq_eq_false_iff_ne.2 (fun h => ho h.symm)
        go_wp2_with fail
        go_roundw
        case rel => exact ⟨1, by omega, rfl, hop_next (j := 0) HR.out.1 (by simpa using ho), (Below.heap_alloc _ _ _ hlT).trans HR.out.2.1, HR.out.2.2.alloc HR.out.2.2.size _⟩
        case measure => simp [intOf]
    · by_cases ho : op = 2
      · subst ho
        go_wp2_with (go_at_call 55; refine (cmp2 _ _).mono ?_; rintro e w6 ⟨rfl, rfl⟩)
        go_ret
        exact ⟨by rw [HC.out]; rfl, HR.out.2.2.alloc HR.out.2.2.size _⟩
      · have ho2 : ((2 : Int) == op) = false := beq_eq_false_iff_ne.2 (fun h => ho h.symm)
        go_wp2_with fail
        go_roundw
        case rel => exact ⟨2, by omega, rfl, hop_next (j := 1) HR.out.1 (by simpa using ho), (Below.heap_alloc _ _ _ hlT).trans HR.out.2.1, HR.out.2.2.alloc HR.out.2.2.size _⟩
        case measure => simp [intOf]
    · by_cases ho : op = 3
      · subst ho
        go_wp2_with (go_at_call 56; refine (cmp3 _ _).mono ?_; rintro e w6 ⟨rfl, rfl⟩)
        go_ret
        exact ⟨by rw [HC.out]; rfl, HR.out.2.2.alloc HR.out.2.2.size _⟩
      · have ho2 : ((3 : Int) == op) = false := beq_eq_false_iff_ne.2 (fun h => ho h.symm)
        go_wp2_with fail
        go_roundw
        case rel => exact ⟨3, by omega, rfl, hop_next (j := 2) HR.out.1 (by simpa using ho), (Below.heap_alloc _ _ _ hlT).trans HR.out.2.1, HR.out.2.2.alloc HR.out.2.2.size _⟩
        case measure => simp [intOf]
    · by_cases ho : op = 4
      · subst ho
        go_wp2_with (go_at_call 57; refine (cmp4 _ _).mono ?_; rintro e w6 ⟨rfl, rfl⟩)
        go_ret
        exact ⟨by rw [HC.out]; rfl, HR.out.2.2.alloc HR.out.2.2.size _⟩
      · have ho2 : ((4 : Int) == op) = false := beq_eq_false_iff_ne.2 (fun h => ho h.symm)
        go_wp2_with fail
        go_roundw
        case rel => exact ⟨4, by omega, rfl, hop_next (j := 3) HR.out.1 (by simpa using ho), (Below.heap_alloc _ _ _ hlT).trans HR.out.2.1, HR.out.2.2.alloc HR.out.2.2.size _⟩
        case measure => simp [intOf]
    · have hop := HR.out.1
      have e1 := hop 0 (by omega)
      have e2 := hop 1 (by omega)
      have e3 := hop 2 (by omega)
      have e4 := hop 3 (by omega)
      have hz : opB op C = false := by unfold opB; rw [if_neg (by simpa using e1), if_neg (by omega), if_neg (by omega), if_neg (by omega)]
      have HZ := Lib.hid hz
      clear hop e1 e2 e3 e4 hz
      go_wp2_with fail
      go_ret
      exact ⟨by rw [HC.out, HZ.out]; rfl, HR.out.2.2⟩
    · omega

set_option maxRecDepth 100000 in
set_option maxHeartbeats 8000000 in
theorem test_4n (k n : Int) (t : ByteArray) (op k' n' : Int) (t' : ByteArray) (add : Int) (w : World) (hk : k = 4) (hk' : k' = 4) (h : ValidP k n t.data.toList) (h' : ValidP k' n' t'.data.toList) (ha : add ≠ 0) :
    Calls Tryz.prog 23 #[.agg #[.int .i64 k, .int .i64 n, .string t], .int .i64 op, .agg #[.int .i64 k', .int .i64 n', .string t'], .int .i64 add] w fun e w' => TestPost false w e w' := by
  have hf := valid_f 0 k n t
  rw [valid_iff.2 h] at hf
  have HV := Lib.hid hf
  clear hf
  have hf := valid_f 0 k' n' t'
  rw [valid_iff.2 h'] at hf
  have HV2 := Lib.hid hf
  clear hf
  clear h h'
  subst hk hk'
  have ha1 : (add != 0) = true := bne_iff_ne.2 ha
  have ha2 : (add == 0) = false := beq_eq_false_iff_ne.2 ha
  go_enter Tryz.func23, Tryz.ntmps23
  go_wp2_with fail
  refine (Px.value_Valid.calls 1 _ n t _ _ HV.out).mono ?_
  rintro e w1 ⟨rfl, hb⟩
  obtain ⟨h1, h2⟩ := two_box w (Obj.cells #[Value.int IntKind.i64 4, Value.int IntKind.i64 n, Value.string t] 23) (Obj.cells #[Value.int IntKind.i64 4, Value.int IntKind.i64 n', Value.string t'] 23)
  obtain ⟨hN, hN1⟩ := keepT hb h1 h2
  have HB := Lib.hid ((((Below.refl _ _).alloc (Nat.le_refl w.heap.size) _).alloc (by simp) _).trans (hb.mono (by simp; omega)))
  obtain ⟨a0, a1, a2⟩ := cells3' hN
  obtain ⟨b0, b1, b2⟩ := cells3' hN1
  have HN := Lib.hid (And.intro hN hN1)
  clear hb h1 h2 hN hN1
  go_wp2_with fail
  refine (Px.value_Valid.calls 1 _ n' t' _ _ HV2.out).mono ?_
  rintro e w2 ⟨rfl, hb⟩
  obtain ⟨hN, hN1⟩ := keepT hb HN.out.1 HN.out.2
  have HB2 := Lib.hid (HB.out.trans (hb.mono HB.out.size))
  clear a0 a1 a2 b0 b1 b2
  obtain ⟨a0, a1, a2⟩ := cells3' hN
  obtain ⟨b0, b1, b2⟩ := cells3' hN1
  have HN2 := Lib.hid (And.intro hN hN1)
  clear hb hN hN1
  go_wp2_with fail
  go_ret
  exact ⟨rfl, HB2.out⟩

set_option maxRecDepth 100000 in
set_option maxHeartbeats 8000000 in
theorem test_4 (k n : Int) (t : ByteArray) (op k' n' : Int) (t' : ByteArray) (add : Int) (w : World) (hk : k = 4) (hk' : k' = 4) (h : ValidP k n t.data.toList) (h' : ValidP k' n' t'.data.toList) (ha : add = 0) :
    Calls Tryz.prog 23 #[.agg #[.int .i64 k, .int .i64 n, .string t], .int .i64 op, .agg #[.int .i64 k', .int .i64 n', .string t'], .int .i64 add] w fun e w' => TestPost (opB op (cmpZ k n t.data.toList k' n' t'.data.toList)) w e w' := by
  have hf := valid_f 0 k n t
  rw [valid_iff.2 h] at hf
  have HV := Lib.hid hf
  clear hf
  have hf := valid_f 0 k' n' t'
  rw [valid_iff.2 h'] at hf
  have HV2 := Lib.hid hf
  clear hf
  clear h h'
  subst hk hk' ha
  have HO := Lib.hid (compare_f 4 n t 4 n' t')
  go_enter Tryz.func23, Tryz.ntmps23
  go_wp2_with fail
  refine (Px.value_Valid.calls 1 _ n t _ _ HV.out).mono ?_
  rintro e w1 ⟨rfl, hb⟩
  obtain ⟨h1, h2⟩ := two_box w (Obj.cells #[Value.int IntKind.i64 4, Value.int IntKind.i64 n, Value.string t] 23) (Obj.cells #[Value.int IntKind.i64 4, Value.int IntKind.i64 n', Value.string t'] 23)
  obtain ⟨hN, hN1⟩ := keepT hb h1 h2
  have HB := Lib.hid ((((Below.refl _ _).alloc (Nat.le_refl w.heap.size) _).alloc (by simp) _).trans (hb.mono (by simp; omega)))
  obtain ⟨a0, a1, a2⟩ := cells3' hN
  obtain ⟨b0, b1, b2⟩ := cells3' hN1
  have HN := Lib.hid (And.intro hN hN1)
  clear hb h1 h2 hN hN1
  go_wp2_with fail
  refine (Px.value_Valid.calls 1 _ n' t' _ _ HV2.out).mono ?_
  rintro e w2 ⟨rfl, hb⟩
  obtain ⟨hN, hN1⟩ := keepT hb HN.out.1 HN.out.2
  have HB2 := Lib.hid (HB.out.trans (hb.mono HB.out.size))
  clear a0 a1 a2 b0 b1 b2
  obtain ⟨a0, a1, a2⟩ := cells3' hN
  obtain ⟨b0, b1, b2⟩ := cells3' hN1
  have HN2 := Lib.hid (And.intro hN hN1)
  clear hb hN hN1
  go_wp2_with fail
  refine (Px.value_Compare.calls _ _ _ _ _ _ _ _ HO.out).mono ?_
  rintro e w3 ⟨rfl, hb⟩
  have HB3 := Lib.hid (HB2.out.trans (hb.mono HB2.out.size))
  clear hb
  go_wp2_with fail
  generalize hC : cmpZ 4 n t.data.toList 4 n' t'.data.toList = C at *
  have HC := Lib.hid hC
  clear hC
  refine (comparisons_any _).mono ?_
  rintro e w4 ⟨rfl, rfl⟩
  have hT := heap_new w3 (.cells #[.int .i64 1, .func (.func 54) #[] #[], .int .i64 2, .func (.func 55) #[] #[], .int .i64 3, .func (.func 56) #[] #[], .int .i64 4, .func (.func 57) #[] #[]] 63)
  have hbT : Below w.heap.size w (w3.alloc (.cells #[.int .i64 1, .func (.func 54) #[] #[], .int .i64 2, .func (.func 55) #[] #[], .int .i64 3, .func (.func 56) #[] #[], .int .i64 4, .func (.func 57) #[] #[]] 63)) := HB3.out.alloc HB3.out.size _
  generalize w3.heap.size = T at *
  generalize w3.alloc (.cells #[.int .i64 1, .func (.func 54) #[] #[], .int .i64 2, .func (.func 55) #[] #[], .int .i64 3, .func (.func 56) #[] #[], .int .i64 4, .func (.func 57) #[] #[]] 63) = W5 at *
  have HT := Lib.hid (And.intro hT hbT)
  clear hT hbT
  try clear a0 a1 a2 b0 b1 b2
  go_wp2_with fail
  go_loopw [49] (fun q wr => ∃ j : Nat, j ≤ 4 ∧ q = .int .i64 (j : Int) ∧ (∀ i : Nat, i < j → op ≠ (i : Int) + 1) ∧ wr.heap[T]? = some (.cells #[.int .i64 1, .func (.func 54) #[] #[], .int .i64 2, .func (.func 55) #[] #[], .int .i64 3, .func (.func 56) #[] #[], .int .i64 4, .func (.func 57) #[] #[]] 63 (0, 0)) ∧ Below w.heap.size w wr) (fun q _ => 4 - (intOf q).toNat)
  case atStart => exact ⟨0, Nat.zero_le _, rfl, fun i hi => by omega, HT.out.1, HT.out.2⟩
  case round =>
    obtain ⟨j, hj, rfl, hop, hT, hbr⟩ := hrel
    obtain ⟨⟨c0, c1, c2, c3, c4, c5, c6, c7⟩, hlT⟩ := cells8 hT
    have HR := Lib.hid (And.intro hop (And.intro hT hbr))
    clear hop hT hbr HT
    rcases j with _ | _ | _ | _ | _ | j
    · by_cases ho : op = 1
      · subst ho
        go_wp2_with (go_at_call 54; refine (cmp1 _ _).mono ?_; rintro e w6 ⟨rfl, rfl⟩)
        go_ret
        exact ⟨by rw [HC.out]; rfl, HR.out.2.2.alloc HR.out.2.2.size _⟩
      · have ho2 : ((1 : Int) == op) = false := beq_eq_false_iff_ne.2 (fun h => ho h.symm)
        go_wp2_with fail
        go_roundw
        case rel => exact ⟨1, by omega, rfl, hop_next (j := 0) HR.out.1 (by simpa using ho), (Below.heap_alloc _ _ _ hlT).trans HR.out.2.1, HR.out.2.2.alloc HR.out.2.2.size _⟩
        case measure => simp [intOf]
    · by_cases ho : op = 2
      · subst ho
        go_wp2_with (go_at_call 55; refine (cmp2 _ _).mono ?_; rintro e w6 ⟨rfl, rfl⟩)
        go_ret
        exact ⟨by rw [HC.out]; rfl, HR.out.2.2.alloc HR.out.2.2.size _⟩
      · have ho2 : ((2 : Int) == op) = false := beq_eq_false_iff_ne.2 (fun h => ho h.symm)
        go_wp2_with fail
        go_roundw
        case rel => exact ⟨2, by omega, rfl, hop_next (j := 1) HR.out.1 (by simpa using ho), (Below.heap_alloc _ _ _ hlT).trans HR.out.2.1, HR.out.2.2.alloc HR.out.2.2.size _⟩
        case measure => simp [intOf]
    · by_cases ho : op = 3
      · subst ho
        go_wp2_with (go_at_call 56; refine (cmp3 _ _).mono ?_; rintro e w6 ⟨rfl, rfl⟩)
        go_ret
        exact ⟨by rw [HC.out]; rfl, HR.out.2.2.alloc HR.out.2.2.size _⟩
      · have ho2 : ((3 : Int) == op) = false := beq_eq_false_iff_ne.2 (fun h => ho h.symm)
        go_wp2_with fail
        go_roundw
        case rel => exact ⟨3, by omega, rfl, hop_next (j := 2) HR.out.1 (by simpa using ho), (Below.heap_alloc _ _ _ hlT).trans HR.out.2.1, HR.out.2.2.alloc HR.out.2.2.size _⟩
        case measure => simp [intOf]
    · by_cases ho : op = 4
      · subst ho
        go_wp2_with (go_at_call 57; refine (cmp4 _ _).mono ?_; rintro e w6 ⟨rfl, rfl⟩)
        go_ret
        exact ⟨by rw [HC.out]; rfl, HR.out.2.2.alloc HR.out.2.2.size _⟩
      · have ho2 : ((4 : Int) == op) = false := beq_eq_false_iff_ne.2 (fun h => ho h.symm)
        go_wp2_with fail
        go_roundw
        case rel => exact ⟨4, by omega, rfl, hop_next (j := 3) HR.out.1 (by simpa using ho), (Below.heap_alloc _ _ _ hlT).trans HR.out.2.1, HR.out.2.2.alloc HR.out.2.2.size _⟩
        case measure => simp [intOf]
    · have hop := HR.out.1
      have e1 := hop 0 (by omega)
      have e2 := hop 1 (by omega)
      have e3 := hop 2 (by omega)
      have e4 := hop 3 (by omega)
      have hz : opB op C = false := by unfold opB; rw [if_neg (by simpa using e1), if_neg (by omega), if_neg (by omega), if_neg (by omega)]
      have HZ := Lib.hid hz
      clear hop e1 e2 e3 e4 hz
      go_wp2_with fail
      go_ret
      exact ⟨by rw [HC.out, HZ.out]; rfl, HR.out.2.2⟩
    · omega

def value_Test.f (k n : Int) (t : ByteArray) (op k' n' : Int) (t' : ByteArray) (add : Int) : Option Bool := some (testZ k n t.data.toList op k' n' t'.data.toList add)
theorem value_Test.calls (k n : Int) (t : ByteArray) (op k' n' : Int) (t' : ByteArray) (add : Int) (r : Bool) (w : World) (h : value_Test.f k n t op k' n' t' add = some r) :
    Calls Tryz.prog 23 #[.agg #[.int .i64 k, .int .i64 n, .string t], .int .i64 op, .agg #[.int .i64 k', .int .i64 n', .string t'], .int .i64 add] w fun e w' => e = .returned (.bool r) ∧ Below w.heap.size w w' := by
  obtain rfl := Option.some.inj h
  show Calls Tryz.prog 23 _ w fun e w' => TestPost _ w e w'
  unfold testZ
  by_cases h1 : ValidP k n t.data.toList
  case neg => rw [if_neg (fun h => h1 h.1)]; exact test_no1 k n t op k' n' t' add w h1
  by_cases h2 : ValidP k' n' t'.data.toList
  case neg => rw [if_neg (fun h => h2 h.2.1)]; exact test_no2 k n t op k' n' t' add w h1 h2
  by_cases h3 : k = k'
  case neg => rw [if_neg (fun h => h3 h.2.2)]; exact test_no3 k n t op k' n' t' add w h1 h2 h3
  rw [if_pos ⟨h1, h2, h3⟩]
  by_cases e2 : k = 2
  · rw [if_pos (.inl e2)]; exact test_2 k n t op k' n' t' add w e2 (h3 ▸ e2) h1 h2
  by_cases e3 : k = 3
  · rw [if_pos (.inr e3)]; exact test_3 k n t op k' n' t' add w e3 (h3 ▸ e3) h1 h2
  rw [if_neg (fun h => h.elim e2 e3)]
  by_cases e1 : k = 1
  · rw [if_pos (.inl e1)]
    by_cases ha : add = 0
    · rw [if_pos ha]; exact test_1 k n t op k' n' t' add w e1 (h3 ▸ e1) h1 h2 ha
    · rw [if_neg ha]; exact test_1n k n t op k' n' t' add w e1 (h3 ▸ e1) h1 h2 ha
  by_cases e4 : k = 4
  · rw [if_pos (.inr e4)]
    by_cases ha : add = 0
    · rw [if_pos ha]; exact test_4 k n t op k' n' t' add w e4 (h3 ▸ e4) h1 h2 ha
    · rw [if_neg ha]; exact test_4n k n t op k' n' t' add w e4 (h3 ▸ e4) h1 h2 ha
  rw [if_neg (fun h => h.elim e1 e4)]
  have e0 : k = 0 := by
    have := h1
    unfold ValidP at this
    omega
  exact test_null k n t op k' n' t' add w e0 (h3 ▸ e0) h1 h2
end Go.Proofs.YthgppbpmcjkadaaGreatDoor.X
