/- The reference's Parse in the form of the printed contracts. -/
import Derived.Test.YthgppbpmcjkadaaGreatDoorPlD
import Derived.Test.YthgppbpmcjkadaaGreatDoorX8
set_option linter.unusedVariables false
set_option linter.unusedSimpArgs false
namespace Go.Proofs.YthgppbpmcjkadaaGreatDoor.X
open Go.RowKit Go.Proofs.YthgppbpmcjkadaaGreatDoorW.PrintWords Go.Proofs.YthgppbpmcjkadaaGreatDoorW.PrintLast Go.Proofs.YthgppbpmcjkadaaGreatDoorW.PrintMore
def refR (l : List UInt8) : Int × Int × ByteArray × Int := match refZ l with
  | none => (0, 0, bs [], 4)
  | some (k, n, t) => (k, n, bs t, 0)
def RefPost (c : ByteArray) (w : World) (e : Ending) (w' : World) : Prop :=
  e = .returned (.tuple #[.agg #[.int .i64 (refR c.data.toList).1, .int .i64 (refR c.data.toList).2.1, .string (refR c.data.toList).2.2.1], .int .i64 (refR c.data.toList).2.2.2]) ∧ Below w.heap.size w w'
theorem refR_of {l : List UInt8} {k n : Int} {t : List UInt8} (hl : l ≠ []) (hg : guessZ l = (k, n, t)) : refR l = if textL k n t = l then (k, n, bs t, 0) else (0, 0, bs [], 4) := by
  unfold refR refZ
  rw [if_neg hl, hg]
  by_cases h : textL k n t = l
  · rw [if_pos h, if_pos h]
  · rw [if_neg h, if_neg h]
set_option maxRecDepth 100000 in
set_option maxHeartbeats 1000000 in
theorem ref_empty (c : ByteArray) (w : World) (h : c.data.toList = []) : Calls Tryz.prog 14 #[.string c] w fun e w' => RefPost c w e w' := by
  have hz : refR c.data.toList = (0, 0, bs [], 4) := by rw [h]; rfl
  have hn : c.toList = [] := by rw [ByteArray.toList_eq]; exact h
  have HZ := Lib.hid hz
  clear hz h
  go_enter Tryz.func14, Tryz.ntmps14
  go_wp2_with fail
  exact bodyPost_ret (v := .tuple #[.agg #[.int .i64 0, .int .i64 0, .string (bs [])], .int .i64 4]) (by simp [results, Tryz.results14, go_sem, bs]) rfl ⟨by rw [HZ.out], (Below.refl _ _).alloc (Nat.le_refl _) _⟩
theorem keep2 {W w1 : World} (hb : Below W.heap.size W w1) {N : Nat} {o1 o2 : Obj} (h1 : W.heap[N]? = some o1) (h2 : W.heap[N + 1]? = some o2) : w1.heap[N]? = some o1 ∧ w1.heap[N + 1]? = some o2 := by
  have lt : ∀ k o, W.heap[k]? = some o → k < W.heap.size := fun k o h => (Array.getElem?_eq_some_iff.1 h).1
  exact ⟨(hb.block N (lt _ _ h1)).trans h1, (hb.block (N + 1) (lt _ _ h2)).trans h2⟩
theorem two_blk (w : World) (o1 o2 : Obj) (m : Nat) : (((w.alloc o1).drewN m).alloc o2).heap[w.heap.size]? = some o1 ∧ (((w.alloc o1).drewN m).alloc o2).heap[w.heap.size + 1]? = some o2 := by
  have h2 := heap_new ((w.alloc o1).drewN m) o2
  have e : ((w.alloc o1).drewN m).heap.size = w.heap.size + 1 := World.size_alloc _ _
  rw [e] at h2
  refine ⟨?_, h2⟩
  rw [Below.heap_alloc _ _ _ (show w.heap.size < ((w.alloc o1).drewN m).heap.size by rw [e]; omega)]
  exact heap_new w o1
theorem cells3 {W : World} {N : Nat} {a b c : Value} (h : W.heap[N]? = some (.cells #[a, b, c] 23 (0, 0))) : (W.cell? ⟨N, 0, none⟩ = some a ∧ W.cell? ⟨N, 1, none⟩ = some b ∧ W.cell? ⟨N, 2, none⟩ = some c) ∧ (W.frozen? ⟨N, 0, none⟩ = false ∧ W.frozen? ⟨N, 1, none⟩ = false ∧ W.frozen? ⟨N, 2, none⟩ = false) := by
  simp [World.cell?, World.frozen?, h]
theorem set3 {W : World} {N : Nat} {a b c : Value} (h : W.heap[N]? = some (.cells #[a, b, c] 23 (0, 0))) (x y z : Value) : (((W.setCell ⟨N, 0, none⟩ x).setCell ⟨N, 1, none⟩ y).setCell ⟨N, 2, none⟩ z).heap[N]? = some (.cells #[x, y, z] 23 (0, 0)) := by
  have := heap_set (heap_set (heap_set h 0 x) 1 y) 2 z
  simpa using this
theorem below3 {w W : World} {B : Nat} (h : Below B w W) {N : Nat} (hN : B ≤ N) (x y z : Value) : Below B w (((W.setCell ⟨N, 0, none⟩ x).setCell ⟨N, 1, none⟩ y).setCell ⟨N, 2, none⟩ z) :=
  ((h.setCell (by simpa using hN) _).setCell (by simpa using hN) _).setCell (by simpa using hN) _
theorem far1 {W : World} {N : Nat} (x : Value) (m : Nat) : ((W.drewN m).setCell ⟨N + 1, 2, none⟩ x).heap[N]? = W.heap[N]? := Below.heap_setCell _ _ _ _ (by show N ≠ N + 1; omega)
theorem set1 {W : World} {N : Nat} {a b c : Value} (h : W.heap[N]? = some (.cells #[a, b, c] 23 (0, 0))) (z : Value) : (W.setCell ⟨N, 2, none⟩ z).heap[N]? = some (.cells #[a, b, z] 23 (0, 0)) := by
  have := heap_set h 2 z
  simpa using this
theorem far3 {W : World} {N : Nat} (x y z : Value) (m : Nat) : ((((W.drewN m).setCell ⟨N + 1, 0, none⟩ x).setCell ⟨N + 1, 1, none⟩ y).setCell ⟨N + 1, 2, none⟩ z).heap[N]? = W.heap[N]? := by
  rw [Below.heap_setCell _ _ _ _ (by show N ≠ N + 1; omega), Below.heap_setCell _ _ _ _ (by show N ≠ N + 1; omega), Below.heap_setCell _ _ _ _ (by show N ≠ N + 1; omega)]
  rfl

set_option maxRecDepth 100000 in
set_option maxHeartbeats 1000000 in
theorem ref_n (c : ByteArray) (w : World) (hc : c.size ≤ 1000000) (h0 : 0 < c.size) (hx : c[0]'h0 = 110) (hg : guessZ c.data.toList = (0, 0, [])) : Calls Tryz.prog 14 #[.string c] w fun e w' => RefPost c w e w' := by
  have hl : c.data.toList ≠ [] := fun e => by have := (bytes_nil c).1 e; omega
  have hz := refR_of hl hg
  have hn : (c.toList == []) = false := by rw [ByteArray.toList_eq]; exact beq_eq_false_iff_ne.2 hl
  have hn2 : (c.toList = []) = False := eq_false (by rw [ByteArray.toList_eq]; exact hl)
  have HZ := Lib.hid hz
  clear hz hl hg
  have HN := Lib.hid (number_spec c hc 50 (by omega))
  have HT := Lib.hid (refText_spec (0) (0) (bs ([])) 300 (by omega))
  rw [bs_data] at HT
  generalize hT : bs (textL (0) (0) ([])) = T at *
  have HTT := Lib.hid hT
  clear hT
  go_enter Tryz.func14, Tryz.ntmps14
  go_wp2_with fail
  refine (Px.cleanseref02_Number.calls 50 c _ _ HN.out).mono ?_
  rintro e w' ⟨rfl, ⟨m, rfl⟩⟩
  go_wp2_with fail
  refine (Px.cleanseref02_Text.calls 300 _ _ _ _ _ HT.out).mono ?_
  rintro e w1 ⟨rfl, hb⟩
  have h2 := two_blk w (Obj.cells #[Value.int IntKind.i64 0, Value.int IntKind.i64 0, Value.string ⟨#[]⟩] 23) (Obj.cells #[Value.int IntKind.i64 (0), Value.int IntKind.i64 (0), Value.string ⟨#[]⟩] 23) m
  obtain ⟨hN, hN1⟩ := keep2 hb h2.1 h2.2
  have HB := Lib.hid ((((pw_below_drewN ((Below.refl _ _).alloc (Nat.le_refl w.heap.size) _) m).alloc (by simp) _).trans (hb.mono (by simp; omega))))
  clear h2
  clear hb
  obtain ⟨⟨a0, a1, a2⟩, f0, f1, f2⟩ := cells3 hN
  obtain ⟨⟨b0, b1, b2⟩, g0, g1, g2⟩ := cells3 hN1
  have HN0 := Lib.hid hN
  clear hN hN1 HT HN
  by_cases he : textL (0) (0) ([]) = c.data.toList
  · have hq : (T.toList == c.toList) = true := by rw [ByteArray.toList_eq, ByteArray.toList_eq, ← HTT.out, bs_data]; exact beq_iff_eq.2 he
    have hz := HZ.out
    rw [if_pos he] at hz
    have HZ2 := Lib.hid hz
    clear HZ he hz
    go_wp2_with fail
    refine bodyPost_ret (results_ct rfl _ _ w.heap.size 23 #[.int .i64 (0), .int .i64 (0), .string ⟨#[]⟩] (0, 0) _ rfl (set3 HN0.out _ _ _) Tryz.underlying23 rfl (by kernel_rfl)) rfl ?_
    exact ⟨by rw [HZ2.out]; rfl, below3 HB.out (Nat.le_refl _) _ _ _⟩
  · have hq : (T.toList == c.toList) = false := by rw [ByteArray.toList_eq, ByteArray.toList_eq, ← HTT.out, bs_data]; exact beq_eq_false_iff_ne.2 he
    have hz := HZ.out
    rw [if_neg he] at hz
    have HZ2 := Lib.hid hz
    clear HZ he hz
    go_wp2_with fail
    refine bodyPost_ret (results_ct rfl _ _ w.heap.size 23 #[.int .i64 0, .int .i64 0, .string ⟨#[]⟩] (0, 0) _ rfl (set3 HN0.out _ _ _) Tryz.underlying23 rfl (by kernel_rfl)) rfl ?_
    exact ⟨by rw [HZ2.out]; rfl, below3 HB.out (Nat.le_refl _) _ _ _⟩
set_option maxRecDepth 100000 in
set_option maxHeartbeats 1000000 in
theorem ref_t (c : ByteArray) (w : World) (hc : c.size ≤ 1000000) (h0 : 0 < c.size) (hx : c[0]'h0 = 116) (hg : guessZ c.data.toList = (4, 1, [])) : Calls Tryz.prog 14 #[.string c] w fun e w' => RefPost c w e w' := by
  have hl : c.data.toList ≠ [] := fun e => by have := (bytes_nil c).1 e; omega
  have hz := refR_of hl hg
  have hn : (c.toList == []) = false := by rw [ByteArray.toList_eq]; exact beq_eq_false_iff_ne.2 hl
  have hn2 : (c.toList = []) = False := eq_false (by rw [ByteArray.toList_eq]; exact hl)
  have HZ := Lib.hid hz
  clear hz hl hg
  have HN := Lib.hid (number_spec c hc 50 (by omega))
  have HT := Lib.hid (refText_spec (4) (1) (bs ([])) 300 (by omega))
  rw [bs_data] at HT
  generalize hT : bs (textL (4) (1) ([])) = T at *
  have HTT := Lib.hid hT
  clear hT
  go_enter Tryz.func14, Tryz.ntmps14
  go_wp2_with fail
  refine (Px.cleanseref02_Number.calls 50 c _ _ HN.out).mono ?_
  rintro e w' ⟨rfl, ⟨m, rfl⟩⟩
  go_wp2_with fail
  refine (Px.cleanseref02_Text.calls 300 _ _ _ _ _ HT.out).mono ?_
  rintro e w1 ⟨rfl, hb⟩
  have h2 := two_blk w (Obj.cells #[Value.int IntKind.i64 0, Value.int IntKind.i64 0, Value.string ⟨#[]⟩] 23) (Obj.cells #[Value.int IntKind.i64 (4), Value.int IntKind.i64 (1), Value.string ⟨#[]⟩] 23) m
  obtain ⟨hN, hN1⟩ := keep2 hb h2.1 h2.2
  have HB := Lib.hid ((((pw_below_drewN ((Below.refl _ _).alloc (Nat.le_refl w.heap.size) _) m).alloc (by simp) _).trans (hb.mono (by simp; omega))))
  clear h2
  clear hb
  obtain ⟨⟨a0, a1, a2⟩, f0, f1, f2⟩ := cells3 hN
  obtain ⟨⟨b0, b1, b2⟩, g0, g1, g2⟩ := cells3 hN1
  have HN0 := Lib.hid hN
  clear hN hN1 HT HN
  by_cases he : textL (4) (1) ([]) = c.data.toList
  · have hq : (T.toList == c.toList) = true := by rw [ByteArray.toList_eq, ByteArray.toList_eq, ← HTT.out, bs_data]; exact beq_iff_eq.2 he
    have hz := HZ.out
    rw [if_pos he] at hz
    have HZ2 := Lib.hid hz
    clear HZ he hz
    go_wp2_with fail
    refine bodyPost_ret (results_ct rfl _ _ w.heap.size 23 #[.int .i64 (4), .int .i64 (1), .string ⟨#[]⟩] (0, 0) _ rfl (set3 HN0.out _ _ _) Tryz.underlying23 rfl (by kernel_rfl)) rfl ?_
    exact ⟨by rw [HZ2.out]; rfl, below3 HB.out (Nat.le_refl _) _ _ _⟩
  · have hq : (T.toList == c.toList) = false := by rw [ByteArray.toList_eq, ByteArray.toList_eq, ← HTT.out, bs_data]; exact beq_eq_false_iff_ne.2 he
    have hz := HZ.out
    rw [if_neg he] at hz
    have HZ2 := Lib.hid hz
    clear HZ he hz
    go_wp2_with fail
    refine bodyPost_ret (results_ct rfl _ _ w.heap.size 23 #[.int .i64 0, .int .i64 0, .string ⟨#[]⟩] (0, 0) _ rfl (set3 HN0.out _ _ _) Tryz.underlying23 rfl (by kernel_rfl)) rfl ?_
    exact ⟨by rw [HZ2.out]; rfl, below3 HB.out (Nat.le_refl _) _ _ _⟩
set_option maxRecDepth 100000 in
set_option maxHeartbeats 1000000 in
theorem ref_f (c : ByteArray) (w : World) (hc : c.size ≤ 1000000) (h0 : 0 < c.size) (hx : c[0]'h0 = 102) (hg : guessZ c.data.toList = (4, 0, [])) : Calls Tryz.prog 14 #[.string c] w fun e w' => RefPost c w e w' := by
  have hl : c.data.toList ≠ [] := fun e => by have := (bytes_nil c).1 e; omega
  have hz := refR_of hl hg
  have hn : (c.toList == []) = false := by rw [ByteArray.toList_eq]; exact beq_eq_false_iff_ne.2 hl
  have hn2 : (c.toList = []) = False := eq_false (by rw [ByteArray.toList_eq]; exact hl)
  have HZ := Lib.hid hz
  clear hz hl hg
  have HN := Lib.hid (number_spec c hc 50 (by omega))
  have HT := Lib.hid (refText_spec (4) (0) (bs ([])) 300 (by omega))
  rw [bs_data] at HT
  generalize hT : bs (textL (4) (0) ([])) = T at *
  have HTT := Lib.hid hT
  clear hT
  go_enter Tryz.func14, Tryz.ntmps14
  go_wp2_with fail
  refine (Px.cleanseref02_Number.calls 50 c _ _ HN.out).mono ?_
  rintro e w' ⟨rfl, ⟨m, rfl⟩⟩
  go_wp2_with fail
  refine (Px.cleanseref02_Text.calls 300 _ _ _ _ _ HT.out).mono ?_
  rintro e w1 ⟨rfl, hb⟩
  have h2 := two_blk w (Obj.cells #[Value.int IntKind.i64 0, Value.int IntKind.i64 0, Value.string ⟨#[]⟩] 23) (Obj.cells #[Value.int IntKind.i64 (4), Value.int IntKind.i64 (0), Value.string ⟨#[]⟩] 23) m
  obtain ⟨hN, hN1⟩ := keep2 hb h2.1 h2.2
  have HB := Lib.hid ((((pw_below_drewN ((Below.refl _ _).alloc (Nat.le_refl w.heap.size) _) m).alloc (by simp) _).trans (hb.mono (by simp; omega))))
  clear h2
  clear hb
  obtain ⟨⟨a0, a1, a2⟩, f0, f1, f2⟩ := cells3 hN
  obtain ⟨⟨b0, b1, b2⟩, g0, g1, g2⟩ := cells3 hN1
  have HN0 := Lib.hid hN
  clear hN hN1 HT HN
  by_cases he : textL (4) (0) ([]) = c.data.toList
  · have hq : (T.toList == c.toList) = true := by rw [ByteArray.toList_eq, ByteArray.toList_eq, ← HTT.out, bs_data]; exact beq_iff_eq.2 he
    have hz := HZ.out
    rw [if_pos he] at hz
    have HZ2 := Lib.hid hz
    clear HZ he hz
    go_wp2_with fail
    refine bodyPost_ret (results_ct rfl _ _ w.heap.size 23 #[.int .i64 (4), .int .i64 (0), .string ⟨#[]⟩] (0, 0) _ rfl (set3 HN0.out _ _ _) Tryz.underlying23 rfl (by kernel_rfl)) rfl ?_
    exact ⟨by rw [HZ2.out]; rfl, below3 HB.out (Nat.le_refl _) _ _ _⟩
  · have hq : (T.toList == c.toList) = false := by rw [ByteArray.toList_eq, ByteArray.toList_eq, ← HTT.out, bs_data]; exact beq_eq_false_iff_ne.2 he
    have hz := HZ.out
    rw [if_neg he] at hz
    have HZ2 := Lib.hid hz
    clear HZ he hz
    go_wp2_with fail
    refine bodyPost_ret (results_ct rfl _ _ w.heap.size 23 #[.int .i64 0, .int .i64 0, .string ⟨#[]⟩] (0, 0) _ rfl (set3 HN0.out _ _ _) Tryz.underlying23 rfl (by kernel_rfl)) rfl ?_
    exact ⟨by rw [HZ2.out]; rfl, below3 HB.out (Nat.le_refl _) _ _ _⟩
set_option maxRecDepth 100000 in
set_option maxHeartbeats 1000000 in
theorem ref_o (c : ByteArray) (w : World) (hc : c.size ≤ 1000000) (h0 : 0 < c.size) (h110 : c[0]'h0 ≠ 110) (h116 : c[0]'h0 ≠ 116) (h102 : c[0]'h0 ≠ 102) (h64 : c[0]'h0 ≠ 64) (h34 : c[0]'h0 ≠ 34)  (hg : guessZ c.data.toList = (2, numL c.data.toList, [])) : Calls Tryz.prog 14 #[.string c] w fun e w' => RefPost c w e w' := by
  have hl : c.data.toList ≠ [] := fun e => by have := (bytes_nil c).1 e; omega
  have hz := refR_of hl hg
  have hn : (c.toList == []) = false := by rw [ByteArray.toList_eq]; exact beq_eq_false_iff_ne.2 hl
  have hn2 : (c.toList = []) = False := eq_false (by rw [ByteArray.toList_eq]; exact hl)
  have HZ := Lib.hid hz
  clear hz hl hg
  have HN := Lib.hid (number_spec c hc 50 (by omega))
  have HT := Lib.hid (refText_spec (2) (numL c.data.toList) (bs ([])) 300 (by omega))
  rw [bs_data] at HT
  obtain ⟨n110, n110q⟩ := byte_ne (n := 110) rfl h110
  obtain ⟨n116, n116q⟩ := byte_ne (n := 116) rfl h116
  obtain ⟨n102, n102q⟩ := byte_ne (n := 102) rfl h102
  obtain ⟨n64, n64q⟩ := byte_ne (n := 64) rfl h64
  obtain ⟨n34, n34q⟩ := byte_ne (n := 34) rfl h34
  generalize hx : c[0]'h0 = x at *
  generalize hT : bs (textL (2) (numL c.data.toList) ([])) = T at *
  have HTT := Lib.hid hT
  clear hT
  go_enter Tryz.func14, Tryz.ntmps14
  go_wp2_with fail
  refine (Px.cleanseref02_Number.calls 50 c _ _ HN.out).mono ?_
  rintro e w' ⟨rfl, ⟨m, rfl⟩⟩
  go_wp2_with fail
  refine (Px.cleanseref02_Text.calls 300 _ _ _ _ _ HT.out).mono ?_
  rintro e w1 ⟨rfl, hb⟩
  have h2 := two_blk w (Obj.cells #[Value.int IntKind.i64 0, Value.int IntKind.i64 0, Value.string ⟨#[]⟩] 23) (Obj.cells #[Value.int IntKind.i64 (2), Value.int IntKind.i64 (numL c.data.toList), Value.string ⟨#[]⟩] 23) m
  obtain ⟨hN, hN1⟩ := keep2 hb h2.1 h2.2
  have HB := Lib.hid ((((pw_below_drewN ((Below.refl _ _).alloc (Nat.le_refl w.heap.size) _) m).alloc (by simp) _).trans (hb.mono (by simp; omega))))
  clear h2
  clear hb
  obtain ⟨⟨a0, a1, a2⟩, f0, f1, f2⟩ := cells3 hN
  obtain ⟨⟨b0, b1, b2⟩, g0, g1, g2⟩ := cells3 hN1
  have HN0 := Lib.hid hN
  clear hN hN1 HT HN
  by_cases he : textL (2) (numL c.data.toList) ([]) = c.data.toList
  · have hq : (T.toList == c.toList) = true := by rw [ByteArray.toList_eq, ByteArray.toList_eq, ← HTT.out, bs_data]; exact beq_iff_eq.2 he
    have hz := HZ.out
    rw [if_pos he] at hz
    have HZ2 := Lib.hid hz
    clear HZ he hz
    go_wp2_with fail
    refine bodyPost_ret (results_ct rfl _ _ w.heap.size 23 #[.int .i64 (2), .int .i64 (numL c.data.toList), .string ⟨#[]⟩] (0, 0) _ rfl (set3 HN0.out _ _ _) Tryz.underlying23 rfl (by kernel_rfl)) rfl ?_
    exact ⟨by rw [HZ2.out]; rfl, below3 HB.out (Nat.le_refl _) _ _ _⟩
  · have hq : (T.toList == c.toList) = false := by rw [ByteArray.toList_eq, ByteArray.toList_eq, ← HTT.out, bs_data]; exact beq_eq_false_iff_ne.2 he
    have hz := HZ.out
    rw [if_neg he] at hz
    have HZ2 := Lib.hid hz
    clear HZ he hz
    go_wp2_with fail
    refine bodyPost_ret (results_ct rfl _ _ w.heap.size 23 #[.int .i64 0, .int .i64 0, .string ⟨#[]⟩] (0, 0) _ rfl (set3 HN0.out _ _ _) Tryz.underlying23 rfl (by kernel_rfl)) rfl ?_
    exact ⟨by rw [HZ2.out]; rfl, below3 HB.out (Nat.le_refl _) _ _ _⟩
set_option maxRecDepth 100000 in
set_option maxHeartbeats 1000000 in
theorem ref_q0 (c : ByteArray) (w : World) (hc : c.size ≤ 1000000) (h0 : 0 < c.size) (hx : c[0]'h0 = 34) (h402 : ¬ c.size ≤ 402) (hg : guessZ c.data.toList = (1, 0, [])) : Calls Tryz.prog 14 #[.string c] w fun e w' => RefPost c w e w' := by
  have hl : c.data.toList ≠ [] := fun e => by have := (bytes_nil c).1 e; omega
  have hz := refR_of hl hg
  have hn : (c.toList == []) = false := by rw [ByteArray.toList_eq]; exact beq_eq_false_iff_ne.2 hl
  have hn2 : (c.toList = []) = False := eq_false (by rw [ByteArray.toList_eq]; exact hl)
  have HZ := Lib.hid hz
  clear hz hl hg
  have HN := Lib.hid (number_spec c hc 50 (by omega))
  have HT := Lib.hid (refText_spec (1) (0) (bs ([])) 300 (by omega))
  rw [bs_data] at HT
  have hd4 : decide ((c.size : Int) ≤ 402) = false := decide_eq_false (by omega)
  generalize hT : bs (textL (1) (0) ([])) = T at *
  have HTT := Lib.hid hT
  clear hT
  go_enter Tryz.func14, Tryz.ntmps14
  go_wp2_with fail
  refine (Px.cleanseref02_Number.calls 50 c _ _ HN.out).mono ?_
  rintro e w' ⟨rfl, ⟨m, rfl⟩⟩
  go_wp2_with fail
  refine (Px.cleanseref02_Text.calls 300 _ _ _ _ _ HT.out).mono ?_
  rintro e w1 ⟨rfl, hb⟩
  have h2 := two_blk w (Obj.cells #[Value.int IntKind.i64 0, Value.int IntKind.i64 0, Value.string ⟨#[]⟩] 23) (Obj.cells #[Value.int IntKind.i64 (1), Value.int IntKind.i64 (0), Value.string ⟨#[]⟩] 23) m
  obtain ⟨hN, hN1⟩ := keep2 hb h2.1 h2.2
  have HB := Lib.hid ((((pw_below_drewN ((Below.refl _ _).alloc (Nat.le_refl w.heap.size) _) m).alloc (by simp) _).trans (hb.mono (by simp; omega))))
  clear h2
  clear hb
  obtain ⟨⟨a0, a1, a2⟩, f0, f1, f2⟩ := cells3 hN
  obtain ⟨⟨b0, b1, b2⟩, g0, g1, g2⟩ := cells3 hN1
  have HN0 := Lib.hid hN
  clear hN hN1 HT HN
  by_cases he : textL (1) (0) ([]) = c.data.toList
  · have hq : (T.toList == c.toList) = true := by rw [ByteArray.toList_eq, ByteArray.toList_eq, ← HTT.out, bs_data]; exact beq_iff_eq.2 he
    have hz := HZ.out
    rw [if_pos he] at hz
    have HZ2 := Lib.hid hz
    clear HZ he hz
    go_wp2_with fail
    refine bodyPost_ret (results_ct rfl _ _ w.heap.size 23 #[.int .i64 (1), .int .i64 (0), .string ⟨#[]⟩] (0, 0) _ rfl (set3 HN0.out _ _ _) Tryz.underlying23 rfl (by kernel_rfl)) rfl ?_
    exact ⟨by rw [HZ2.out]; rfl, below3 HB.out (Nat.le_refl _) _ _ _⟩
  · have hq : (T.toList == c.toList) = false := by rw [ByteArray.toList_eq, ByteArray.toList_eq, ← HTT.out, bs_data]; exact beq_eq_false_iff_ne.2 he
    have hz := HZ.out
    rw [if_neg he] at hz
    have HZ2 := Lib.hid hz
    clear HZ he hz
    go_wp2_with fail
    refine bodyPost_ret (results_ct rfl _ _ w.heap.size 23 #[.int .i64 0, .int .i64 0, .string ⟨#[]⟩] (0, 0) _ rfl (set3 HN0.out _ _ _) Tryz.underlying23 rfl (by kernel_rfl)) rfl ?_
    exact ⟨by rw [HZ2.out]; rfl, below3 HB.out (Nat.le_refl _) _ _ _⟩
set_option maxRecDepth 100000 in
set_option maxHeartbeats 1000000 in
theorem ref_at (c : ByteArray) (w : World) (hc : c.size ≤ 1000000) (h0 : 0 < c.size) (hx : c[0]'h0 = 64) (V : Int) (hV : numL c.data.toList.tail = V) (hg : guessZ c.data.toList = (3, V, [])) : Calls Tryz.prog 14 #[.string c] w fun e w' => RefPost c w e w' := by
  have hl : c.data.toList ≠ [] := fun e => by have := (bytes_nil c).1 e; omega
  have hz := refR_of hl hg
  have hn : (c.toList == []) = false := by rw [ByteArray.toList_eq]; exact beq_eq_false_iff_ne.2 hl
  have hn2 : (c.toList = []) = False := eq_false (by rw [ByteArray.toList_eq]; exact hl)
  have HZ := Lib.hid hz
  clear hz hl hg
  have HN := Lib.hid (number_spec c hc 50 (by omega))
  have HT := Lib.hid (refText_spec (3) (V) (bs ([])) 300 (by omega))
  rw [bs_data] at HT
  have hn2' : Px.cleanseref02_Number.f 50 (c.extract 1 c.size) = some V := by
    have h := number_spec (c.extract 1 c.size) (by rw [ByteArray.size_extract]; omega) 50 (by omega)
    rw [ext_list, List.take_of_length_le (by rw [len_list]; omega), List.drop_one, hV] at h
    exact h
  have HN2 := Lib.hid hn2'
  clear hn2' hV
  have p1 : (1 ≤ (c.size : Int)) = True := eq_true (by omega)
  have p1' : (1 ≤ c.size) = True := eq_true (by omega)
  generalize hT : bs (textL (3) (V) ([])) = T at *
  have HTT := Lib.hid hT
  clear hT
  go_enter Tryz.func14, Tryz.ntmps14
  go_wp2_with fail
  refine (Px.cleanseref02_Number.calls 50 c _ _ HN.out).mono ?_
  rintro e w' ⟨rfl, ⟨m, rfl⟩⟩
  go_wp2_with fail
  refine (Px.cleanseref02_Number.calls 50 _ _ _ HN2.out).mono ?_
  rintro e w' ⟨rfl, ⟨m2, rfl⟩⟩
  go_wp2_with fail
  refine (Px.cleanseref02_Text.calls 300 _ _ _ _ _ HT.out).mono ?_
  rintro e w1 ⟨rfl, hb⟩
  have h2 := two_blk w (Obj.cells #[Value.int IntKind.i64 0, Value.int IntKind.i64 0, Value.string ⟨#[]⟩] 23) (Obj.cells #[Value.int IntKind.i64 2, Value.int IntKind.i64 (numL c.data.toList), Value.string ⟨#[]⟩] 23) m
  obtain ⟨hN, hN1⟩ := keep2 hb ((far3 _ _ _ _).trans h2.1) (set3 (W := World.drewN _ m2) h2.2 _ _ _)
  have HB := Lib.hid ((below3 (pw_below_drewN ((pw_below_drewN ((Below.refl _ _).alloc (Nat.le_refl w.heap.size) _) m).alloc (by simp) _) m2) (Nat.le_succ _) _ _ _).trans (hb.mono (by simp; omega)))
  clear h2
  clear hb
  obtain ⟨⟨a0, a1, a2⟩, f0, f1, f2⟩ := cells3 hN
  obtain ⟨⟨b0, b1, b2⟩, g0, g1, g2⟩ := cells3 hN1
  have HN0 := Lib.hid hN
  clear hN hN1 HT HN
  by_cases he : textL (3) (V) ([]) = c.data.toList
  · have hq : (T.toList == c.toList) = true := by rw [ByteArray.toList_eq, ByteArray.toList_eq, ← HTT.out, bs_data]; exact beq_iff_eq.2 he
    have hz := HZ.out
    rw [if_pos he] at hz
    have HZ2 := Lib.hid hz
    clear HZ he hz
    go_wp2_with fail
    refine bodyPost_ret (results_ct rfl _ _ w.heap.size 23 #[.int .i64 (3), .int .i64 (V), .string ⟨#[]⟩] (0, 0) _ rfl (set3 HN0.out _ _ _) Tryz.underlying23 rfl (by kernel_rfl)) rfl ?_
    exact ⟨by rw [HZ2.out]; rfl, below3 HB.out (Nat.le_refl _) _ _ _⟩
  · have hq : (T.toList == c.toList) = false := by rw [ByteArray.toList_eq, ByteArray.toList_eq, ← HTT.out, bs_data]; exact beq_eq_false_iff_ne.2 he
    have hz := HZ.out
    rw [if_neg he] at hz
    have HZ2 := Lib.hid hz
    clear HZ he hz
    go_wp2_with fail
    refine bodyPost_ret (results_ct rfl _ _ w.heap.size 23 #[.int .i64 0, .int .i64 0, .string ⟨#[]⟩] (0, 0) _ rfl (set3 HN0.out _ _ _) Tryz.underlying23 rfl (by kernel_rfl)) rfl ?_
    exact ⟨by rw [HZ2.out]; rfl, below3 HB.out (Nat.le_refl _) _ _ _⟩
set_option maxRecDepth 100000 in
set_option maxHeartbeats 1000000 in
theorem ref_q (c : ByteArray) (w : World) (hc : c.size ≤ 1000000) (h0 : 0 < c.size) (hx : c[0]'h0 = 34) (h402 : c.size ≤ 402) (U : List UInt8) (hU : unqL c.data.toList.tail = U) (hg : guessZ c.data.toList = (1, 0, U)) : Calls Tryz.prog 14 #[.string c] w fun e w' => RefPost c w e w' := by
  have hl : c.data.toList ≠ [] := fun e => by have := (bytes_nil c).1 e; omega
  have hz := refR_of hl hg
  have hn : (c.toList == []) = false := by rw [ByteArray.toList_eq]; exact beq_eq_false_iff_ne.2 hl
  have hn2 : (c.toList = []) = False := eq_false (by rw [ByteArray.toList_eq]; exact hl)
  have HZ := Lib.hid hz
  clear hz hl hg
  have HN := Lib.hid (number_spec c hc 50 (by omega))
  have HT := Lib.hid (refText_spec (1) (0) (bs (U)) 300 (by omega))
  rw [bs_data] at HT
  have hu : Px.cleanseref02_unquoted.f 500 c = some (bs U) := by
    have h := unq_spec c h0 hc 500 (by omega)
    rw [hU] at h
    exact h
  have HU := Lib.hid hu
  clear hu hU
  have hd4 : decide ((c.size : Int) ≤ 402) = true := decide_eq_true (by omega)
  generalize hT : bs (textL (1) (0) (U)) = T at *
  have HTT := Lib.hid hT
  clear hT
  go_enter Tryz.func14, Tryz.ntmps14
  go_wp2_with fail
  refine (Px.cleanseref02_Number.calls 50 c _ _ HN.out).mono ?_
  rintro e w' ⟨rfl, ⟨m, rfl⟩⟩
  go_wp2_with fail
  refine (Px.cleanseref02_unquoted.calls 500 _ _ _ HU.out).mono ?_
  rintro e w' ⟨rfl, ⟨m2, rfl⟩⟩
  go_wp2_with fail
  refine (Px.cleanseref02_Text.calls 300 _ _ _ _ _ HT.out).mono ?_
  rintro e w1 ⟨rfl, hb⟩
  have h2 := two_blk w (Obj.cells #[Value.int IntKind.i64 0, Value.int IntKind.i64 0, Value.string ⟨#[]⟩] 23) (Obj.cells #[Value.int IntKind.i64 1, Value.int IntKind.i64 0, Value.string ⟨#[]⟩] 23) m
  obtain ⟨hN, hN1⟩ := keep2 hb ((far1 _ _).trans h2.1) (set1 (W := World.drewN _ m2) h2.2 _)
  have HB := Lib.hid (((pw_below_drewN ((pw_below_drewN ((Below.refl _ _).alloc (Nat.le_refl w.heap.size) _) m).alloc (by simp) _) m2).setCell (p := ⟨w.heap.size + 1, 2, none⟩) (Nat.le_succ _) _).trans (hb.mono (by simp; omega)))
  clear h2
  clear hb
  obtain ⟨⟨a0, a1, a2⟩, f0, f1, f2⟩ := cells3 hN
  obtain ⟨⟨b0, b1, b2⟩, g0, g1, g2⟩ := cells3 hN1
  have HN0 := Lib.hid hN
  clear hN hN1 HT HN
  by_cases he : textL (1) (0) (U) = c.data.toList
  · have hq : (T.toList == c.toList) = true := by rw [ByteArray.toList_eq, ByteArray.toList_eq, ← HTT.out, bs_data]; exact beq_iff_eq.2 he
    have hz := HZ.out
    rw [if_pos he] at hz
    have HZ2 := Lib.hid hz
    clear HZ he hz
    go_wp2_with fail
    refine bodyPost_ret (results_ct rfl _ _ w.heap.size 23 #[.int .i64 (1), .int .i64 (0), .string (bs U)] (0, 0) _ rfl (set3 HN0.out _ _ _) Tryz.underlying23 rfl (by kernel_rfl)) rfl ?_
    exact ⟨by rw [HZ2.out]; rfl, below3 HB.out (Nat.le_refl _) _ _ _⟩
  · have hq : (T.toList == c.toList) = false := by rw [ByteArray.toList_eq, ByteArray.toList_eq, ← HTT.out, bs_data]; exact beq_eq_false_iff_ne.2 he
    have hz := HZ.out
    rw [if_neg he] at hz
    have HZ2 := Lib.hid hz
    clear HZ he hz
    go_wp2_with fail
    refine bodyPost_ret (results_ct rfl _ _ w.heap.size 23 #[.int .i64 0, .int .i64 0, .string ⟨#[]⟩] (0, 0) _ rfl (set3 HN0.out _ _ _) Tryz.underlying23 rfl (by kernel_rfl)) rfl ?_
    exact ⟨by rw [HZ2.out]; rfl, below3 HB.out (Nat.le_refl _) _ _ _⟩
def cleanseref02_Parse.f (a0 : ByteArray) : Option (Int × Int × ByteArray × Int) := if a0.size ≤ 1000000 then some (refR a0.data.toList) else none
theorem ref_all (c : ByteArray) (w : World) (hc : c.size ≤ 1000000) : Calls Tryz.prog 14 #[.string c] w fun e w' => RefPost c w e w' := by
  by_cases h : c.data.toList = []
  · exact ref_empty c w h
  have h0 : 0 < c.size := by
    rcases Nat.eq_zero_or_pos c.size with h2 | h2
    · exact absurd ((bytes_nil c).2 h2) h
    · exact h2
  have hh : c.data.toList.head? = some (c[0]'h0) := by
    rw [List.head?_eq_getElem?, List.getElem?_eq_getElem (by rw [len_list]; exact h0)]
    rfl
  have hg : ∀ v, guessZ c.data.toList = v → guessZ c.data.toList = v := fun v h => h
  unfold guessZ at hg
  rw [hh] at hg
  by_cases h1 : c[0]'h0 = 110
  · exact ref_n c w hc h0 h1 (by unfold guessZ; rw [hh, h1, if_pos rfl])
  by_cases h2 : c[0]'h0 = 116
  · exact ref_t c w hc h0 h2 (by unfold guessZ; rw [hh, h2]; rfl)
  by_cases h3 : c[0]'h0 = 102
  · exact ref_f c w hc h0 h3 (by unfold guessZ; rw [hh, h3]; rfl)
  by_cases h4 : c[0]'h0 = 64
  · exact ref_at c w hc h0 h4 _ rfl (by unfold guessZ; rw [hh, h4]; rfl)
  by_cases h5 : c[0]'h0 = 34
  · by_cases h6 : c.size ≤ 402
    · refine ref_q c w hc h0 h5 h6 _ rfl ?_
      unfold guessZ
      rw [hh, h5, if_neg (by decide), if_neg (by decide), if_neg (by decide), if_neg (by decide), if_pos rfl, if_pos (by rw [len_list]; exact h6)]
    · refine ref_q0 c w hc h0 h5 h6 ?_
      unfold guessZ
      rw [hh, h5, if_neg (by decide), if_neg (by decide), if_neg (by decide), if_neg (by decide), if_pos rfl, if_neg (by rw [len_list]; exact h6)]
  · refine ref_o c w hc h0 h1 h2 h3 h4 h5 ?_
    have e : ∀ v : UInt8, c[0]'h0 ≠ v → ¬ some (c[0]'h0) = some v := fun v h h' => h (Option.some.inj h')
    unfold guessZ
    rw [hh, if_neg (e _ h1), if_neg (e _ h2), if_neg (e _ h3), if_neg (e _ h4), if_neg (e _ h5)]
theorem cleanseref02_Parse.calls (a0 : ByteArray) (r1 r2 : Int) (r3 : ByteArray) (r4 : Int) (w : World) (h : cleanseref02_Parse.f a0 = some (r1, r2, r3, r4)) :
    Calls Tryz.prog 14 #[.string a0] w fun e w' => e = .returned (.tuple #[.agg #[.int .i64 r1, .int .i64 r2, .string r3], .int .i64 r4]) ∧ Below w.heap.size w w' := by
  unfold cleanseref02_Parse.f at h
  split at h
  case isFalse => cases h
  rename_i hc
  have hz := Option.some.inj h
  refine (ref_all a0 w hc).mono ?_
  rintro e w' ⟨rfl, hb⟩
  rw [hz]
  exact ⟨rfl, hb⟩
end Go.Proofs.YthgppbpmcjkadaaGreatDoor.X
