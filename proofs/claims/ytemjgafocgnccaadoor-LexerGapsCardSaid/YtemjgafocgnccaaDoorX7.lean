/- lexer.Lex: its deferred closure, by the mode of the frame below. -/
import Derived.Test.YtemjgafocgnccaaDoorX6
import Derived.Defers
import Derived.Recover
import Derived.Laws.Pointers
set_option linter.unusedVariables false
set_option linter.unusedSimpArgs false
namespace Go.Proofs.YtemjgafocgnccaaDoor.X
open Go.RowKit Go.Proofs.YtemjgafocgnccaaDoorW.PrintWords Go.Proofs.YtemjgafocgnccaaDoorW.PrintLast Go.Proofs.YtemjgafocgnccaaDoorW.PrintMore
theorem catch_idle (a b c : Nat) (w : World) :
    CallsD Tryd.prog 14 #[.pointer (some ⟨a, 0, none⟩), .pointer (some ⟨b, 0, none⟩), .pointer (some ⟨c, 0, none⟩)] .returning w fun e u' w' => e = .returned (.tuple #[]) ∧ u' = .returning ∧ w' = w := by
  refine callsD_of_wpS Tryd.func14 rfl fun c₀ cs hu => ?_
  apply wpS_seq
  apply wpS_region
  simp [wpOpsS, go_sem, recoverD, hu, Tryd.ntmps14, Exit.thenS]
  refine wpS_of_wp ?_
  rw [show (Array.replicate 18 undef : Array Value) = #[undef, undef, undef, undef, undef, undef, undef, undef, undef, undef, undef, undef, undef, undef, undef, undef, undef, undef] from rfl]
  simp only [List.setIfInBounds_toArray, List.set_cons_zero, List.set_cons_succ, List.append_toArray, List.cons_append, List.nil_append]
  go_wp2_with fail
  cases c₀
  simp_all [bodyPostS, results, Tryd.results14]
theorem assert_fault (v : Value) (W : World) : (Instr.typeAssert (.iface 36 v) 20 36 true).run Tryd.prog W = .ok (.tuple #[v, .bool true]) W := by
  simp [Instr.typeAssert, go_sem, Tryd.underlying36]
theorem catch_panicking (a : Nat) (x : Int) (i : Nat) (older : List PanicEntry) (w0 w : World) (v : Value) (e0 a0 : Int) (hB : Below a w0 w) (hlt : a + 2 < w.heap.size) (ha : w.heap[a]? = some (.cells #[v] 23 (0, 0))) (hb : w.heap[a + 1]? = some (.cells #[.int .i64 e0] 24 (0, 0))) (hc : w.heap[a + 2]? = some (.cells #[.int .i64 a0] 3 (0, 0))) :
    CallsD Tryd.prog 14 #[.pointer (some ⟨a, 0, none⟩), .pointer (some ⟨a + 1, 0, none⟩), .pointer (some ⟨a + 2, 0, none⟩)] (.panicking ({ v := .iface 36 (.agg #[.int .i64 x, .int .i64 i]), recovered := false } :: older)) w fun e u' w' =>
      e = .returned (.tuple #[]) ∧ u' = .panicking ({ v := .iface 36 (.agg #[.int .i64 x, .int .i64 i]), recovered := true } :: older) ∧ w'.cell? ⟨a, 0, none⟩ = some (.slice none 0 0) ∧ w'.cell? ⟨a + 1, 0, none⟩ = some (.int .i64 x) ∧ w'.cell? ⟨a + 2, 0, none⟩ = some (.int .i64 i) ∧ Below a w0 w' := by
  refine callsD_of_wpS Tryd.func14 rfl fun c₀ cs hu => ?_
  apply wpS_seq
  apply wpS_region
  simp [wpOpsS, go_sem, recoverD, hu, Tryd.ntmps14, Exit.thenS]
  have hta := fun W => assert_fault (.agg #[.int .i64 x, .int .i64 i]) W
  have hn1 : ¬ a = w.heap.size := by omega
  have hn2 : ¬ a + 1 = w.heap.size := by omega
  have hn3 : ¬ a + 2 = w.heap.size := by omega
  have HB := Lib.hid hB
  clear hB
  have a0c : w.cell? ⟨a, 0, none⟩ = some v := by simp [World.cell?, ha]
  have b0c : w.cell? ⟨a + 1, 0, none⟩ = some (.int .i64 e0) := by simp [World.cell?, hb]
  have c0c : w.cell? ⟨a + 2, 0, none⟩ = some (.int .i64 a0) := by simp [World.cell?, hc]
  have a0f : w.frozen? ⟨a, 0, none⟩ = false := by simp [World.frozen?, ha]
  have b0f : w.frozen? ⟨a + 1, 0, none⟩ = false := by simp [World.frozen?, hb]
  have c0f : w.frozen? ⟨a + 2, 0, none⟩ = false := by simp [World.frozen?, hc]
  refine wpS_of_wp ?_
  rw [show (Array.replicate 18 undef : Array Value) = #[undef, undef, undef, undef, undef, undef, undef, undef, undef, undef, undef, undef, undef, undef, undef, undef, undef, undef] from rfl]
  simp only [List.setIfInBounds_toArray, List.set_cons_zero, List.set_cons_succ, List.append_toArray, List.cons_append, List.nil_append]
  go_wp2_with fail
  have hN := heap_new w (.cells #[.int .i64 x, .int .i64 i] 36)
  have hold : ∀ k, k < w.heap.size → (w.alloc (.cells #[.int .i64 x, .int .i64 i] 36)).heap[k]? = w.heap[k]? := fun k hk => by
    show (w.heap.push _)[k]? = _
    rw [Array.getElem?_push_lt hk, Array.getElem?_eq_getElem hk]
  have ha2 := (hold a (by omega)).trans ha
  have hb2 := (hold (a + 1) (by omega)).trans hb
  have hc2 := (hold (a + 2) (by omega)).trans hc
  have HB2 := Lib.hid (show Below a w0 (w.alloc (.cells #[.int .i64 x, .int .i64 i] 36)) from HB.out.alloc (by omega) _)
  clear a0c b0c c0c a0f b0f c0f hold HB ha hb hc
  generalize w.alloc (.cells #[.int .i64 x, .int .i64 i] 36) = W2 at *
  generalize w.heap.size = N at *
  have a0c : W2.cell? ⟨a, 0, none⟩ = some v := by simp [World.cell?, ha2]
  have b0c : W2.cell? ⟨a + 1, 0, none⟩ = some (.int .i64 e0) := by simp [World.cell?, hb2]
  have c0c : W2.cell? ⟨a + 2, 0, none⟩ = some (.int .i64 a0) := by simp [World.cell?, hc2]
  have a0f : W2.frozen? ⟨a, 0, none⟩ = false := by simp [World.frozen?, ha2]
  have b0f : W2.frozen? ⟨a + 1, 0, none⟩ = false := by simp [World.frozen?, hb2]
  have c0f : W2.frozen? ⟨a + 2, 0, none⟩ = false := by simp [World.frozen?, hc2]
  have n0c : W2.cell? ⟨N, 0, none⟩ = some (.int .i64 x) := by simp [World.cell?, hN]
  have n1c : W2.cell? ⟨N, 1, none⟩ = some (.int .i64 i) := by simp [World.cell?, hN]
  clear hN ha2 hb2 hc2
  go_region
  go_wp2_with fail
  refine ⟨rfl, _, rfl, _, results_none rfl _ _ _, rfl, rfl, ?_, ?_, ?_, ?_⟩
  · simp [go_sem, a0c, b0c, c0c]
  · simp [go_sem, a0c, b0c, c0c]
  · simp [go_sem, a0c, b0c, c0c]
  · exact pw_below_drewN (((HB2.out.setCell (Nat.le_refl _) _).setCell (by simp) _).setCell (by simp) _) 1
end Go.Proofs.YtemjgafocgnccaaDoor.X
