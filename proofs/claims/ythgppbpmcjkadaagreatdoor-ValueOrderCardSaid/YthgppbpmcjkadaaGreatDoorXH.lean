/- Blocks of three cells (a value's), as the walks of this seat know them. -/
import Derived.Test.YthgppbpmcjkadaaGreatDoorX3
set_option linter.unusedVariables false
set_option linter.unusedSimpArgs false
namespace Go.Proofs.YthgppbpmcjkadaaGreatDoor.X
open Go.RowKit
theorem h_two (w : World) (o1 o2 : Obj) : ((w.alloc o1).alloc o2).heap[w.heap.size]? = some o1 ∧ ((w.alloc o1).alloc o2).heap[w.heap.size + 1]? = some o2 := by
  have h2 := heap_new (w.alloc o1) o2
  have e : (w.alloc o1).heap.size = w.heap.size + 1 := World.size_alloc _ _
  rw [e] at h2
  refine ⟨?_, h2⟩
  rw [Below.heap_alloc _ _ _ (show w.heap.size < (w.alloc o1).heap.size by rw [e]; omega)]
  exact heap_new w o1
theorem h_lt {W : World} {k : Nat} {o : Obj} (h : W.heap[k]? = some o) : k < W.heap.size := (Array.getElem?_eq_some_iff.1 h).1
theorem h_keep {W w1 : World} (hb : Below W.heap.size W w1) {N : Nat} {o1 o2 : Obj} (h1 : W.heap[N]? = some o1) (h2 : W.heap[N + 1]? = some o2) : w1.heap[N]? = some o1 ∧ w1.heap[N + 1]? = some o2 :=
  ⟨(hb.block N (h_lt h1)).trans h1, (hb.block (N + 1) (h_lt h2)).trans h2⟩
theorem h_cells {W : World} {N : Nat} {a b c : Value} (h : W.heap[N]? = some (.cells #[a, b, c] 23 (0, 0))) : (W.cell? ⟨N, 0, none⟩ = some a ∧ W.cell? ⟨N, 1, none⟩ = some b ∧ W.cell? ⟨N, 2, none⟩ = some c) ∧ (W.frozen? ⟨N, 0, none⟩ = false ∧ W.frozen? ⟨N, 1, none⟩ = false ∧ W.frozen? ⟨N, 2, none⟩ = false) := by
  simp [World.cell?, World.frozen?, h]
theorem h_set3 {W : World} {N : Nat} {a b c : Value} (h : W.heap[N]? = some (.cells #[a, b, c] 23 (0, 0))) (x y z : Value) : (((W.setCell ⟨N, 0, none⟩ x).setCell ⟨N, 1, none⟩ y).setCell ⟨N, 2, none⟩ z).heap[N]? = some (.cells #[x, y, z] 23 (0, 0)) := by
  have := heap_set (heap_set (heap_set h 0 x) 1 y) 2 z
  simpa using this
theorem h_set0 {W : World} {N : Nat} {a b c : Value} (h : W.heap[N]? = some (.cells #[a, b, c] 23 (0, 0))) (x : Value) : (W.setCell ⟨N, 0, none⟩ x).heap[N]? = some (.cells #[x, b, c] 23 (0, 0)) := by
  have := heap_set h 0 x
  simpa using this
theorem h_set1 {W : World} {N : Nat} {a b c : Value} (h : W.heap[N]? = some (.cells #[a, b, c] 23 (0, 0))) (x : Value) : (W.setCell ⟨N, 1, none⟩ x).heap[N]? = some (.cells #[a, x, c] 23 (0, 0)) := by
  have := heap_set h 1 x
  simpa using this
theorem h_set2 {W : World} {N : Nat} {a b c : Value} (h : W.heap[N]? = some (.cells #[a, b, c] 23 (0, 0))) (x : Value) : (W.setCell ⟨N, 2, none⟩ x).heap[N]? = some (.cells #[a, b, x] 23 (0, 0)) := by
  have := heap_set h 2 x
  simpa using this
theorem h_far {W : World} {N M o : Nat} {x : Value} {z : Option Obj} (h : W.heap[N]? = z) (hM : N ≠ M) : (W.setCell ⟨M, o, none⟩ x).heap[N]? = z := (Below.heap_setCell _ _ _ _ hM).trans h
theorem h_below3 {w W : World} {B : Nat} (h : Below B w W) {N : Nat} (hN : B ≤ N) (x y z : Value) : Below B w (((W.setCell ⟨N, 0, none⟩ x).setCell ⟨N, 1, none⟩ y).setCell ⟨N, 2, none⟩ z) :=
  ((h.setCell (by simpa using hN) _).setCell (by simpa using hN) _).setCell (by simpa using hN) _
end Go.Proofs.YthgppbpmcjkadaaGreatDoor.X
