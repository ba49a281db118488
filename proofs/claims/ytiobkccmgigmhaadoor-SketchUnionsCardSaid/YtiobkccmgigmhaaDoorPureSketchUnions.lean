/- The statement SketchUnions over plain numbers, texts and lists. -/
import Derived.Test.YtiobkccmgigmhaaDoorPx11
import Derived.Test.YtiobkccmgigmhaaDoorPlB
set_option linter.unusedVariables false
set_option linter.unusedSimpArgs false
namespace Go.Proofs.YtiobkccmgigmhaaDoor.Pure
open Go.RowKit Go.Proofs.YtiobkccmgigmhaaDoorW.PrintWords
theorem make_union (l m : List ByteArray) (n : Nat) (h1 : 1 ≤ n) (hn : n ≤ 64) (k : Nat) (hk : 66 < k) : Px.sketch_Union.f k (Pl.makeZ l n) (Pl.makeZ m n) = some (Pl.makeZ (l ++ m) n, 0) := by
  rw [Pl.union_spec _ _ (Pl.makeZ_right l n h1 hn) (Pl.makeZ_right m n h1 hn) (by simp [Pl.makeZ_length]) k hk, Pl.union_make l m n h1]
theorem same_ints (l m : List ByteArray) (n : Nat) (hn : n ≤ 64) (h : ∀ t, t ∈ l ↔ t ∈ m) (k : Nat) (hk : 66 < k) : Px.cleanseref05_Ints.f k (Pl.makeZ l n) (Pl.makeZ m n) = some true := by
  rw [Pl.ints_spec _ _ (by rw [Pl.makeZ_length]; omega) k (by rw [Pl.makeZ_length]; omega), Pl.makeZ_congr l m n h]
  simp
theorem SketchUnions : ∀ (l0 : List ByteArray) (l1 : List ByteArray) (l2 : List ByteArray) (a3 : Int), l0.length ≤ 9223372036854775807 → l1.length ≤ 9223372036854775807 → l2.length ≤ 9223372036854775807 → 0 ≤ a3 → a3 ≤ 255 → ∃ k, Px.cleanselaw05_SketchUnions.f k l0 l1 l2 a3 = some true := by
  intro l0 l1 l2 a m0 m1 m2 h0 h1
  refine ⟨1000, ?_⟩
  have hj : ∀ b : Bool, b = true → Px.cleanselaw05_SketchUnions.j0 1000 l0 l1 l2 a true b = some true := fun b hb => by subst hb; simp [Px.cleanselaw05_SketchUnions.j0]
  unfold Px.cleanselaw05_SketchUnions.f X.cleanselaw05_head.f
  simp only [Option.bind_some]
  rw [Pl.few_spec l0 _ m0 (by omega), Pl.few_spec l1 _ m1 (by omega), Pl.few_spec l2 _ m2 (by omega)]
  simp only [Option.bind_some]
  by_cases f0 : Pl.fewB l0 = true
  case neg => rw [if_neg f0]; exact hj _ rfl
  rw [if_pos f0]
  by_cases f1 : Pl.fewB l1 = true
  case neg => rw [if_neg f1]; exact hj _ rfl
  rw [if_pos f1]
  by_cases f2 : Pl.fewB l2 = true
  case neg => exact hj _ (by simpa using f2)
  obtain ⟨n, hn, n1, n2⟩ := Pl.size_of a h0 h1
  have len0 := Pl.fewB_len f0
  have len1 := Pl.fewB_len f1
  have ok0 := Pl.fewB_ok f0
  have ok1 := Pl.fewB_ok f1
  have ok01 : X.okLens (l0 ++ l1) = true := by
    unfold X.okLens at *
    rw [List.all_append, ok0, ok1]; rfl
  simp only [Px.cleanselaw05_SketchUnions.j0]
  rw [f2, if_neg (by decide), hn, Pl.make_spec l0 ok0 n n1 n2 _ (by omega), Pl.make_spec l1 ok1 n n1 n2 _ (by omega), Pl.make_spec l2 (Pl.fewB_ok f2) n n1 n2 _ (by omega), Pl.make_spec [] rfl n n1 n2 _ (by omega)]
  simp only [Option.bind_some, List.nil_append]
  rw [if_pos (by simp; omega), if_pos (by omega), Pl.make_spec _ ok01 n n1 n2 _ (by omega)]
  simp only [Option.bind_some]
  rw [make_union l0 l1 n n1 n2 _ (by omega), make_union l1 l0 n n1 n2 _ (by omega), make_union l1 l2 n n1 n2 _ (by omega), make_union l0 l0 n n1 n2 _ (by omega), make_union [] l0 n n1 n2 _ (by omega)]
  simp only [Option.bind_some]
  rw [make_union (l0 ++ l1) l2 n n1 n2 _ (by omega), make_union l0 (l1 ++ l2) n n1 n2 _ (by omega)]
  simp only [Option.bind_some, if_true]
  rw [show ((0 : Int) != 0) = false from rfl]
  simp only [Px.cleanselaw05_SketchUnions.j1]
  rw [if_neg (by decide), same_ints (l0 ++ l1) (l0 ++ l1) n n2 (fun _ => Iff.rfl) _ (by omega), same_ints (l0 ++ l1) (l1 ++ l0) n n2 (fun t => by simp [or_comm]) _ (by omega), same_ints (l0 ++ l1 ++ l2) (l0 ++ (l1 ++ l2)) n n2 (fun t => by simp [or_assoc]) _ (by omega),
    same_ints (l0 ++ l0) l0 n n2 (fun t => by simp) _ (by omega), same_ints ([] ++ l0) l0 n n2 (fun t => by simp) _ (by omega)]
  simp
end Go.Proofs.YtiobkccmgigmhaaDoor.Pure
