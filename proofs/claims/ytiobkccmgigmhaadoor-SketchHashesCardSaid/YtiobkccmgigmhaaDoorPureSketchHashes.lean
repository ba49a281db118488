/- The statement SketchHashes over plain numbers and texts. -/
import Derived.Test.YtiobkccmgigmhaaDoorPx13
set_option linter.unusedVariables false
namespace Go.Proofs.YtiobkccmgigmhaaDoor.Pure
open Go.RowKit
theorem hsh_bd (l : List UInt8) (s : Int) : 0 ≤ X.hsh l s ∧ X.hsh l s < 2147483647 := by unfold X.hsh; omega
theorem hsh_seed (l : List UInt8) (s : Int) : X.hsh l (s - 2147483647) = X.hsh l s := by
  have h : (s - 2147483647) % 2147483647 = s % 2147483647 := by omega
  unfold X.hsh X.hrun X.hfac
  rw [h]
theorem SketchHashes : ∀ (a0 : ByteArray) (a1 : Int), a0.size ≤ 140737488351232 → -9223372036854775808 ≤ a1 → a1 ≤ 9223372036854775807 → ∃ k, Px.cleanselaw05_SketchHashes.f k a0 a1 = some true := by
  intro a0 a1 hs h0 h1
  refine ⟨1, ?_⟩
  unfold Px.cleanselaw05_SketchHashes.f X.cleanselaw05_head.f
  simp only [Option.bind_some]
  by_cases hz : (a0.size : Int) > 500
  · rw [if_pos hz]; simp [Px.cleanselaw05_SketchHashes.j0]
  · rw [if_neg hz]
    by_cases ha : a1 < -1000000000000
    · simp [Px.cleanselaw05_SketchHashes.j0, ha]
    · have hw : wrap64 (a1 - 2147483647) = a1 - 2147483647 := by unfold wrap64; omega
      have hb := hsh_bd a0.data.toList a1
      have hf : ∀ s, X.sketch_Hash.f a0 s = some (X.hsh a0.data.toList s) := fun s => by unfold X.sketch_Hash.f; rw [if_pos (by omega)]
      simp only [Px.cleanselaw05_SketchHashes.j0]
      rw [if_neg (by simpa using ha), hf]
      simp only [Option.bind_some, if_true]
      rw [if_pos hb.1, if_pos hb.2, hw, hf, hsh_seed]
      simp
end Go.Proofs.YtiobkccmgigmhaaDoor.Pure
