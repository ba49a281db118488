/- The statement SketchEstimates over plain numbers, texts and lists. -/
import Derived.Test.YtiobkccmgigmhaaDoorX4
set_option linter.unusedVariables false
namespace Go.Proofs.YtiobkccmgigmhaaDoor.Pure
open Go.RowKit
theorem SketchEstimates : ∀ (l0 : List Int) (l1 : List Int), l0.length ≤ 9223372036854775807 → (∀ n ∈ l0, -9223372036854775808 ≤ n ∧ n ≤ 9223372036854775807) → l1.length ≤ 9223372036854775807 → (∀ n ∈ l1, -9223372036854775808 ≤ n ∧ n ≤ 9223372036854775807) → X.cleanselaw05_SketchEstimates.f l0 l1 = some true := by
  exact fun _ _ _ _ _ _ => rfl
end Go.Proofs.YtiobkccmgigmhaaDoor.Pure
