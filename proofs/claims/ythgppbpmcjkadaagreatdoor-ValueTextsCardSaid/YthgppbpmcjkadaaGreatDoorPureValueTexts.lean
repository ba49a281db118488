/- The statement ValueTexts over plain numbers, texts and lists. -/
import Derived.Test.YthgppbpmcjkadaaGreatDoorXn4
set_option linter.unusedVariables false
namespace Go.Proofs.YthgppbpmcjkadaaGreatDoor.Pure
open Go.RowKit
theorem ValueTexts : ∀ (a0_0 : Int) (a0_1 : Int) (a0_2 : ByteArray) (a1_0 : Int) (a1_1 : Int) (a1_2 : ByteArray) (a2 : ByteArray), -9223372036854775808 ≤ a0_0 → a0_0 ≤ 9223372036854775807 → -9223372036854775808 ≤ a0_1 → a0_1 ≤ 9223372036854775807 → a0_2.size ≤ 9223372036854775807 → -9223372036854775808 ≤ a1_0 → a1_0 ≤ 9223372036854775807 → -9223372036854775808 ≤ a1_1 → a1_1 ≤ 9223372036854775807 → a1_2.size ≤ 9223372036854775807 → a2.size ≤ 140737488351232 → Xn.cleanselaw02_ValueTexts.f a0_0 a0_1 a0_2 a1_0 a1_1 a1_2 a2 = some true := by
  intros
  rfl
end Go.Proofs.YthgppbpmcjkadaaGreatDoor.Pure
