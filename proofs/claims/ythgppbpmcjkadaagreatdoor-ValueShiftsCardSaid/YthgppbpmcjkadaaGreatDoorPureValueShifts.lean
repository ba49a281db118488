/- The statement ValueShifts over plain numbers, texts and lists. -/
import Derived.Test.YthgppbpmcjkadaaGreatDoorXn2
set_option linter.unusedVariables false
namespace Go.Proofs.YthgppbpmcjkadaaGreatDoor.Pure
open Go.RowKit
theorem ValueShifts : ∀ (a0 : Int) (a1 : Int) (a2 : Int) (a3 : Int) (a4 : Int), -9223372036854775808 ≤ a0 → a0 ≤ 9223372036854775807 → -9223372036854775808 ≤ a1 → a1 ≤ 9223372036854775807 → -9223372036854775808 ≤ a2 → a2 ≤ 9223372036854775807 → -9223372036854775808 ≤ a3 → a3 ≤ 9223372036854775807 → -9223372036854775808 ≤ a4 → a4 ≤ 9223372036854775807 → Xn.cleanselaw02_ValueShifts.f a0 a1 a2 a3 a4 = some true := by
  intros
  rfl
end Go.Proofs.YthgppbpmcjkadaaGreatDoor.Pure
