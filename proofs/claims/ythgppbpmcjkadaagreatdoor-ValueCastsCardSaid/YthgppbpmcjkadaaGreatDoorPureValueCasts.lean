/- The statement ValueCasts over plain numbers, texts and lists. -/
import Derived.Test.YthgppbpmcjkadaaGreatDoorXn3
set_option linter.unusedVariables false
namespace Go.Proofs.YthgppbpmcjkadaaGreatDoor.Pure
open Go.RowKit
theorem ValueCasts : ∀ (a0_0 : Int) (a0_1 : Int) (a0_2 : ByteArray) (a1 : Int), -9223372036854775808 ≤ a0_0 → a0_0 ≤ 9223372036854775807 → -9223372036854775808 ≤ a0_1 → a0_1 ≤ 9223372036854775807 → a0_2.size ≤ 9223372036854775807 → -9223372036854775808 ≤ a1 → a1 ≤ 9223372036854775807 → Xn.cleanselaw02_ValueCasts.f a0_0 a0_1 a0_2 a1 = some true := by
  intros
  rfl
end Go.Proofs.YthgppbpmcjkadaaGreatDoor.Pure
