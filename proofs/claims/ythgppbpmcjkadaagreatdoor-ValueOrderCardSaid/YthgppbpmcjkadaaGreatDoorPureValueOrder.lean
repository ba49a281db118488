/- The statement ValueOrder over plain numbers, texts and lists. -/
import Derived.Test.YthgppbpmcjkadaaGreatDoorPx7
import Derived.Test.YthgppbpmcjkadaaGreatDoorPlE
set_option linter.unusedVariables false
set_option linter.unusedSimpArgs false
namespace Go.Proofs.YthgppbpmcjkadaaGreatDoor.Pure
open Go.RowKit Go.Proofs.YthgppbpmcjkadaaGreatDoor.X Go.Proofs.YthgppbpmcjkadaaGreatDoorW.PrintWords Go.Proofs.YthgppbpmcjkadaaGreatDoorW.PrintMore
theorem ValueOrder : ∀ (a0_0 : Int) (a0_1 : Int) (a0_2 : ByteArray) (a1_0 : Int) (a1_1 : Int) (a1_2 : ByteArray) (a2_0 : Int) (a2_1 : Int) (a2_2 : ByteArray), -9223372036854775808 ≤ a0_0 → a0_0 ≤ 9223372036854775807 → -9223372036854775808 ≤ a0_1 → a0_1 ≤ 9223372036854775807 → a0_2.size ≤ 9223372036854775807 → -9223372036854775808 ≤ a1_0 → a1_0 ≤ 9223372036854775807 → -9223372036854775808 ≤ a1_1 → a1_1 ≤ 9223372036854775807 → a1_2.size ≤ 9223372036854775807 → -9223372036854775808 ≤ a2_0 → a2_0 ≤ 9223372036854775807 → -9223372036854775808 ≤ a2_1 → a2_1 ≤ 9223372036854775807 → a2_2.size ≤ 9223372036854775807 → ∃ k, Px.cleanselaw02_ValueOrder.f k a0_0 a0_1 a0_2 a1_0 a1_1 a1_2 a2_0 a2_1 a2_2 = some true := by
  intro a0 b0 c0 a1 b1 c1 a2 b2 c2 _ _ _ _ _ _ _ _ _ _ _ _ _ _ _
  refine ⟨10, ?_⟩
  unfold Px.cleanselaw02_ValueOrder.f
  rw [show X.cleanselaw02_head.f = some true from rfl]
  simp only [Option.bind_some]
  rw [short_f _ (by simp) 10 (by simp)]
  simp only [Option.bind_some]
  by_cases hs : shortB [⟨a0, b0, c0⟩, ⟨a1, b1, c1⟩, ⟨a2, b2, c2⟩] = true
  case neg => rw [if_neg hs]
  rw [if_pos hs]
  simp only [compare_f, Option.bind_some, cmp_v]
  have V := ord_val
  have l1 := V.lo (a0, b0, c0.data.toList) (a1, b1, c1.data.toList)
  have l2 := V.hi (a0, b0, c0.data.toList) (a1, b1, c1.data.toList)
  have l3 := V.zero (a0, b0, c0.data.toList) (a1, b1, c1.data.toList)
  have l4 := V.anti (a0, b0, c0.data.toList) (a1, b1, c1.data.toList)
  have l5 := V.trans (a0, b0, c0.data.toList) (a1, b1, c1.data.toList) (a2, b2, c2.data.toList)
  rw [l4]
  generalize cmpV (a0, b0, c0.data.toList) (a1, b1, c1.data.toList) = x at *
  rw [if_neg (by omega), if_neg (by omega)]
  have e : ((x == 0) != (a0 == a1 && (b0 == b1 && (c0.toList == c1.toList)))) = false := by
    rw [ByteArray.toList_eq, ByteArray.toList_eq]
    have : (x == 0) = (a0 == a1 && (b0 == b1 && (c0.data.toList == c1.data.toList))) := by
      rw [Bool.eq_iff_iff]
      simp [l3]
    rw [this]; simp
  rw [if_neg (by rw [e]; simp), show wrap64 (-x) = -x by unfold wrap64; omega]
  rw [show (-x != -x) = false by simp]
  simp only [Px.cleanselaw02_ValueOrder.j0]
  rw [if_neg (by simp), if_pos trivial]
  by_cases h1 : x > 0
  · rw [if_pos h1]
  rw [if_neg h1]
  simp only [compare_f, Option.bind_some, cmp_v]
  by_cases h2 : cmpV (a1, b1, c1.data.toList) (a2, b2, c2.data.toList) > 0
  · rw [if_pos h2]
  rw [if_neg h2, decide_eq_true (l5 (by omega) (by omega))]
end Go.Proofs.YthgppbpmcjkadaaGreatDoor.Pure
