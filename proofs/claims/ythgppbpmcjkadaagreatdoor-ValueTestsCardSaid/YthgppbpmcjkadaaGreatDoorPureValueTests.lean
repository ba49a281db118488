/- The statement ValueTests over plain numbers, texts and lists. -/
import Derived.Test.YthgppbpmcjkadaaGreatDoorPx10
import Derived.Test.YthgppbpmcjkadaaGreatDoorPlE
set_option linter.unusedVariables false
set_option linter.unusedSimpArgs false
namespace Go.Proofs.YthgppbpmcjkadaaGreatDoor.Pure
open Go.RowKit Go.Proofs.YthgppbpmcjkadaaGreatDoor.X Go.Proofs.YthgppbpmcjkadaaGreatDoorW.PrintWords Go.Proofs.YthgppbpmcjkadaaGreatDoorW.PrintMore
theorem ValueTests : ∀ (a0_0 : Int) (a0_1 : Int) (a0_2 : ByteArray) (a1_0 : Int) (a1_1 : Int) (a1_2 : ByteArray), -9223372036854775808 ≤ a0_0 → a0_0 ≤ 9223372036854775807 → -9223372036854775808 ≤ a0_1 → a0_1 ≤ 9223372036854775807 → a0_2.size ≤ 9223372036854775807 → -9223372036854775808 ≤ a1_0 → a1_0 ≤ 9223372036854775807 → -9223372036854775808 ≤ a1_1 → a1_1 ≤ 9223372036854775807 → a1_2.size ≤ 9223372036854775807 → ∃ k, Px.cleanselaw02_ValueTests.f k a0_0 a0_1 a0_2 a1_0 a1_1 a1_2 = some true := by
  intro a0 b0 c0 a1 b1 c1 _ _ _ _ _ _ _ _ _ _
  refine ⟨10, ?_⟩
  unfold Px.cleanselaw02_ValueTests.f
  rw [show X.cleanselaw02_head.f = some true from rfl]
  simp only [Option.bind_some]
  rw [short_f _ (by simp) 10 (by simp)]
  simp only [Option.bind_some]
  have hj : Px.cleanselaw02_ValueTests.j0 10 true true a0 b0 c0 a1 b1 c1 = some true := by simp only [Px.cleanselaw02_ValueTests.j0]; rw [if_pos trivial]
  by_cases hs : shortB [⟨a0, b0, c0⟩, ⟨a1, b1, c1⟩] = true
  case neg => rw [if_neg hs]; exact hj
  rw [if_pos hs, valid_f 9 a0 b0 c0]
  simp only [Option.bind_some]
  by_cases h1 : validZ a0 b0 c0.data.toList = true
  case neg => rw [if_neg h1]; exact hj
  rw [if_pos h1, valid_f 9 a1 b1 c1]
  simp only [Option.bind_some]
  by_cases h2 : validZ a1 b1 c1.data.toList = true
  case neg => rw [if_neg h2]; exact hj
  rw [if_pos h2]
  by_cases h3 : a0 = a1
  case neg => rw [if_neg h3]; exact hj
  rw [if_pos h3]
  simp only [Px.cleanselaw02_ValueTests.j0]
  by_cases h4 : a0 = 0
  · rw [if_pos (by rw [h4]; rfl)]
  rw [if_neg (by simpa using h4)]
  have v1 := valid_iff.1 h1
  have v2 := valid_iff.1 h2
  have ht : ∀ op : Int, X.value_Test.f a0 b0 c0 op a1 b1 c1 0 = some (opB op (cmpV (a0, b0, c0.data.toList) (a1, b1, c1.data.toList))) := fun op => by
    unfold X.value_Test.f testZ
    rw [if_pos ⟨v1, v2, h3⟩]
    by_cases h5 : a0 = 2 ∨ a0 = 3
    · rw [if_pos h5]
      have e1 : c0.data.toList = [] := by unfold ValidP at v1; rcases h5 with h5 | h5 <;> simp [h5] at v1 <;> simp [v1]
      have e2 : c1.data.toList = [] := by unfold ValidP at v2; rw [← h3] at v2; rcases h5 with h5 | h5 <;> simp [h5] at v2 <;> simp [v2]
      congr 2
      rw [e1, e2, ← h3]
      unfold cmpV lex
      simp only
      rw [if_pos ((ord_int.zero a0 a0).2 rfl)]
      have e3 : ordT [] [] = 0 := by decide
      rw [e3]
      unfold ordI
      (repeat' split) <;> omega
    · rw [if_neg h5, if_pos, if_pos rfl, cmp_v]
      unfold ValidP at v1
      omega
  simp only [compare_f, Option.bind_some, cmp_v, ht]
  generalize cmpV (a0, b0, c0.data.toList) (a1, b1, c1.data.toList) = x at *
  have o3 : opB 3 x = decide (x < 0) := rfl
  have o1 : opB 1 x = (x == 0) := rfl
  have o2 : opB 2 x = (x != 0) := rfl
  have o4 : opB 4 x = decide (x ≤ 0) := rfl
  rw [o3, o1, o2, o4]
  simp
end Go.Proofs.YthgppbpmcjkadaaGreatDoor.Pure
