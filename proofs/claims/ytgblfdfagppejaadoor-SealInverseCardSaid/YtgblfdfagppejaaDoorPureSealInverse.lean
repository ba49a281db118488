/- The statement SealInverse over plain numbers, texts and lists. -/
import Derived.Test.YtgblfdfagppejaaDoorPx6
import Derived.Test.YtgblfdfagppejaaDoorPlC
set_option linter.unusedVariables false
set_option linter.unusedSimpArgs false
namespace Go.Proofs.YtgblfdfagppejaaDoor.Pure
open Go.RowKit
theorem SealInverse : ∀ (a0 : Int) (a1 : Int) (a2 : ByteArray) (a3 : Int) (a4 : Int), -9223372036854775808 ≤ a0 → a0 ≤ 9223372036854775807 → -9223372036854775808 ≤ a1 → a1 ≤ 9223372036854775807 → a2.size ≤ 140737488351232 → -9223372036854775808 ≤ a3 → a3 ≤ 9223372036854775807 → -9223372036854775808 ≤ a4 → a4 ≤ 9223372036854775807 → ∃ k, Px.cleanselaw45_SealInverse.f k a0 a1 a2 a3 a4 = some true := by
  intro e p b x y _ _ _ _ _ _ _ _ _
  obtain ⟨k, hK⟩ : ∃ k : Nat, k = 999 := ⟨_, rfl⟩
  refine ⟨k + 1, ?_⟩
  unfold Px.cleanselaw45_SealInverse.f
  rw [Pl.head_spec _ (by omega), Pl.put_spec _ _ _ _ (by omega)]
  simp only [Option.bind_some, Pl.putZ]
  by_cases hp : Pl.placedB e p = true
  · rw [if_pos hp]
    by_cases hb : b.size ≤ 40
    · rw [if_pos hb, if_pos rfl, Pl.get_spec, Pl.get_spec, Pl.get_seal _ _ _ _ _ hp hb, Pl.get_seal _ _ _ _ _ hp hb, if_pos hp, if_pos ⟨rfl, rfl⟩]
      simp only [Option.bind_some]
      rw [Pl.sealB_size e p b hb, if_pos (by omega), if_pos trivial, Pl.tl_bne, decide_eq_false (by simp)]
      simp only [Px.cleanselaw45_SealInverse.j0]
      rw [if_neg (by decide)]
      obtain ⟨k, rfl⟩ : ∃ m, k = m + 1 := ⟨k - 1, by omega⟩
      by_cases hq : Pl.placedB x y = true
      · have hq' := of_decide_eq_true hq
        rw [if_pos hq, if_neg (by omega), if_neg (by omega), if_neg (by omega), decide_eq_false (by omega)]
        simp only [Px.cleanselaw45_SealInverse.j1]
        rw [if_neg (by decide)]
        by_cases h1 : x = e
        · by_cases h2 : y = p
          · subst h1 h2
            simp [Pl.tl_beq]
          · rw [if_pos h1, if_neg h2, if_neg (show ¬ (e = x ∧ p = y) from fun h => h2 h.2.symm)]
            simp [Pl.empty_list]
        · rw [if_neg h1, if_neg (show ¬ (e = x ∧ p = y) from fun h => h1 h.1.symm)]
          simp [Pl.empty_list]
      · rw [if_neg hq]
        have hq' : ¬ (0 ≤ x ∧ x ≤ 1000000000 ∧ 0 ≤ y ∧ y < 4000) := fun h => hq (decide_eq_true h)
        have hj : ∀ c : Bool, c = true → Px.cleanselaw45_SealInverse.j1 (k + 1) e p b x y true ⟨#[]⟩ 1 c = some true := by
          rintro c rfl
          simp only [Px.cleanselaw45_SealInverse.j1]
          simp [Pl.empty_list]
        by_cases h1 : x < 0
        · rw [if_pos h1]; exact hj _ rfl
        · rw [if_neg h1]
          by_cases h2 : x > 1000000000
          · rw [if_pos h2]; exact hj _ rfl
          · rw [if_neg h2]
            by_cases h3 : y < 0
            · rw [if_pos h3]; exact hj _ rfl
            · rw [if_neg h3]; exact hj _ (decide_eq_true (by omega))
    · rw [if_neg hb, if_neg (by decide), if_pos trivial]
      have hp' := of_decide_eq_true hp
      rw [if_pos (by rw [ByteArray.toList_eq]), if_neg (by omega), if_neg (by omega), if_neg (by omega), if_neg (by omega), decide_eq_true (by omega)]
  · rw [if_neg hp, if_neg (by decide), if_pos trivial, if_pos (by rw [ByteArray.toList_eq])]
    have hp' : ¬ (0 ≤ e ∧ e ≤ 1000000000 ∧ 0 ≤ p ∧ p < 4000) := fun h => hp (decide_eq_true h)
    by_cases h1 : e < 0
    · rw [if_pos h1]
    · rw [if_neg h1]
      by_cases h2 : e > 1000000000
      · rw [if_pos h2]
      · rw [if_neg h2]
        by_cases h3 : p < 0
        · rw [if_pos h3]
        · rw [if_neg h3, if_pos (by omega)]
end Go.Proofs.YtgblfdfagppejaaDoor.Pure
