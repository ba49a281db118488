/- The statement SealOnly over plain numbers, texts and lists. -/
import Derived.Test.YtgblfdfagppejaaDoorPx8
import Derived.Test.YtgblfdfagppejaaDoorPlC
set_option linter.unusedVariables false
set_option linter.unusedSimpArgs false
namespace Go.Proofs.YtgblfdfagppejaaDoor.Pure
open Go.RowKit
theorem nil_toList : (⟨#[]⟩ : ByteArray).toList = ([] : List UInt8) := by rw [ByteArray.toList_eq]
theorem SealOnly : ∀ (a0 : Int) (a1 : Int) (a2 : ByteArray) (a3 : Int) (a4 : Int), -9223372036854775808 ≤ a0 → a0 ≤ 9223372036854775807 → -9223372036854775808 ≤ a1 → a1 ≤ 9223372036854775807 → a2.size ≤ 140737488351232 → -9223372036854775808 ≤ a3 → a3 ≤ 9223372036854775807 → -9223372036854775808 ≤ a4 → a4 ≤ 9223372036854775807 → ∃ k, Px.cleanselaw45_SealOnly.f k a0 a1 a2 a3 a4 = some true := by
  intro e p s x y _ _ _ _ _ _ _ _ _
  obtain ⟨k, hK⟩ : ∃ k : Nat, k = 999 := ⟨_, rfl⟩
  refine ⟨k, ?_⟩
  unfold Px.cleanselaw45_SealOnly.f
  rw [Pl.head_spec _ (by omega)]
  simp only [Option.bind_some]
  by_cases hs : (s.size : Int) > 200
  · rw [if_pos hs]
  rw [if_neg hs, Pl.get_spec, Pl.get_spec]
  simp only [Option.bind_some]
  unfold Pl.getZ
  by_cases hp : Pl.placedB e p = true
  · rw [if_pos hp]
    cases ho : Pl.openZ s with
    | none =>
      by_cases hq : Pl.placedB x y = true
      · rw [if_pos hq]; simp [nil_toList]
      · rw [if_neg hq]; simp [nil_toList]
    | some t =>
      obtain ⟨u, v, b⟩ := t
      obtain ⟨h1, h2, h3⟩ := Pl.open_some ho
      simp only
      by_cases he : u = e ∧ v = p
      · obtain ⟨rfl, rfl⟩ := he
        simp only [and_self, if_true]
        rw [Pl.put_spec _ _ _ _ (by omega)]
        simp only [Option.bind_some, Pl.putZ]
        rw [if_pos hp, if_pos h2, h3]
        by_cases hq : Pl.placedB x y = true
        · rw [if_pos hq]
          by_cases hxy : u = x ∧ v = y
          · obtain ⟨rfl, rfl⟩ := hxy
            simp
          · rw [if_neg hxy]; simp
        · rw [if_neg hq]; simp
      · rw [if_neg he]
        by_cases hq : Pl.placedB x y = true
        · rw [if_pos hq]
          by_cases hxy : u = x ∧ v = y
          · rw [if_pos hxy]; simp [nil_toList]
          · rw [if_neg hxy]; simp [nil_toList]
        · rw [if_neg hq]; simp [nil_toList]
  · rw [if_neg hp]; simp [nil_toList]
end Go.Proofs.YtgblfdfagppejaaDoor.Pure
