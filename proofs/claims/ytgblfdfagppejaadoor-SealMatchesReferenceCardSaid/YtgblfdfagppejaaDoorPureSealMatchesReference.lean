/- The statement SealMatchesReference over plain numbers, texts and lists. -/
import Derived.Test.YtgblfdfagppejaaDoorPx5
import Derived.Test.YtgblfdfagppejaaDoorPlG
set_option linter.unusedVariables false
namespace Go.Proofs.YtgblfdfagppejaaDoor.Pure
open Go.RowKit Go.Proofs.YtgblfdfagppejaaDoor.Pl
theorem SealMatchesReference : ∀ (a0 : Int) (a1 : Int) (a2 : ByteArray) (a3 : ByteArray) (a4 : ByteArray) (l5 : List ByteArray), -9223372036854775808 ≤ a0 → a0 ≤ 9223372036854775807 → -9223372036854775808 ≤ a1 → a1 ≤ 9223372036854775807 → a2.size ≤ 140737488351232 → a3.size ≤ 140737488351232 → a4.size ≤ 140737488351232 → l5.length ≤ 9223372036854775807 → ∃ k, Px.cleanselaw45_SealMatchesReference.f k a0 a1 a2 a3 a4 l5 = some true := by
  intro e p body sector text l _ _ _ _ _ _ _ hl
  obtain ⟨k, hK⟩ : ∃ k : Nat, k = l.length + 5000000 := ⟨_, rfl⟩
  have j0t : ∀ m, 0 < m → Px.cleanselaw45_SealMatchesReference.j0 m e p body sector text l true true = some true := by
    intro m hm
    obtain ⟨m, rfl⟩ : ∃ n, m = n + 1 := ⟨m - 1, by omega⟩
    simp only [Px.cleanselaw45_SealMatchesReference.j0]
    rw [if_pos trivial]
  refine ⟨k, ?_⟩
  unfold Px.cleanselaw45_SealMatchesReference.f
  rw [head_spec k (by omega)]
  simp only [Option.bind_some]
  by_cases c1 : (body.size : Int) > 200
  · rw [if_pos c1]; exact j0t k (by omega)
  by_cases c2 : (sector.size : Int) > 200
  · rw [if_neg c1, if_pos c2]; exact j0t k (by omega)
  by_cases c3 : (text.size : Int) > 2000
  · rw [if_neg c1, if_neg c2, if_pos c3]; exact j0t k (by omega)
  rw [if_neg c1, if_neg c2, if_neg c3]
  obtain ⟨r, hr, hr2⟩ := bytes_spec l hl k (by omega)
  rw [hr]
  simp only [Option.bind_some]
  cases r with
  | false => exact j0t k (by omega)
  | true =>
    obtain ⟨h1, h2⟩ := hr2 rfl
    have hc := cat_bound l h2
    obtain ⟨k, rfl⟩ : ∃ m, k = m + 1 := ⟨k - 1, by omega⟩
    have hsl := X.split_len text (by omega)
    simp only [Px.cleanselaw45_SealMatchesReference.j0, Bool.not_true]
    rw [if_neg (by simp), put_spec _ _ _ k (by omega), refPut_spec _ _ _ k (by omega), get_spec, refGet_spec _ _ _ k (by omega), join_spec l (by omega) (by omega) k (by omega), refJoin_spec l (by omega) (by omega) k (by omega)]
    simp only [Option.bind_some]
    rw [if_pos trivial, if_pos trivial, if_pos trivial, if_pos trivial, if_pos trivial, if_pos trivial, if_pos trivial, sum_spec text (by omega) k (by omega), refSum_spec text (by omega) k (by omega)]
    simp only [Option.bind_some]
    unfold X.seal_Split.f
    rw [if_pos trivial, if_pos (by omega), refSplit_spec text (by omega) k (by omega)]
    simp only [Option.bind_some]
    rw [same_spec _ _ (by omega) k (by omega)]
    simp
end Go.Proofs.YtgblfdfagppejaaDoor.Pure
