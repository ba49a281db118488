/- The statement SketchMatchesReference over plain numbers, texts and lists. -/
import Derived.Test.YtiobkccmgigmhaaDoorPx9
import Derived.Test.YtiobkccmgigmhaaDoorPlD
import Derived.Test.YtiobkccmgigmhaaDoorPlF
set_option linter.unusedVariables false
set_option linter.unusedSimpArgs false
namespace Go.Proofs.YtiobkccmgigmhaaDoor.Pure
open Go.RowKit Go.Proofs.YtiobkccmgigmhaaDoorW.PrintWords Go.Proofs.YtiobkccmgigmhaaDoorW.PrintMore
theorem matches_loop (l : List ByteArray) (hf : Pl.fewB l = true) (seed : Int) (mk un : List Int) (me ue ee : Int) (bs : List ByteArray) (be p q : Int) (h1 : mk.length ≤ 100) (h2 : un.length ≤ 100) (h3 : bs.length ≤ 100) :
    ∀ (d i k : Nat), i + d = l.length → d + 1000 < k → Px.cleanselaw05_SketchMatchesReference.l0 k l seed true mk me mk me un ue un ue ee ee bs be bs be (i : Int) p q p q = some true
  | 0, i, k, h, hk => by
    obtain ⟨k, rfl⟩ : ∃ m, k = m + 1 := ⟨k - 1, by omega⟩
    simp only [Px.cleanselaw05_SketchMatchesReference.l0]
    rw [if_neg (by omega)]
    simp only [if_true]
    rw [Pl.ints_spec _ _ (by omega) k (by omega), Pl.ints_spec _ _ (by omega) k (by omega), Pl.strings_spec _ _ (by omega) k (by omega)]
    simp
  | d + 1, i, k, h, hk => by
    obtain ⟨k, rfl⟩ : ∃ m, k = m + 1 := ⟨k - 1, by omega⟩
    have hlen := Pl.fewB_len hf
    have hi : i < l.length := by omega
    have hsz := Pl.fewB_size hf l[i] (List.getElem_mem _)
    simp only [Px.cleanselaw05_SketchMatchesReference.l0]
    rw [if_pos (by omega), if_pos (by omega), Pl.rdOf_at hi, X.sketch_Hash.f, if_pos (by omega), Pl.refHash_spec _ _ (by omega) k (by omega)]
    simp only [Option.bind_some]
    rw [if_pos trivial, Pl.wrap_succ (by omega) (by omega), show ((i : Int) + 1) = ((i + 1 : Nat) : Int) by omega]
    exact matches_loop l hf seed mk un me ue ee bs be p q h1 h2 h3 d (i + 1) k (by omega) (by omega)
theorem SketchMatchesReference : ∀ (l0 : List ByteArray) (a1 : Int) (l2 : List Int) (l3 : List Int) (a4 : Int) (a5 : Int), l0.length ≤ 9223372036854775807 → -9223372036854775808 ≤ a1 → a1 ≤ 9223372036854775807 → l2.length ≤ 9223372036854775807 → (∀ n ∈ l2, -9223372036854775808 ≤ n ∧ n ≤ 9223372036854775807) → l3.length ≤ 9223372036854775807 → (∀ n ∈ l3, -9223372036854775808 ≤ n ∧ n ≤ 9223372036854775807) → -9223372036854775808 ≤ a4 → a4 ≤ 9223372036854775807 → -9223372036854775808 ≤ a5 → a5 ≤ 9223372036854775807 → ∃ k, Px.cleanselaw05_SketchMatchesReference.f k l0 a1 l2 l3 a4 a5 = some true := by
  intro l n a b rows seed hl _ _ ma _ mb _ _ _ _ _
  obtain ⟨k, hK⟩ : ∃ k : Nat, k = 29999 := ⟨_, rfl⟩
  refine ⟨k + 1, ?_⟩
  have hj : ∀ c : Bool, c = true → Px.cleanselaw05_SketchMatchesReference.j0 (k + 1) l n a b rows seed true c = some true := fun c hc => by subst hc; simp [Px.cleanselaw05_SketchMatchesReference.j0]
  unfold Px.cleanselaw05_SketchMatchesReference.f X.cleanselaw05_head.f
  simp only [Option.bind_some]
  rw [Pl.few_spec l _ hl (by omega)]
  simp only [Option.bind_some]
  by_cases hf : Pl.fewB l = true
  case neg => rw [if_neg hf]; exact hj _ rfl
  rw [if_pos hf]
  by_cases ca : (a.length : Int) > 100
  · rw [if_pos ca]; exact hj _ rfl
  rw [if_neg ca]
  by_cases cb : (b.length : Int) > 100
  · exact hj _ (by simpa using cb)
  rw [show decide ((b.length : Int) > 100) = false by simpa using cb]
  clear hj
  have hlen := Pl.fewB_len hf
  obtain ⟨mk, me, h1, h2, hmk⟩ : ∃ mk me, Px.sketch_Make.f k l n = some (mk, me) ∧ Px.cleanseref05_Make.f k l n = some (mk, me) ∧ mk.length ≤ 100 := by
    by_cases c : 1 ≤ n ∧ n ≤ 64
    · obtain ⟨m, rfl⟩ : ∃ m : Nat, n = m := ⟨n.toNat, by omega⟩
      exact ⟨_, _, Pl.make_spec l (Pl.fewB_ok hf) m (by omega) (by omega) _ (by omega), Pl.refMake_spec l hf m (by omega) (by omega) _ (by omega), by rw [Pl.makeZ_length]; omega⟩
    · exact ⟨_, _, Pl.make_bad l n (by omega) _ (by omega), Pl.refMake_bad l n (by omega) _ (by omega), by simp⟩
  obtain ⟨un, ue, h3, h4, hun⟩ : ∃ un ue, Px.sketch_Union.f k a b = some (un, ue) ∧ Px.cleanseref05_Union.f k a b = some (un, ue) ∧ un.length ≤ 100 := by
    by_cases c : X.rightB a = true ∧ X.rightB b = true ∧ a.length = b.length
    · exact ⟨_, _, Pl.union_spec a b c.1 c.2.1 c.2.2 _ (by omega), Pl.refUnion_spec a b c.1 c.2.1 c.2.2 _ (by omega), by rw [Pl.uZ_length _ _ c.2.2]; omega⟩
    · exact ⟨_, _, Pl.union_bad a b c _ (by omega), Pl.refUnion_bad a b ma mb c _ (by omega), by simp⟩
  obtain ⟨p, q, ee, h5, h6⟩ : ∃ p q ee, Px.sketch_Estimate.f k a b = some (p, q, ee) ∧ Px.cleanseref05_Estimate.f k a b = some (p, q, ee) := by
    by_cases c : X.rightB a = true ∧ X.rightB b = true ∧ a.length = b.length
    · exact ⟨_, _, _, Pl.est_spec a b c.1 c.2.1 c.2.2 _ (by omega), Pl.refEst_spec a b c.1 c.2.1 c.2.2 _ (by omega)⟩
    · exact ⟨_, _, _, Pl.est_bad a b c _ (by omega), Pl.refEst_bad a b ma mb c _ (by omega)⟩
  obtain ⟨bs, be, h7, h8, hbs⟩ : ∃ bs be, Px.sketch_Bands.f k a rows = some (bs, be) ∧ Px.cleanseref05_Bands.f k a rows = some (bs, be) ∧ bs.length ≤ 100 := by
    by_cases c : Pl.bandsOk a rows
    · obtain ⟨m, rfl⟩ : ∃ m : Nat, rows = m := ⟨rows.toNat, by have := c.2.1; omega⟩
      refine ⟨_, _, Pl.bands_spec a m c _ (by omega), Pl.refBands_spec a m c _ (by omega), ?_⟩
      unfold Pl.bandsS
      split
      · simp
      · have := Nat.div_le_self a.length m
        simp [Pl.bandsZ]; omega
    · exact ⟨_, _, Pl.bands_bad a rows c _ (by omega), Pl.refBands_bad a ma rows c _ (by omega), by simp⟩
  simp only [Px.cleanselaw05_SketchMatchesReference.j0]
  rw [if_neg (by decide), h1, h2, h3, h4, h5, h6, h7, h8]
  simp only [Option.bind_some]
  rw [show (0 : Int) = ((0 : Nat) : Int) from rfl]
  exact matches_loop l hf seed mk un me ue ee bs be p q hmk hun hbs l.length 0 k (by omega) (by omega)
end Go.Proofs.YtiobkccmgigmhaaDoor.Pure
