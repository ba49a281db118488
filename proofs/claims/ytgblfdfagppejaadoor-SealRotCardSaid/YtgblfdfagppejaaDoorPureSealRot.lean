/- The statement SealRot over plain numbers, texts and lists. -/
import Derived.Test.YtgblfdfagppejaaDoorPx7
import Derived.Test.YtgblfdfagppejaaDoorPlD
set_option linter.unusedVariables false
set_option linter.unusedSimpArgs false
namespace Go.Proofs.YtgblfdfagppejaaDoor.Pure
open Go.RowKit Go.Proofs.YtgblfdfagppejaaDoorW.PrintWords
theorem SealRot : ∀ (a0 : Int) (a1 : Int) (a2 : ByteArray) (a3 : Int) (a4 : Int) (a5 : Int) (a6 : Int), -9223372036854775808 ≤ a0 → a0 ≤ 9223372036854775807 → -9223372036854775808 ≤ a1 → a1 ≤ 9223372036854775807 → a2.size ≤ 140737488351232 → 0 ≤ a3 → a3 ≤ 255 → 0 ≤ a4 → a4 ≤ 255 → 0 ≤ a5 → a5 ≤ 65535 → 0 ≤ a6 → a6 ≤ 65535 → ∃ k, Px.cleanselaw45_SealRot.f k a0 a1 a2 a3 a4 a5 a6 = some true := by
  intro e p b a3 c a5 a6 _ _ _ _ _ h3 h3' hc0 hc1 h5 h5' h6 h6'
  obtain ⟨k, hK⟩ : ∃ k : Nat, k = 999 := ⟨_, rfl⟩
  refine ⟨k + 1, ?_⟩
  unfold Px.cleanselaw45_SealRot.f
  rw [Pl.head_spec _ (by omega), Pl.put_spec _ _ _ _ (by omega)]
  simp only [Option.bind_some, Pl.putZ]
  by_cases hp : Pl.placedB e p = true
  · rw [if_pos hp]
    by_cases hb : b.size ≤ 40
    · rw [if_pos hb, if_pos rfl]
      have hsz := Pl.sealB_size e p b hb
      have hbb := Pl.sealB_bytes e p b
      have hll := Pl.sealL_len e p b hb
      have hget := Pl.get_seal e p e p b hp hb
      rw [if_pos hp, if_pos ⟨rfl, rfl⟩] at hget
      obtain ⟨i, hi⟩ : ∃ i : Nat, Int.tmod (wrap64 a3) 64 = (i : Int) ∧ i < 64 := by
        rw [Pl.wrap_id (by omega) (by omega), Int.tmod_eq_emod_of_nonneg (by omega)]
        exact ⟨(a3 % 64).toNat, by omega, by omega⟩
      obtain ⟨o, ho⟩ : ∃ o : Int, wrap64 a5 = o ∧ 0 ≤ o ∧ o ≤ 65535 := ⟨a5, Pl.wrap_id (by omega) (by omega), h5, h5'⟩
      obtain ⟨q, hq⟩ : ∃ q : Int, Int.tmod (wrap64 a6) 4000 = q ∧ 0 ≤ q ∧ q < 4000 := by
        rw [Pl.wrap_id (by omega) (by omega), Int.tmod_eq_emod_of_nonneg (by omega)]
        exact ⟨a6 % 4000, rfl, by omega, by omega⟩
      have hpl : Pl.placedB o q = true := decide_eq_true ⟨by omega, by omega, by omega, by omega⟩
      have hnone : (Pl.sealL e p b)[i]'(by omega) ≠ c → _ := Pl.rot_none e p b hb i (by omega) c ⟨hc0, by omega⟩
      have hself := Pl.ch_self (Pl.sealB e p b) i (by omega)
      have hstr := Pl.ch_str (Pl.sealB e p b) i (by omega) c ⟨hc0, by omega⟩
      have hbt := Pl.bt_at (Pl.sealB e p b) i (by omega)
      rw [hbb] at hstr
      have hbt' : bt (Pl.sealB e p b) (i : Int) = (Pl.sealL e p b)[i]'(by omega) := by rw [hbt]; simp only [hbb]
      rw [← hbt', ← hstr] at hnone
      clear hbt hbt' hstr hbb
      generalize Pl.sealB e p b = s at *
      simp only [Px.cleanselaw45_SealRot.j0]
      rw [hi.1, ho.1, hq.1, Pl.wrap_id (i := (i : Int) + 1) (by omega) (by omega), show ((s.size : Int) != 64) = false by rw [hsz]; rfl, if_neg (by decide), if_pos (by omega), if_pos (by omega)]
      simp only [Option.bind_some]
      have z1 : (s.extract 0 ((i : Int)).toNat).size = i := by rw [ByteArray.size_extract]; omega
      have z2 : (strOfNums [c]).size = 1 := rfl
      have z3 : (s.extract (((i : Int) + 1)).toNat s.size).size = 64 - (i + 1) := by rw [ByteArray.size_extract]; omega
      have hch : (s.extract 0 ((i : Int)).toNat ++ strOfNums [c]) ++ s.extract (((i : Int) + 1)).toNat s.size = Pl.ch s i c := by
        rw [show ((i : Int) + 1).toNat = i + 1 by omega, Int.toNat_natCast]; rfl
      rw [ByteArray.size_append, z1, z2, z3, if_pos (by omega), if_pos (by omega), if_pos (by omega), if_pos (by omega), hch, Pl.get_spec, Pl.get_spec]
      simp only [Option.bind_some]
      rw [if_pos (by omega)]
      by_cases hx : bt s (i : Int) = c
      · rw [if_pos hx]
        rw [← hx, hself, hget]
        rfl
      · rw [if_neg hx]
        unfold Pl.getZ
        rw [if_pos hp, if_pos hpl, hnone hx]
        rfl
    · rw [if_neg hb, if_neg (by decide)]
      simp [Px.cleanselaw45_SealRot.j0]
  · rw [if_neg hp, if_neg (by decide)]
    simp [Px.cleanselaw45_SealRot.j0]
end Go.Proofs.YtgblfdfagppejaaDoor.Pure
