/- The statement SealSums over plain numbers, texts and lists. -/
import Derived.Test.YtgblfdfagppejaaDoorPx9
import Derived.Test.YtgblfdfagppejaaDoorPlD
set_option linter.unusedVariables false
set_option linter.unusedSimpArgs false
namespace Go.Proofs.YtgblfdfagppejaaDoor.Pure
open Go.RowKit Go.Proofs.YtgblfdfagppejaaDoorW.PrintWords
/-- What is left behind the loop. -/
theorem sums_end (a b o : ByteArray) (x y : Int) (n : Nat) (i : Int) (k : Nat) (hk : b.size + 1 < k) (hb : b.size ≤ 2000) (hx : 0 ≤ x ∧ x < 2147483647) (hxy : ((x == y) == (a.toList == o.toList)) = true) (hn : n = 1 → x ≠ Pl.sumL (bytesOf b)) :
    Px.cleanselaw45_SealSums.j2 k a b true o x y (n : Int) i false = some true := by
  obtain ⟨k, rfl⟩ : ∃ m, k = m + 1 := ⟨k - 1, by omega⟩
  simp only [Px.cleanselaw45_SealSums.j2]
  rw [if_neg (by decide), if_pos trivial, if_pos (by omega), if_pos (by omega), if_pos hxy]
  by_cases h1 : n = 1
  · rw [if_pos (by omega), Pl.sum_spec b (by omega) k (by omega)]
    simp only [Option.bind_some]
    rw [bne_iff_ne.2 (hn h1)]
  · rw [if_neg (by omega)]
theorem sums_loop (a b o : ByteArray) (x y : Int) (ha : a.size ≤ 2000) (hs : a.size = b.size) (hx : 0 ≤ x ∧ x < 2147483647) (hxy : ((x == y) == (a.toList == o.toList)) = true) (D : Nat) (hn : D = 1 → x ≠ Pl.sumL (bytesOf b)) :
    ∀ (d i n k : Nat), i + d = a.size → d * 2 + 3000 < k → n ≤ i → n + Pl.diffs ((bytesOf a).drop i) ((bytesOf b).drop i) = D → Px.cleanselaw45_SealSums.l0 k a b true o x y (n : Int) (i : Int) = some true
  | 0, i, n, k, h, hk, hni, hd => by
    obtain ⟨k, rfl⟩ : ∃ m, k = m + 1 := ⟨k - 1, by omega⟩
    simp only [Px.cleanselaw45_SealSums.l0]
    rw [List.drop_of_length_le (by rw [Pl.bytes_len]; omega)] at hd
    have e : n = D := by simpa [Pl.diffs] using hd
    rw [if_neg (by omega)]
    exact sums_end a b o x y n _ k (by omega) (by omega) hx hxy (fun h => hn (by omega))
  | d + 1, i, n, k, h, hk, hni, hd => by
    obtain ⟨k, rfl⟩ : ∃ m, k = m + 1 + 1 := ⟨k - 2, by omega⟩
    have hi : i < (bytesOf a).length := by rw [Pl.bytes_len]; omega
    have hi2 : i < (bytesOf b).length := by rw [Pl.bytes_len]; omega
    simp only [Px.cleanselaw45_SealSums.l0]
    rw [if_pos (by omega)]
    simp only [Px.cleanselaw45_SealSums.j2]
    rw [if_pos (by rw [beq_iff_eq]; omega), if_pos (by omega), if_pos (by omega), if_pos (by omega), Pl.bt_at a i (by omega), Pl.bt_at b i (by omega), Pl.wrap_id (i := (i : Int) + 1) (by omega) (by omega), Pl.wrap_id (i := (n : Int) + 1) (by omega) (by omega)]
    rw [List.drop_eq_getElem_cons hi, List.drop_eq_getElem_cons hi2, Pl.diffs] at hd
    by_cases c : (bytesOf a)[i] = (bytesOf b)[i]
    · rw [if_pos c] at hd ⊢
      exact sums_loop a b o x y ha hs hx hxy D hn d (i + 1) n k (by omega) (by omega) (by omega) (by omega)
    · rw [if_neg c] at hd ⊢
      exact sums_loop a b o x y ha hs hx hxy D hn d (i + 1) (n + 1) k (by omega) (by omega) (by omega) (by omega)
theorem SealSums : ∀ (a0 : ByteArray) (a1 : ByteArray) (a2 : Int) (a3 : Int), a0.size ≤ 140737488351232 → a1.size ≤ 140737488351232 → 0 ≤ a2 → a2 ≤ 65535 → 0 ≤ a3 → a3 ≤ 255 → ∃ k, Px.cleanselaw45_SealSums.f k a0 a1 a2 a3 = some true := by
  intro a b w c _ _ hw0 hw1 hc0 hc1
  obtain ⟨k, hK⟩ : ∃ k : Nat, k = 9999 := ⟨_, rfl⟩
  refine ⟨k + 1, ?_⟩
  have h0 : Px.cleanselaw45_SealSums.j0 (k + 1) a b w c true true = some true := by simp [Px.cleanselaw45_SealSums.j0]
  unfold Px.cleanselaw45_SealSums.f
  rw [Pl.head_spec _ (by omega)]
  simp only [Option.bind_some]
  by_cases ha : (a.size : Int) > 2000
  · rw [if_pos ha]; exact h0
  rw [if_neg ha]
  by_cases hb : (b.size : Int) > 2000
  · rw [if_pos hb]; exact h0
  rw [if_neg hb]
  by_cases hz : a.size = 0
  · rw [show ((a.size : Int) == 0) = true by rw [beq_iff_eq]; omega]; exact h0
  rw [show ((a.size : Int) == 0) = false from beq_eq_false_iff_ne.2 (by omega)]
  clear h0
  obtain ⟨i, hi⟩ : ∃ i : Nat, Int.tmod (wrap64 w) (a.size : Int) = (i : Int) ∧ i < a.size := by
    rw [Pl.wrap_id (by omega) (by omega), Int.tmod_eq_emod_of_nonneg (by omega)]
    have h1 := Int.emod_nonneg w (show (a.size : Int) ≠ 0 by omega)
    have h2 := Int.emod_lt_of_pos w (show (0 : Int) < (a.size : Int) by omega)
    exact ⟨(w % (a.size : Int)).toNat, by omega, by omega⟩
  simp only [Px.cleanselaw45_SealSums.j0]
  have z1 : (a.extract 0 ((i : Int)).toNat).size = i := by rw [ByteArray.size_extract]; omega
  have z2 : (strOfNums [c]).size = 1 := rfl
  have z3 : (a.extract (((i : Int) + 1)).toNat a.size).size = a.size - (i + 1) := by rw [ByteArray.size_extract]; omega
  have hch : (a.extract 0 ((i : Int)).toNat ++ strOfNums [c]) ++ a.extract (((i : Int) + 1)).toNat a.size = Pl.ch a i c := by
    rw [show ((i : Int) + 1).toNat = i + 1 by omega, Int.toNat_natCast]; rfl
  have hcb := Pl.ch_bytes a i hi.2 c ⟨hc0, by omega⟩
  have hcs : (Pl.ch a i c).size = a.size := by rw [← Pl.bytes_len, hcb, List.length_set, Pl.bytes_len]
  rw [if_neg (by decide), if_neg (by omega), hi.1, Pl.wrap_id (i := (i : Int) + 1) (by omega) (by omega), if_pos (by omega), if_pos (by omega)]
  simp only [Option.bind_some]
  rw [ByteArray.size_append, z1, z2, z3, if_pos (by omega), if_pos (by omega), if_pos (by omega), if_pos (by omega), hch, Pl.sum_spec a (by omega) k (by omega), Pl.sum_spec _ (by omega) k (by omega)]
  simp only [Option.bind_some]
  have hx := Pl.sumL_bd (bytesOf a)
  have hia : i < (bytesOf a).length := by rw [Pl.bytes_len]; exact hi.2
  have hxy : ((Pl.sumL (bytesOf a) == Pl.sumL (bytesOf (Pl.ch a i c))) == (a.toList == (Pl.ch a i c).toList)) = true := by
    rw [Pl.tl_beq, hcb]
    by_cases h : (bytesOf a)[i] = c
    · have e : Pl.ch a i c = a := by rw [← h, ← Pl.bt_at a i hi.2]; exact Pl.ch_self a i hi.2
      rw [← hcb, e]; simp
    · have e1 : Pl.sumL (bytesOf a) ≠ Pl.sumL ((bytesOf a).set i c) := fun e => h (Pl.sum_set (bytesOf a) (Pl.bytes_byte a) i hia c ⟨hc0, by omega⟩ e.symm)
      have e2 : a ≠ Pl.ch a i c := fun e => e1 (by rw [← hcb, ← e])
      rw [beq_eq_false_iff_ne.2 e1, decide_eq_false e2]; rfl
  by_cases hs : a.size = b.size
  · refine sums_loop a b _ _ _ (by omega) hs hx hxy (Pl.diffs (bytesOf a) (bytesOf b)) (fun h1 => ?_) a.size 0 0 k (by omega) (by omega) (by omega) (by simp)
    exact Pl.sum_diff _ _ (Pl.bytes_byte a) (Pl.bytes_byte b) (by rw [Pl.bytes_len, Pl.bytes_len]; exact hs) h1
  · obtain ⟨k, rfl⟩ : ∃ m, k = m + 1 := ⟨k - 1, by omega⟩
    simp only [Px.cleanselaw45_SealSums.l0]
    rw [if_pos (by omega), show ((a.size : Int) == (b.size : Int)) = false from beq_eq_false_iff_ne.2 (by omega)]
    exact sums_end a b _ _ _ 0 0 k (by omega) (by omega) hx hxy (fun h => by omega)
end Go.Proofs.YtgblfdfagppejaaDoor.Pure
