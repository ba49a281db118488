/- What the plain functions of layer 5 come to: the reference's Bands. -/
import Derived.Test.YtiobkccmgigmhaaDoorPlE
set_option linter.unusedVariables false
set_option linter.unusedSimpArgs false
namespace Go.Proofs.YtiobkccmgigmhaaDoor.Pl
open Go.RowKit Go.Proofs.YtiobkccmgigmhaaDoorW.PrintWords Go.Proofs.YtiobkccmgigmhaaDoorW.PrintMore

theorem key_size (b : Nat) (row : List Int) (hb : b ≤ 1000) (h : ∀ x ∈ row, I64 x) : (key b row).size ≤ 22 + 22 * row.length := by
  have h1 := dots_length row h
  have h2 : (Lib.itoa b).length ≤ 21 := it_size b ⟨by omega, by omega⟩
  have h3 : (key b row).size = (Lib.itoa b ++ 58 :: dots row).length := List.size_toArray
  rw [List.length_append, List.length_cons] at h3
  omega
theorem key_nil (b : Nat) : it (b : Nat) ++ (⟨#[58]⟩ : ByteArray) = key b [] := by
  unfold it key
  apply ByteArray.ext; apply Array.ext'
  simp [ByteArray.data_append, dots]
theorem key_one (b : Nat) (x : Int) : key b [] ++ it x = key b [x] := by
  unfold it key
  apply ByteArray.ext; apply Array.ext'
  simp [ByteArray.data_append, dots]
theorem key_snoc (b : Nat) (l : List Int) (x : Int) (h : l ≠ []) : key b l ++ (⟨#[46]⟩ : ByteArray) ++ it x = key b (l ++ [x]) := by
  unfold it key
  apply ByteArray.ext; apply Array.ext'
  simp [ByteArray.data_append, dots_snoc l x h]
theorem refBands_inner (a : List Int) (m b : Nat) (h : b < a.length / m) (h64 : a.length ≤ 64) (hv : ∀ x ∈ a, I64 x) (acc : List ByteArray) (hacc : acc.length = b) (R : List ByteArray × Int) (K : Nat)
    (next : ∀ k, K < k → Px.cleanseref05_Bands.l0 k a (m : Int) (acc ++ [key b (rowOf a m b)]) ((b + 1 : Nat) : Int) = some R) :
    ∀ (d j k : Nat), j + d = m → K + d + 1 < k → Px.cleanseref05_Bands.l1 k a (m : Int) acc (b : Int) (key b ((rowOf a m b).take j)) (j : Int) = some R
  | 0, j, k, hj, hk => by
    obtain ⟨k, rfl⟩ : ∃ n, k = n + 1 := ⟨k - 1, by omega⟩
    have hb := band_le h
    have hb64 : b ≤ 64 := by have := Nat.div_le_self a.length m; omega
    simp only [Px.cleanseref05_Bands.l1]
    rw [if_neg (by omega), if_pos (by omega), List.take_of_length_le (by rw [rowOf_length h]; omega), wrap_succ (by omega) (by omega), show ((b : Int) + 1) = ((b + 1 : Nat) : Int) by omega]
    exact next k (by omega)
  | d + 1, j, k, hj, hk => by
    obtain ⟨k, rfl⟩ : ∃ n, k = n + 1 := ⟨k - 1, by omega⟩
    have hb := band_le h
    have hb64 : b ≤ 64 := by have := Nat.div_le_self a.length m; omega
    have hjm : j < m := by omega
    have hrow : j < (rowOf a m b).length := by rw [rowOf_length h]; exact hjm
    have hI := row_mem (m := m) (b := b) hv _ (List.getElem_mem hrow)
    have hs := it_size _ hI
    have hks := key_size b ((rowOf a m b).take j) (by omega) (fun x hx => row_mem (m := m) (b := b) hv x (List.mem_of_mem_take hx))
    rw [List.length_take] at hks
    have rec_ := refBands_inner a m b h h64 hv acc hacc R K next d (j + 1) k (by omega) (by omega)
    have hd : (⟨#[46]⟩ : ByteArray).size = 1 := rfl
    simp only [Px.cleanseref05_Bands.l1]
    rw [if_pos (by omega)]
    by_cases c : j = 0
    · subst c
      have e : key b ((rowOf a m b).take 0) ++ it (rowOf a m b)[0] = key b ((rowOf a m b).take 1) := by
        rw [List.take_zero, key_one, List.take_succ_eq_append_getElem hrow]; rfl
      rw [if_neg (by omega), idx_wrap (by omega), if_pos (by omega), if_pos (by omega), rd_row h hjm, dec_f _ hI]
      simp only [Option.bind_some]
      rw [if_pos (by omega), e, wrap_succ (by omega) (by omega)]
      exact rec_
    · have e : key b ((rowOf a m b).take j) ++ (⟨#[46]⟩ : ByteArray) ++ it (rowOf a m b)[j] = key b ((rowOf a m b).take (j + 1)) := by
        rw [key_snoc _ _ _ (by
          intro h0
          have := congrArg List.length h0
          rw [List.length_take] at this
          simp only [List.length_nil] at this
          omega), ← List.take_succ_eq_append_getElem hrow]
      rw [if_pos (by omega), if_pos (by omega), idx_wrap (by omega), if_pos (by omega), if_pos (by omega), rd_row h hjm, dec_f _ hI]
      simp only [Option.bind_some]
      rw [if_pos (by rw [ByteArray.size_append]; omega), e, wrap_succ (by omega) (by omega)]
      exact rec_
theorem refBands_loop (a : List Int) (m : Nat) (h1 : 1 ≤ m) (h64 : a.length ≤ 64) (hm : m ≤ a.length) (hv : ∀ x ∈ a, I64 x) (hp : 0 ≤ rd a 0) (d : Nat) : ∀ (b k : Nat), b + d = a.length / m → d * 70 + 5 < k →
    Px.cleanseref05_Bands.l0 k a (m : Int) ((bandsZ a m).take b) (b : Int) = some (bandsZ a m, 0) := by
  have hlen : (bandsZ a m).length = a.length / m := by simp [bandsZ]
  have hdl := Nat.div_le_self a.length m
  have hq : wrap64 ((a.length : Int) / (m : Int)) = ((a.length / m : Nat) : Int) := by
    rw [show (a.length : Int) / (m : Int) = ((a.length / m : Nat) : Int) from (Int.natCast_ediv _ _).symm, wrap_nat _ (by omega)]
  induction d with
  | zero =>
    intro b k hb hk
    obtain ⟨k, rfl⟩ : ∃ n, k = n + 1 := ⟨k - 1, by omega⟩
    obtain ⟨k, rfl⟩ : ∃ n, k = n + 1 := ⟨k - 1, by omega⟩
    simp only [Px.cleanseref05_Bands.l0]
    rw [if_neg (by omega), hq, if_neg (by omega)]
    simp only [Px.cleanseref05_Bands.j2]
    rw [if_neg (by decide), List.take_of_length_le (by omega)]
  | succ d ih =>
    intro b k hb hk
    obtain ⟨k, rfl⟩ : ∃ n, k = n + 1 := ⟨k - 1, by omega⟩
    obtain ⟨k, rfl⟩ : ∃ n, k = n + 1 := ⟨k - 1, by omega⟩
    have hlt : b < a.length / m := by omega
    have hI : I64 (b : Nat) := ⟨by omega, by omega⟩
    have hs := it_size _ hI
    simp only [Px.cleanseref05_Bands.l0]
    rw [if_neg (by omega), hq, if_pos (by omega), if_pos (by omega)]
    simp only [Px.cleanseref05_Bands.j2]
    rw [if_pos (by simpa using hp), dec_f _ hI]
    simp only [Option.bind_some]
    rw [if_pos (by omega), key_nil, show (0 : Int) = ((0 : Nat) : Int) from rfl]
    refine refBands_inner a m b hlt h64 hv _ (by rw [List.length_take, hlen]; omega) _ (d * 70 + 5) ?_ m 0 k (by omega) (by omega)
    intro k' hk'
    have e : (bandsZ a m).take b ++ [key b (rowOf a m b)] = (bandsZ a m).take (b + 1) := by
      rw [List.take_succ_eq_append_getElem (by omega)]
      simp [bandsZ]
    rw [e]
    exact ih (b + 1) k' (by omega) hk'
theorem refBands_spec (a : List Int) (m : Nat) (h : bandsOk a m) (k : Nat) (hk : 10000 < k) : Px.cleanseref05_Bands.f k a (m : Int) = some (bandsS a m, 0) := by
  obtain ⟨ha, hm1, hm2, hmod⟩ := h
  obtain ⟨h1, h2, _⟩ := (right_iff a).1 ha
  obtain ⟨k, rfl⟩ : ∃ n, k = n + 1 := ⟨k - 1, by omega⟩
  have hd := Nat.div_le_self a.length m
  unfold Px.cleanseref05_Bands.f
  rw [valid_spec a (by omega) _ (by omega)]
  simp only [Option.bind_some, ha, if_true]
  rw [if_neg (by omega), if_neg (by omega), if_neg (by omega), hmod]
  simp only [Px.cleanseref05_Bands.j0]
  rw [if_neg (by decide), show (0 : Int) = ((0 : Nat) : Int) from rfl]
  unfold bandsS
  by_cases c : rd a 0 = -1
  · rw [if_pos c]
    obtain ⟨k, rfl⟩ : ∃ n, k = n + 1 := ⟨k - 1, by omega⟩
    obtain ⟨k, rfl⟩ : ∃ n, k = n + 1 := ⟨k - 1, by omega⟩
    simp only [Px.cleanseref05_Bands.l0]
    rw [if_neg (by omega)]
    have fin : ∀ b : Bool, b = false → Px.cleanseref05_Bands.j2 (k + 1) a (m : Int) [] ((0 : Nat) : Int) b = some ([], 0) := fun b hb => by subst hb; simp [Px.cleanseref05_Bands.j2]
    split
    · rw [if_pos (by omega)]
      exact fin _ (by simp; omega)
    · exact fin _ rfl
  · rw [if_neg c]
    exact refBands_loop a m (by omega) h2 (by omega) (right_I64 ha) (by
      have := head_neg a ha
      omega) (a.length / m) 0 k (by omega) (by omega)
theorem refBands_bad (a : List Int) (ma : a.length ≤ 9223372036854775807) (r : Int) (h : ¬ bandsOk a r) (k : Nat) (hk : 70 < k) : Px.cleanseref05_Bands.f k a r = some ([], 1) := by
  obtain ⟨k, rfl⟩ : ∃ n, k = n + 1 := ⟨k - 1, by omega⟩
  unfold Px.cleanseref05_Bands.f
  rw [valid_spec a ma _ (by omega)]
  simp only [Option.bind_some]
  by_cases ha : X.rightB a = true
  · rw [if_pos ha]
    by_cases c1 : r < 1
    · rw [if_pos c1]; simp [Px.cleanseref05_Bands.j0]
    · rw [if_neg c1]
      by_cases c2 : r > (a.length : Int)
      · rw [if_pos c2]; simp [Px.cleanseref05_Bands.j0]
      · rw [if_neg c2, if_neg (by omega)]
        have c3 : ((a.length : Int) % r != 0) = true := by
          rw [bne_iff_ne]
          intro e
          exact h ⟨ha, by omega, by omega, e⟩
        rw [c3]; simp [Px.cleanseref05_Bands.j0]
  · rw [if_neg ha]; simp [Px.cleanseref05_Bands.j0]
end Go.Proofs.YtiobkccmgigmhaaDoor.Pl
