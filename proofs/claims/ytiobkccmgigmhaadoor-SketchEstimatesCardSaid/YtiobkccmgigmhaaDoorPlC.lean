/- What the plain functions of layer 5 come to: the reference's Hash, Make and Union; Estimate. -/
import Derived.Test.YtiobkccmgigmhaaDoorPlB
import Derived.Test.YtiobkccmgigmhaaDoorPx5
import Derived.Test.YtiobkccmgigmhaaDoorPx6
set_option linter.unusedVariables false
set_option linter.unusedSimpArgs false
namespace Go.Proofs.YtiobkccmgigmhaaDoor.Pl
open Go.RowKit Go.Proofs.YtiobkccmgigmhaaDoorW.PrintWords Go.Proofs.YtiobkccmgigmhaaDoorW.PrintMore

/-! the reference's Hash -/
theorem bt_at' (s : ByteArray) (i : Nat) (h : i < s.data.size) : bt s (i : Int) = ((s.data[i]).toNat : Int) := by
  have : i < s.size := h
  simp [bt, this]; rfl
theorem refHash_loop (s : ByteArray) (seed : Int) (hm : s.size ≤ 9223372036854775806) : ∀ (d i k : Nat), i + d = s.size → d < k →
    Px.cleanseref05_Hash.l0 k s (16807 + seed % 2147483647 % 1000003) (X.hrun seed (s.data.toList.take i)) (i : Int) = some (X.hsh s.data.toList seed)
  | 0, i, k, h, hk => by
    obtain ⟨k, rfl⟩ : ∃ m, k = m + 1 := ⟨k - 1, by omega⟩
    have hb := X.hrun_bd seed s.data.toList
    simp only [Px.cleanseref05_Hash.l0]
    rw [if_neg (by omega), List.take_of_length_le (by simp; show s.size ≤ i; omega)]
    rw [wrap_id (i := X.hrun seed s.data.toList * 48271) (by omega) (by omega), wrap_id (by omega) (by omega), Int.tmod_eq_emod_of_nonneg (by omega)]
    rfl
  | d + 1, i, k, h, hk => by
    obtain ⟨k, rfl⟩ : ∃ m, k = m + 1 := ⟨k - 1, by omega⟩
    have hi : i < s.data.size := by show i < s.size; omega
    have hs := X.hrun_snoc seed s i hi
    have hbt := (s.data[i]).toNat_lt
    have hb := X.hrun_bd seed (s.data.toList.take i)
    have hf := X.hfac_bd seed
    simp only [X.hfac] at hf
    have h4 : 0 ≤ X.hrun seed (s.data.toList.take i) * (16807 + seed % 2147483647 % 1000003) := Int.mul_nonneg hb.1 (by omega)
    have h5 : X.hrun seed (s.data.toList.take i) * (16807 + seed % 2147483647 % 1000003) ≤ 2147483647 * 1016809 := Int.mul_le_mul (by omega) hf.2 (by omega) (by omega)
    simp only [Px.cleanseref05_Hash.l0]
    rw [if_pos (by omega), if_pos (by omega), bt_at' s i hi, wrap_succ (i := (i : Int)) (by omega) (by omega), show ((i : Int) + 1) = ((i + 1 : Nat) : Int) by omega]
    have hw : 0 ≤ wrap64 (wrap64 (wrap64 (X.hrun seed (s.data.toList.take i) * (16807 + seed % 2147483647 % 1000003)) + wrap64 ((s.data[i]).toNat : Int)) + 1) := by
      generalize X.hrun seed (s.data.toList.take i) * (16807 + seed % 2147483647 % 1000003) = y at *
      rw [wrap_id (i := y) (by omega) (by omega), wrap_id (i := ((s.data[i]).toNat : Int)) (by omega) (by omega), wrap_id (i := y + ((s.data[i]).toNat : Int)) (by omega) (by omega), wrap_id (by omega) (by omega)]
      omega
    rw [Int.tmod_eq_emod_of_nonneg hw, hs]
    exact refHash_loop s seed hm d (i + 1) k (by omega) (by omega)
theorem refHash_spec (s : ByteArray) (seed : Int) (hm : s.size ≤ 9223372036854775806) (k : Nat) (hk : s.size + 1 < k) : Px.cleanseref05_Hash.f k s seed = some (X.hsh s.data.toList seed) := by
  obtain ⟨k, rfl⟩ : ∃ m, k = m + 1 := ⟨k - 1, by omega⟩
  have e : X.hrun seed (s.data.toList.take 0) = seed % 2147483647 := rfl
  have hl := refHash_loop s seed hm s.size 0 k (by omega) (by omega)
  rw [e] at hl
  have h1 : seed.tmod 2147483647 < 2147483647 := Int.tmod_lt_of_pos seed (by omega)
  have h2 : (-seed).tmod 2147483647 < 2147483647 := Int.tmod_lt_of_pos (-seed) (by omega)
  rw [Int.neg_tmod] at h2
  have ht := Int.tmod_eq_emod (a := seed) (b := 2147483647)
  unfold Px.cleanseref05_Hash.f
  have fin : ∀ x, x = seed % 2147483647 → Px.cleanseref05_Hash.j0 (k + 1) s x = some (X.hsh s.data.toList seed) := by
    rintro x rfl
    simp only [Px.cleanseref05_Hash.j0]
    rw [Int.tmod_eq_emod_of_nonneg (by omega), wrap_id (by omega) (by omega)]
    exact hl
  by_cases c : seed.tmod 2147483647 < 0
  · rw [if_pos c]
    refine fin _ ?_
    rw [wrap_id (by omega) (by omega)]
    split at ht <;> omega
  · rw [if_neg c]
    refine fin _ ?_
    split at ht <;> omega

/-! the reference's Make -/
theorem refMake_inner (l : List ByteArray) (n : Nat) (xs : List Int) (i : Nat) (hf : fewB l = true) (R : List Int × Int) (K : Nat)
    (next : ∀ k, K < k → ∀ v, v = X.leastZ (i : Nat) l → Px.cleanseref05_Make.l0 k l (n : Int) (xs ++ [v]) ((i + 1 : Nat) : Int) = some R) (hx : xs.length < 17592186044416) (hin : i ≤ 64) :
    ∀ (d j k : Nat) (b : Int), j + d = l.length → K + d + 200 < k → b = X.leastZ (i : Nat) (l.take j) → Px.cleanseref05_Make.l1 k l (n : Int) xs (i : Int) b (j : Int) = some R
  | 0, j, k, b, h, hk, hb => by
    obtain ⟨k, rfl⟩ : ∃ m, k = m + 1 := ⟨k - 1, by omega⟩
    simp only [Px.cleanseref05_Make.l1]
    rw [if_neg (by omega), if_pos hx, wrap_succ (by omega) (by omega)]
    exact next k (by omega) b (by rw [hb, List.take_of_length_le (by omega)])
  | d + 1, j, k, b, h, hk, hb => by
    obtain ⟨k, rfl⟩ : ∃ m, k = m + 1 := ⟨k - 1, by omega⟩
    have hlen := fewB_len hf
    have hj : j < l.length := by omega
    have hsz := fewB_size hf l[j] (List.getElem_mem _)
    simp only [Px.cleanseref05_Make.l1]
    rw [if_pos (by omega), if_pos (by omega), rdOf_at hj, refHash_spec _ _ (by omega) k (by omega)]
    simp only [Option.bind_some]
    rw [wrap_succ (by omega) (by omega), show ((j : Int) + 1) = ((j + 1 : Nat) : Int) by omega]
    have hs : X.leastZ (i : Nat) (l.take (j + 1)) = if b < 0 then X.hsh (l[j]).data.toList (i : Nat) else if X.hsh (l[j]).data.toList (i : Nat) < b then X.hsh (l[j]).data.toList (i : Nat) else b := by
      by_cases hj0 : j = 0
      · subst hj0
        have e : b = -1 := by rw [hb]; rfl
        rw [if_pos (by omega), List.take_succ_eq_append_getElem hj]
        rfl
      · have hne : l.take j ≠ [] := by
          intro h0
          have := congrArg List.length h0
          rw [List.length_take] at this
          simp only [List.length_nil] at this
          omega
        have hbd := least_bd (i : Nat) (l.take j) hne
        rw [if_neg (by omega), List.take_succ_eq_append_getElem hj, least_append _ _ _ hne (by simp), ← hb]
        rfl
    by_cases c1 : b < 0
    · rw [if_pos c1]
      exact refMake_inner l n xs i hf R K next hx hin d (j + 1) k _ (by omega) (by omega) (by rw [hs, if_pos c1])
    · rw [if_neg c1]
      by_cases c2 : X.hsh (l[j]).data.toList (i : Nat) < b
      · rw [if_pos c2]
        exact refMake_inner l n xs i hf R K next hx hin d (j + 1) k _ (by omega) (by omega) (by rw [hs, if_neg c1, if_pos c2])
      · rw [if_neg c2]
        exact refMake_inner l n xs i hf R K next hx hin d (j + 1) k _ (by omega) (by omega) (by rw [hs, if_neg c1, if_neg c2])
theorem refMake_loop (l : List ByteArray) (n : Nat) (hn : n ≤ 64) (hf : fewB l = true) (d : Nat) : ∀ (i k : Nat), i + d = n → d * 300 + 10 < k →
    Px.cleanseref05_Make.l0 k l (n : Int) (makeZ l i) (i : Int) = some (makeZ l n, 0) := by
  induction d with
  | zero =>
    intro i k h hk
    obtain ⟨k, rfl⟩ : ∃ m, k = m + 1 := ⟨k - 1, by omega⟩
    simp only [Px.cleanseref05_Make.l0]
    rw [if_neg (by omega), show i = n by omega]
  | succ d ih =>
    intro i k h hk
    obtain ⟨k, rfl⟩ : ∃ m, k = m + 1 := ⟨k - 1, by omega⟩
    have hlen := fewB_len hf
    simp only [Px.cleanseref05_Make.l0]
    rw [if_pos (by omega), show (0 : Int) = ((0 : Nat) : Int) from rfl]
    refine refMake_inner l n (makeZ l i) i hf _ (d * 300 + 10) ?_ (by rw [makeZ_length]; omega) (by omega) l.length 0 k (-1) (by omega) (by omega) rfl
    intro k' hk' v hv
    rw [hv, show makeZ l i ++ [X.leastZ (i : Nat) l] = makeZ l (i + 1) by unfold makeZ; rw [List.range_succ, List.map_append]; rfl]
    exact ih (i + 1) k' (by omega) hk'
theorem refMake_spec (l : List ByteArray) (hf : fewB l = true) (n : Nat) (h1 : 1 ≤ n) (hn : n ≤ 64) (k : Nat) (hk : 20000 < k) : Px.cleanseref05_Make.f k l (n : Int) = some (makeZ l n, 0) := by
  obtain ⟨k, rfl⟩ : ∃ m, k = m + 1 := ⟨k - 1, by omega⟩
  unfold Px.cleanseref05_Make.f
  rw [if_neg (by omega), show decide ((n : Int) > 64) = false by simp; omega]
  simp only [Px.cleanseref05_Make.j0]
  rw [if_neg (by decide), show (0 : Int) = ((0 : Nat) : Int) from rfl]
  exact refMake_loop l n hn hf n 0 k (by omega) (by omega)
theorem refMake_bad (l : List ByteArray) (n : Int) (h : n < 1 ∨ 64 < n) (k : Nat) (hk : 0 < k) : Px.cleanseref05_Make.f k l n = some ([], 1) := by
  obtain ⟨k, rfl⟩ : ∃ m, k = m + 1 := ⟨k - 1, by omega⟩
  unfold Px.cleanseref05_Make.f
  by_cases h1 : n < 1
  · rw [if_pos h1]; simp [Px.cleanseref05_Make.j0]
  · rw [if_neg h1, show decide (n > 64) = true by simp; omega]; simp [Px.cleanseref05_Make.j0]

/-! the reference's Union -/
theorem head_neg (a : List Int) (ha : X.rightB a = true) : rd a 0 < 0 ↔ rd a 0 = -1 := by
  obtain ⟨h1, _, h | h⟩ := (right_iff a).1 ha
  · rw [show rd a 0 = a[0] from rd_at (i := 0) h1, h _ (List.getElem_mem _)]; omega
  · have := h a[0] (List.getElem_mem _)
    rw [show rd a 0 = a[0] from rd_at (i := 0) h1]; omega
theorem refUnion_loop (a b : List Int) (hl : a.length = b.length) (h64 : a.length ≤ 64) (ca : ¬ rd a 0 = -1) (cb : ¬ rd b 0 = -1) : ∀ (d i k : Nat), i + d = a.length → d < k →
    Px.cleanseref05_Union.l0 k a b ((uZ a b).take i) (i : Int) = some (uZ a b, 0)
  | 0, i, k, h, hk => by
    obtain ⟨k, rfl⟩ : ∃ m, k = m + 1 := ⟨k - 1, by omega⟩
    simp only [Px.cleanseref05_Union.l0]
    rw [if_neg (by omega), List.take_of_length_le (by rw [uZ_length _ _ hl]; omega)]
  | d + 1, i, k, h, hk => by
    obtain ⟨k, rfl⟩ : ∃ m, k = m + 1 := ⟨k - 1, by omega⟩
    have hi : i < a.length := by omega
    have hib : i < b.length := by omega
    have hu : i < (uZ a b).length := by rw [uZ_length _ _ hl]; exact hi
    have hua : (uZ a b)[i] = mn a[i] b[i] := by simp only [uZ, List.getElem_zipWith]; unfold uF mn; rw [if_neg ca, if_neg cb]
    simp only [Px.cleanseref05_Union.l0]
    rw [if_pos (by omega), if_pos (by omega), if_pos (by omega), if_pos (by simp; omega), rd_at hi, rd_at hib, ← hua, ← List.take_succ_eq_append_getElem hu, wrap_succ (by omega) (by omega)]
    exact refUnion_loop a b hl h64 ca cb d (i + 1) k (by omega) (by omega)
theorem uZ_ea (a b : List Int) (hl : a.length = b.length) (ca : rd a 0 = -1) : uZ a b = b := by
  refine List.ext_getElem (by rw [uZ_length _ _ hl]; exact hl) fun i hi hi' => ?_
  simp only [uZ, List.getElem_zipWith]; unfold uF; rw [if_pos ca]
theorem uZ_eb (a b : List Int) (hl : a.length = b.length) (ca : ¬ rd a 0 = -1) (cb : rd b 0 = -1) : uZ a b = a := by
  refine List.ext_getElem (by rw [uZ_length _ _ hl]) fun i hi hi' => ?_
  simp only [uZ, List.getElem_zipWith]; unfold uF; rw [if_neg ca, if_pos cb]
theorem refUnion_spec (a b : List Int) (ha : X.rightB a = true) (hb : X.rightB b = true) (hl : a.length = b.length) (k : Nat) (hk : 70 < k) : Px.cleanseref05_Union.f k a b = some (uZ a b, 0) := by
  obtain ⟨k, rfl⟩ : ∃ m, k = m + 1 := ⟨k - 1, by omega⟩
  obtain ⟨h1, h2, _⟩ := (right_iff a).1 ha
  unfold Px.cleanseref05_Union.f
  rw [valid_spec a (by omega) _ (by omega), valid_spec b (by omega) _ (by omega)]
  simp only [Option.bind_some, ha, hb, if_true]
  rw [show ((a.length : Int) != (b.length : Int)) = false by simp; omega]
  simp only [Px.cleanseref05_Union.j0]
  rw [if_neg (by decide), if_pos (by omega)]
  simp only [Option.bind_some, List.nil_append, List.length_nil, Nat.zero_add]
  by_cases ca : rd a 0 = -1
  · rw [if_pos (by omega), if_pos (by omega), uZ_ea a b hl ca]
  · rw [if_neg (fun h => ca ((head_neg a ha).1 h)), if_pos (by omega)]
    by_cases cb : rd b 0 = -1
    · rw [if_pos (by omega), if_pos (by omega), uZ_eb a b hl ca cb]
    · rw [if_neg (fun h => cb ((head_neg b hb).1 h)), show (0 : Int) = ((0 : Nat) : Int) from rfl]
      exact refUnion_loop a b hl h2 ca cb a.length 0 k (by omega) (by omega)
theorem refUnion_bad (a b : List Int) (ma : a.length ≤ 9223372036854775807) (mb : b.length ≤ 9223372036854775807) (h : ¬ (X.rightB a = true ∧ X.rightB b = true ∧ a.length = b.length)) (k : Nat) (hk : 70 < k) : Px.cleanseref05_Union.f k a b = some ([], 1) := by
  obtain ⟨k, rfl⟩ : ∃ m, k = m + 1 := ⟨k - 1, by omega⟩
  unfold Px.cleanseref05_Union.f
  rw [valid_spec a ma _ (by omega), valid_spec b mb _ (by omega)]
  simp only [Option.bind_some]
  by_cases ha : X.rightB a = true
  · rw [if_pos ha]
    by_cases hb : X.rightB b = true
    · rw [if_pos hb, show ((a.length : Int) != (b.length : Int)) = true by simp; intro e; exact h ⟨ha, hb, by omega⟩]
      simp [Px.cleanseref05_Union.j0]
    · rw [if_neg hb]; simp [Px.cleanseref05_Union.j0]
  · rw [if_neg ha]; simp [Px.cleanseref05_Union.j0]
end Go.Proofs.YtiobkccmgigmhaaDoor.Pl
