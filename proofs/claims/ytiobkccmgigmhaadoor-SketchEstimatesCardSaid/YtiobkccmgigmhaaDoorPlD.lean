/- What the plain functions of layer 5 come to: Estimate. -/
import Derived.Test.YtiobkccmgigmhaaDoorPlC
set_option linter.unusedVariables false
set_option linter.unusedSimpArgs false
namespace Go.Proofs.YtiobkccmgigmhaaDoor.Pl
open Go.RowKit Go.Proofs.YtiobkccmgigmhaaDoorW.PrintWords Go.Proofs.YtiobkccmgigmhaaDoorW.PrintMore

/-! the greatest common divisor -/
theorem common_inner (ls : List Int) (n i : Int) (r : Int) (K : Nat) : ∀ (x g k : Nat), K + x + 2 < k →
    (∀ k, K < k → Px.ratio_common.l0 k ((Nat.gcd x g : Nat) : Int) ls n (wrap64 (i + 1)) = some r) → Px.ratio_common.l1 k (g : Int) (x : Int) ls n i = some r := by
  intro x
  induction x using Nat.strongRecOn with
  | _ x ih =>
  intro g k hk next
  obtain ⟨k, rfl⟩ : ∃ m, k = m + 1 := ⟨k - 1, by omega⟩
  simp only [Px.ratio_common.l1]
  by_cases h : x = 0
  · subst h
    rw [if_pos (by simp)]
    have := next k (by omega)
    rwa [Nat.gcd_zero_left] at this
  · rw [if_neg (by omega), Int.tmod_eq_emod_of_nonneg (by omega), show (g : Int) % (x : Int) = ((g % x : Nat) : Int) by omega]
    have hlt := Nat.mod_lt g (show 0 < x by omega)
    refine ih (g % x) hlt x k (by omega) ?_
    intro k' hk'
    have := next k' hk'
    rwa [Nat.gcd_rec] at this
theorem common_spec (c n : Nat) (k : Nat) (hk : c + n + 10 < k) : Px.ratio_common.f k [(c : Int), (n : Int)] = some ((Nat.gcd c n : Nat) : Int) := by
  obtain ⟨k, rfl⟩ : ∃ m, k = m + 1 := ⟨k - 1, by omega⟩
  unfold Px.ratio_common.f
  simp only [Px.ratio_common.l0]
  have e0 : rd [(c : Int), (n : Int)] 0 = (c : Int) := rfl
  have e1 : rd [(c : Int), (n : Int)] 1 = (n : Int) := rfl
  rw [if_pos (by simp), if_pos (by omega), if_pos (by simp), e0, show (0 : Int) = ((0 : Nat) : Int) from rfl]
  refine common_inner _ _ _ _ (n + 4) c 0 k (by omega) ?_
  intro k1 hk1
  rw [Nat.gcd_zero_right]
  obtain ⟨k1, rfl⟩ : ∃ m, k1 = m + 1 := ⟨k1 - 1, by omega⟩
  simp only [Px.ratio_common.l0]
  rw [show wrap64 (((0 : Nat) : Int) + 1) = 1 from by unfold wrap64; omega, if_pos (by simp), if_pos (by omega), if_pos (by simp), e1]
  refine common_inner _ _ _ _ 1 n c k1 (by omega) ?_
  intro k2 hk2
  obtain ⟨k2, rfl⟩ : ∃ m, k2 = m + 1 := ⟨k2 - 1, by omega⟩
  simp only [Px.ratio_common.l0]
  rw [show wrap64 (1 + 1) = 2 from by unfold wrap64; omega, if_neg (by simp), Nat.gcd_comm]
theorem wrapu_nat (n : Nat) (h : n < 18446744073709551616) : IntKind.u64.wrap (n : Int) = (n : Int) := by rw [IntKind.wrap_u64]; omega
theorem div_le (c g : Nat) : c / g ≤ c := Nat.div_le_self c g
theorem ratio_spec (c n : Nat) (h1 : 1 ≤ n) (hc : c ≤ n) (hn : n ≤ 64) (k : Nat) (hk : 200 < k) : Px.ratio_Make.f k (c : Int) (n : Int) = some (((c / Nat.gcd c n : Nat) : Int), ((n / Nat.gcd c n : Nat) : Int), 0) := by
  obtain ⟨k, rfl⟩ : ∃ m, k = m + 1 := ⟨k - 1, by omega⟩
  have hg : Nat.gcd c n ≠ 0 := by
    intro h
    have := Nat.gcd_pos_of_pos_right c (show 0 < n by omega)
    omega
  have hc' := div_le c (Nat.gcd c n)
  have hn' := div_le n (Nat.gcd c n)
  unfold Px.ratio_Make.f
  rw [if_neg (by omega), Px.ratio_magnitude_int.f, if_neg (by omega), Px.ratio_magnitude_int.f, if_neg (by omega), wrapu_nat c (by omega), wrapu_nat n (by omega)]
  simp only [Option.bind_some]
  rw [show decide ((c : Int) < 0) = false by simp, show decide ((n : Int) < 0) = false by simp]
  unfold Px.ratio_reduced.f
  rw [common_spec c n _ (by omega)]
  simp only [Option.bind_some]
  rw [if_neg (by omega), Int.tdiv_eq_ediv_of_nonneg (by omega), Int.tdiv_eq_ediv_of_nonneg (by omega), show (c : Int) / ((Nat.gcd c n : Nat) : Int) = ((c / Nat.gcd c n : Nat) : Int) from (Int.natCast_ediv _ _).symm, show (n : Int) / ((Nat.gcd c n : Nat) : Int) = ((n / Nat.gcd c n : Nat) : Int) from (Int.natCast_ediv _ _).symm]
  generalize c / Nat.gcd c n = p at *
  generalize n / Nat.gcd c n = q at *
  rw [wrapu_nat p (by omega), wrapu_nat q (by omega), if_neg (by omega), show decide ((q : Int) > 1000000000) = false by simp; omega]
  simp only [Px.ratio_reduced.j0]
  rw [if_neg (by decide), if_neg (by decide), wrap_id (by omega) (by omega), wrap_id (by omega) (by omega)]
  rfl

/-! Estimate -/
def cnt : List Int → List Int → Nat
  | x :: a, y :: b => (if x = y then 1 else 0) + cnt a b
  | _, _ => 0
theorem cnt_le : ∀ (a b : List Int), cnt a b ≤ a.length
  | [], _ => by simp [cnt]
  | x :: a, [] => by simp [cnt]
  | x :: a, y :: b => by have := cnt_le a b; simp only [cnt, List.length_cons]; split <;> omega
theorem est_loop (a b : List Int) (hl : a.length = b.length) (hp : 1 ≤ a.length) (h64 : a.length ≤ 64) (c : Nat) (hc : c = cnt a b) : ∀ (d i k m : Nat), i + d = a.length → d + 300 < k → m + cnt (a.drop i) (b.drop i) = c → m ≤ i →
    Px.sketch_Estimate.l0 k a b (m : Int) a (a.length : Int) (i : Int) = some (((c / Nat.gcd c a.length : Nat) : Int), ((a.length / Nat.gcd c a.length : Nat) : Int), 0)
  | 0, i, k, m, h, hk, hm, hmi => by
    obtain ⟨k, rfl⟩ : ∃ m, k = m + 1 := ⟨k - 1, by omega⟩
    rw [List.drop_of_length_le (by omega)] at hm
    have e : m = c := by simpa [cnt] using hm
    have := cnt_le a b
    simp only [Px.sketch_Estimate.l0]
    rw [if_neg (by omega), e, ratio_spec c a.length hp (by omega) h64 k (by omega)]
    rfl
  | d + 1, i, k, m, h, hk, hm, hmi => by
    obtain ⟨k, rfl⟩ : ∃ m, k = m + 1 := ⟨k - 1, by omega⟩
    have hi : i < a.length := by omega
    have hib : i < b.length := by omega
    rw [List.drop_eq_getElem_cons hi, List.drop_eq_getElem_cons hib] at hm
    simp only [cnt] at hm
    simp only [Px.sketch_Estimate.l0]
    rw [if_pos (by omega), if_pos (by omega), if_pos (by omega), if_pos (by omega), rd_at hi, rd_at hib, wrap_succ (i := (i : Int)) (by omega) (by omega), show ((i : Int) + 1) = ((i + 1 : Nat) : Int) by omega]
    by_cases e : a[i] = b[i]
    · rw [if_pos e] at hm
      rw [if_pos e, wrap_succ (by omega) (by omega), show ((m : Int) + 1) = ((m + 1 : Nat) : Int) by omega]
      exact est_loop a b hl hp h64 c hc d (i + 1) k (m + 1) (by omega) (by omega) (by omega) (by omega)
    · rw [if_neg e] at hm
      rw [if_neg e]
      exact est_loop a b hl hp h64 c hc d (i + 1) k m (by omega) (by omega) (by omega) (by omega)
theorem est_spec (a b : List Int) (ha : X.rightB a = true) (hb : X.rightB b = true) (hl : a.length = b.length) (k : Nat) (hk : 500 < k) :
    Px.sketch_Estimate.f k a b = some (((cnt a b / Nat.gcd (cnt a b) a.length : Nat) : Int), ((a.length / Nat.gcd (cnt a b) a.length : Nat) : Int), 0) := by
  obtain ⟨k, rfl⟩ : ∃ m, k = m + 1 := ⟨k - 1, by omega⟩
  obtain ⟨h1, h2, _⟩ := (right_iff a).1 ha
  unfold Px.sketch_Estimate.f X.sketch_right.f
  simp only [Option.bind_some, ha, hb, if_true]
  rw [show ((a.length : Int) != (b.length : Int)) = false by simp; omega]
  simp only [Px.sketch_Estimate.j0]
  rw [if_neg (by decide), show (0 : Int) = ((0 : Nat) : Int) from rfl]
  exact est_loop a b hl h1 h2 _ rfl a.length 0 k 0 (by omega) (by omega) (by simp) (by omega)
theorem est_bad (a b : List Int) (h : ¬ (X.rightB a = true ∧ X.rightB b = true ∧ a.length = b.length)) (k : Nat) (hk : 0 < k) : Px.sketch_Estimate.f k a b = some (0, 0, 1) := by
  obtain ⟨k, rfl⟩ : ∃ m, k = m + 1 := ⟨k - 1, by omega⟩
  unfold Px.sketch_Estimate.f X.sketch_right.f
  simp only [Option.bind_some]
  by_cases ha : X.rightB a = true
  · rw [if_pos ha]
    by_cases hb : X.rightB b = true
    · rw [if_pos hb, show ((a.length : Int) != (b.length : Int)) = true by simp; intro e; exact h ⟨ha, hb, by omega⟩]
      simp [Px.sketch_Estimate.j0]
    · rw [if_neg hb]; simp [Px.sketch_Estimate.j0]
  · rw [if_neg ha]; simp [Px.sketch_Estimate.j0]

/-! the reference's Estimate -/
theorem divisor_spec : ∀ (x y k : Nat), x + 2 < k → Px.cleanseref05_divisor.l0 k (x : Int) (y : Int) = some ((Nat.gcd x y : Nat) : Int) := by
  intro x
  induction x using Nat.strongRecOn with
  | _ x ih =>
  intro y k hk
  obtain ⟨k, rfl⟩ : ∃ m, k = m + 1 := ⟨k - 1, by omega⟩
  simp only [Px.cleanseref05_divisor.l0]
  by_cases h : x = 0
  · subst h
    rw [if_neg (by omega), Nat.gcd_zero_left]
  · have hlt := Nat.mod_lt y (show 0 < x by omega)
    rw [if_pos (by omega), if_neg (by omega), Int.tmod_eq_emod_of_nonneg (by omega), show (y : Int) % (x : Int) = ((y % x : Nat) : Int) by omega, ih (y % x) hlt x k (by omega), ← Nat.gcd_rec]
theorem refEst_loop (a b : List Int) (hl : a.length = b.length) (hp : 1 ≤ a.length) (h64 : a.length ≤ 64) (c : Nat) (hc : c = cnt a b) : ∀ (d i k m : Nat), i + d = a.length → d + 300 < k → m + cnt (a.drop i) (b.drop i) = c → m ≤ i →
    Px.cleanseref05_Estimate.l0 k a b (m : Int) (i : Int) = some (((c / Nat.gcd c a.length : Nat) : Int), ((a.length / Nat.gcd c a.length : Nat) : Int), 0)
  | 0, i, k, m, h, hk, hm, hmi => by
    obtain ⟨k, rfl⟩ : ∃ m, k = m + 1 := ⟨k - 1, by omega⟩
    rw [List.drop_of_length_le (by omega)] at hm
    have e : m = c := by simpa [cnt] using hm
    have := cnt_le a b
    have hg : Nat.gcd c a.length ≠ 0 := by
      intro h
      have := Nat.gcd_pos_of_pos_right c (show 0 < a.length by omega)
      omega
    have hc' := div_le c (Nat.gcd c a.length)
    have hn' := div_le a.length (Nat.gcd c a.length)
    simp only [Px.cleanseref05_Estimate.l0]
    rw [if_neg (by omega), e, Px.cleanseref05_divisor.f, divisor_spec c a.length k (by omega)]
    simp only [Option.bind_some]
    rw [if_neg (by omega), Int.tdiv_eq_ediv_of_nonneg (by omega), show (c : Int) / ((Nat.gcd c a.length : Nat) : Int) = ((c / Nat.gcd c a.length : Nat) : Int) from (Int.natCast_ediv _ _).symm, show (a.length : Int) / ((Nat.gcd c a.length : Nat) : Int) = ((a.length / Nat.gcd c a.length : Nat) : Int) from (Int.natCast_ediv _ _).symm]
    generalize c / Nat.gcd c a.length = p at *
    generalize a.length / Nat.gcd c a.length = q at *
    rw [wrap_id (i := (p : Int)) (by omega) (by omega), wrap_id (by omega) (by omega)]
  | d + 1, i, k, m, h, hk, hm, hmi => by
    obtain ⟨k, rfl⟩ : ∃ m, k = m + 1 := ⟨k - 1, by omega⟩
    have hi : i < a.length := by omega
    have hib : i < b.length := by omega
    rw [List.drop_eq_getElem_cons hi, List.drop_eq_getElem_cons hib] at hm
    simp only [cnt] at hm
    simp only [Px.cleanseref05_Estimate.l0]
    rw [if_pos (by omega), if_pos (by omega), if_pos (by omega), rd_at hi, rd_at hib, wrap_succ (i := (i : Int)) (by omega) (by omega), show ((i : Int) + 1) = ((i + 1 : Nat) : Int) by omega]
    by_cases e : a[i] = b[i]
    · rw [if_pos e] at hm
      rw [if_pos e, wrap_succ (by omega) (by omega), show ((m : Int) + 1) = ((m + 1 : Nat) : Int) by omega]
      exact refEst_loop a b hl hp h64 c hc d (i + 1) k (m + 1) (by omega) (by omega) (by omega) (by omega)
    · rw [if_neg e] at hm
      rw [if_neg e]
      exact refEst_loop a b hl hp h64 c hc d (i + 1) k m (by omega) (by omega) (by omega) (by omega)
theorem refEst_spec (a b : List Int) (ha : X.rightB a = true) (hb : X.rightB b = true) (hl : a.length = b.length) (k : Nat) (hk : 500 < k) :
    Px.cleanseref05_Estimate.f k a b = some (((cnt a b / Nat.gcd (cnt a b) a.length : Nat) : Int), ((a.length / Nat.gcd (cnt a b) a.length : Nat) : Int), 0) := by
  obtain ⟨k, rfl⟩ : ∃ m, k = m + 1 := ⟨k - 1, by omega⟩
  obtain ⟨h1, h2, _⟩ := (right_iff a).1 ha
  unfold Px.cleanseref05_Estimate.f
  rw [valid_spec a (by omega) _ (by omega), valid_spec b (by omega) _ (by omega)]
  simp only [Option.bind_some, ha, hb, if_true]
  rw [show ((a.length : Int) != (b.length : Int)) = false by simp; omega]
  simp only [Px.cleanseref05_Estimate.j0]
  rw [if_neg (by decide), show (0 : Int) = ((0 : Nat) : Int) from rfl]
  exact refEst_loop a b hl h1 h2 _ rfl a.length 0 k 0 (by omega) (by omega) (by simp) (by omega)
theorem refEst_bad (a b : List Int) (ma : a.length ≤ 9223372036854775807) (mb : b.length ≤ 9223372036854775807) (h : ¬ (X.rightB a = true ∧ X.rightB b = true ∧ a.length = b.length)) (k : Nat) (hk : 70 < k) : Px.cleanseref05_Estimate.f k a b = some (0, 0, 1) := by
  obtain ⟨k, rfl⟩ : ∃ m, k = m + 1 := ⟨k - 1, by omega⟩
  unfold Px.cleanseref05_Estimate.f
  rw [valid_spec a ma _ (by omega), valid_spec b mb _ (by omega)]
  simp only [Option.bind_some]
  by_cases ha : X.rightB a = true
  · rw [if_pos ha]
    by_cases hb : X.rightB b = true
    · rw [if_pos hb, show ((a.length : Int) != (b.length : Int)) = true by simp; intro e; exact h ⟨ha, hb, by omega⟩]
      simp [Px.cleanseref05_Estimate.j0]
    · rw [if_neg hb]; simp [Px.cleanseref05_Estimate.j0]
  · rw [if_neg ha]; simp [Px.cleanseref05_Estimate.j0]
end Go.Proofs.YtiobkccmgigmhaaDoor.Pl
