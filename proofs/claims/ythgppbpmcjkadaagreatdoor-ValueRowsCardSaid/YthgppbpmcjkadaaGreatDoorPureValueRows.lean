/- The statement ValueRows over plain numbers, texts and lists. -/
import Derived.Test.YthgppbpmcjkadaaGreatDoorPx14
import Derived.Test.YthgppbpmcjkadaaGreatDoorPlG
set_option linter.unusedVariables false
set_option linter.unusedSimpArgs false
namespace Go.Proofs.YthgppbpmcjkadaaGreatDoor.Pure
open Go.RowKit Go.Proofs.YthgppbpmcjkadaaGreatDoor.X Go.Proofs.YthgppbpmcjkadaaGreatDoorW.PrintWords Go.Proofs.YthgppbpmcjkadaaGreatDoorW.PrintMore
theorem rows_loop (l m r : List Px.S23) (hl : l.length ≤ 20) (hm : m.length ≤ 20) (hr : r.length ≤ 20) : ∀ (d i k : Nat) (fl : Bool), i + d = min l.length m.length → d + 60 < k → (fl && eqsL (l.drop i) (m.drop i)) = (rowZ cv l m == 0) → Px.cleanselaw02_ValueRows.l0 k l m r true (rowZ cv l m) fl (i : Int) = some true := by
  have R := ord_row ord_cv
  intro d
  induction d with
  | zero =>
    intro i k fl hi hk hf
    obtain ⟨k, rfl⟩ : ∃ q, k = q + 1 := ⟨k - 1, by omega⟩
    have he : eqsL (l.drop i) (m.drop i) = true := by
      by_cases h : i = l.length
      · rw [h, List.drop_length]; simp [eqsL]
      · rw [show m.drop i = [] from List.drop_eq_nil_of_le (by omega)]
        cases l.drop i <;> rfl
    rw [he, Bool.and_true] at hf
    subst hf
    have fin : (if true = true then (if ((rowZ cv l m == 0) == (rowZ cv l m == 0)) = true then (if rowZ cv l m > 0 then (some true) else ((Px.value_CompareRows.f k m r).bind fun t350 => (if t350 > 0 then (some true) else ((Px.value_CompareRows.f k l r).bind fun t351 => (some (decide (t351 ≤ 0))))))) else (some false)) else (some false)) = some true := by
      rw [if_pos rfl, if_pos (by simp)]
      by_cases c1 : rowZ cv l m > 0
      · rw [if_pos c1]
      rw [if_neg c1, rows_f m r hm k (by omega), rows_f l r hl k (by omega)]
      simp only [Option.bind_some]
      by_cases c2 : rowZ cv m r > 0
      · rw [if_pos c2]
      rw [if_neg c2, decide_eq_true (R.trans l m r (by omega) (by omega))]
    simp only [Px.cleanselaw02_ValueRows.l0]
    by_cases c : (i : Int) < (l.length : Int)
    · rw [if_pos c, if_neg (by omega)]; exact fin
    · rw [if_neg c]; exact fin
  | succ d ih =>
    intro i k fl hi hk hf
    obtain ⟨k, rfl⟩ : ∃ q, k = q + 1 := ⟨k - 1, by omega⟩
    have hw : wrap64 ((i : Int) + 1) = ((i + 1 : Nat) : Int) := by unfold wrap64; omega
    have h1 : i < l.length := by omega
    have h2 : i < m.length := by omega
    rw [List.drop_eq_getElem_cons h1, List.drop_eq_getElem_cons h2] at hf
    simp only [eqsL] at hf
    simp only [Px.cleanselaw02_ValueRows.l0]
    rw [if_pos (by omega), if_pos (by omega), hw]
    by_cases c : fl = true
    · rw [if_pos c, if_pos (by omega), rd_at l i h1, rd_at m i h2, ByteArray.toList_eq, ByteArray.toList_eq]
      refine ih (i + 1) k _ (by omega) (by omega) ?_
      rw [← hf, c, Bool.true_and]
    · rw [if_neg c]
      refine ih (i + 1) k false (by omega) (by omega) ?_
      rw [← hf]
      simp [c]
theorem ValueRows : ∀ (l0 : List Px.S23) (l1 : List Px.S23) (l2 : List Px.S23), l0.length ≤ 9223372036854775807 → (∀ s ∈ l0, -9223372036854775808 ≤ s.f0 ∧ s.f0 ≤ 9223372036854775807 ∧ -9223372036854775808 ≤ s.f1 ∧ s.f1 ≤ 9223372036854775807) → l1.length ≤ 9223372036854775807 → (∀ s ∈ l1, -9223372036854775808 ≤ s.f0 ∧ s.f0 ≤ 9223372036854775807 ∧ -9223372036854775808 ≤ s.f1 ∧ s.f1 ≤ 9223372036854775807) → l2.length ≤ 9223372036854775807 → (∀ s ∈ l2, -9223372036854775808 ≤ s.f0 ∧ s.f0 ≤ 9223372036854775807 ∧ -9223372036854775808 ≤ s.f1 ∧ s.f1 ≤ 9223372036854775807) → ∃ k, Px.cleanselaw02_ValueRows.f k l0 l1 l2 = some true := by
  intro l m r _ _ _ _ _ _
  refine ⟨200, ?_⟩
  unfold Px.cleanselaw02_ValueRows.f
  rw [show X.cleanselaw02_head.f = some true from rfl]
  simp only [Option.bind_some]
  have hj : Px.cleanselaw02_ValueRows.j0 200 l m r true true = some true := by simp only [Px.cleanselaw02_ValueRows.j0]; rw [if_pos trivial]
  by_cases h1 : (l.length : Int) > 20
  · rw [if_pos h1]; exact hj
  rw [if_neg h1]
  by_cases h2 : (m.length : Int) > 20
  · rw [if_pos h2]; exact hj
  rw [if_neg h2]
  by_cases h3 : (r.length : Int) > 20
  · rw [if_pos h3]; exact hj
  rw [if_neg h3, short_f l (by omega) 200 (by omega)]
  simp only [Option.bind_some]
  by_cases s1 : shortB l = true
  case neg => rw [if_neg s1]; exact hj
  rw [if_pos s1, short_f m (by omega) 200 (by omega)]
  simp only [Option.bind_some]
  by_cases s2 : shortB m = true
  case neg => rw [if_neg s2]; exact hj
  rw [if_pos s2, short_f r (by omega) 200 (by omega)]
  simp only [Option.bind_some]
  by_cases s3 : shortB r = true
  case neg => rw [show (!shortB r) = true by simpa using s3]; exact hj
  rw [s3]
  have R := ord_row ord_cv
  simp only [Px.cleanselaw02_ValueRows.j0, Px.cleanselaw02_ValueRows.j1]
  rw [if_neg (by simp), rows_f l m (by omega) 199 (by omega), refRows_f l m (by omega) 199 (by omega), rows_f m l (by omega) 199 (by omega)]
  simp only [Option.bind_some]
  rw [if_pos trivial, R.anti l m]
  have b1 := R.lo l m
  have b2 := R.hi l m
  rw [show wrap64 (-rowZ cv l m) = -rowZ cv l m by unfold wrap64; omega]
  rw [if_neg (by simp)]
  refine rows_loop l m r (by omega) (by omega) (by omega) (min l.length m.length) 0 198 _ (by omega) (by omega) ?_
  rw [List.drop_zero, List.drop_zero, Bool.eq_iff_iff, eqsL_iff, beq_iff_eq, R.zero]
end Go.Proofs.YthgppbpmcjkadaaGreatDoor.Pure
