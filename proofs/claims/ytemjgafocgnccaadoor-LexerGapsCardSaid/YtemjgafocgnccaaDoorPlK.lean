/- Where tokens stand: gaps before them, their texts, their quotes. -/
import Derived.Test.YtemjgafocgnccaaDoorPlF
import Derived.Test.YtemjgafocgnccaaDoorPx9
import Derived.Test.YtemjgafocgnccaaDoorPx7
set_option linter.unusedVariables false
set_option linter.unusedSimpArgs false
namespace Go.Proofs.YtemjgafocgnccaaDoor.X
open Go.RowKit Go.Proofs.YtemjgafocgnccaaDoorW.PrintWords Go.Proofs.YtemjgafocgnccaaDoorW.PrintMore
theorem tok_facts {l : List Int} {kd : Int} {s : ByteArray} {n : Int} {m : Nat} (h : tokZ l = .tok kd s n m) : (kd ≠ 3 ∧ s = strOfNums (l.take m)) ∨ (kd = 3 ∧ l.headD 0 = 34 ∧ quoteL (l.drop 1) [] 0 = .tok kd s n m) := by
  rcases tok_split l with ⟨a, e⟩ | ⟨a, b, e⟩ | ⟨a, b, c, e⟩ | ⟨a, b, c, e⟩
  · rw [e] at h
    unfold nameZ at h
    rw [if_pos a] at h
    by_cases q : 24 < run innerZ l
    · rw [if_pos q] at h; cases h
    · rw [if_neg q] at h; cases h; exact .inl ⟨by decide, rfl⟩
  · rw [e] at h
    unfold numberZ at h
    rw [if_neg b] at h
    by_cases q : 10 < run digitZ l
    · rw [if_pos q] at h; cases h
    · rw [if_neg q] at h
      by_cases q2 : run digitZ l < run innerZ l
      · rw [if_pos q2] at h; cases h
      · rw [if_neg q2] at h; cases h; exact .inl ⟨by decide, rfl⟩
  · rw [e] at h
    unfold quotedZ at h
    rw [if_pos c] at h
    have hk : kd = 3 := by
      have : ∀ (l acc : List Int) (i : Nat) {k : Int} {s : ByteArray} {n : Int} {m : Nat}, quoteL l acc i = .tok k s n m → k = 3 := by
        intro l
        induction hn : l.length using Nat.strongRecOn generalizing l with
        | _ N ih =>
          intro acc i k s n m h
          cases l with
          | nil => rw [quote_end _ _ _ rfl] at h; cases h
          | cons c r =>
            by_cases h1 : c = 34
            · subst h1
              rw [quote_34] at h
              split at h
              · cases h
              · cases h; rfl
            by_cases h2 : c = 10
            · subst h2; rw [quote_10] at h; cases h
            by_cases h3 : c = 92
            · subst h3
              cases r with
              | nil => rw [quote_92_end] at h; cases h
              | cons d r' =>
                rw [quote_92] at h
                split at h
                · cases h
                · exact ih r'.length (by simp at hn; omega) r' rfl _ _ h
            · rw [quote_else _ _ _ _ h1 h2 h3] at h
              exact ih r.length (by simp at hn; omega) r rfl _ _ h
      exact this _ _ _ h
    exact .inr ⟨hk, c, h⟩
  · rw [e] at h
    unfold symbolZ at h
    by_cases q : twoC l = true
    · rw [if_pos q] at h; cases h; exact .inl ⟨by decide, rfl⟩
    · rw [if_neg q] at h
      by_cases q2 : symC (l.headD 0) = true
      · rw [if_pos q2] at h; cases h; exact .inl ⟨by decide, rfl⟩
      · rw [if_neg q2] at h; cases h
theorem lexB_none_nil {l : List Int} (h : lexB l = ([], none)) : l = [] := by
  by_cases hl : l = []
  · exact hl
  · cases e : tokZ l with
    | err x => rw [lexB_err hl e] at h; cases h
    | none => rw [lexB_none hl e] at h; cases h
    | tok kd s n m => rw [lexB_tok hl e] at h; simp [Ans.cons] at h
theorem lexB_cons {l : List Int} {x : Px.S30} {ts : List Px.S30} (h : lexB l = (x :: ts, none)) : l ≠ [] ∧ ∃ kd s n m, tokZ l = .tok kd s n m ∧ x = ⟨kd, s, n, 0⟩ ∧ ∃ ts', lexB (l.drop (m + gapL false (l.drop m))) = (ts', none) ∧ ts = ts'.map (sh (m + gapL false (l.drop m))) := by
  by_cases hl : l = []
  · subst hl; rw [lexB_nil] at h; cases h
  · refine ⟨hl, ?_⟩
    cases e : tokZ l with
    | err x => rw [lexB_err hl e] at h; cases h
    | none => rw [lexB_none hl e] at h; cases h
    | tok kd s n m =>
      refine ⟨kd, s, n, m, rfl, ?_⟩
      rw [lexB_tok hl e] at h
      rcases hq : lexB (l.drop (m + gapL false (l.drop m))) with ⟨a, b⟩
      rw [hq] at h
      simp only [Ans.cons, Ans.sh, Prod.mk.injEq, List.cons.injEq] at h
      have hb : b = none := by
        cases b with
        | none => rfl
        | some p => simp at h
      subst hb
      exact ⟨h.1.1.symm, a, rfl, h.1.2.symm⟩
theorem gaps_spec (t : ByteArray) (ht : t.size ≤ 100000) (k : Nat) (hk : t.size < k) : Px.cleanseref07_Gaps.f k t = some (decide (gapL false (bytesOf t) = t.size)) := by
  unfold Px.cleanseref07_Gaps.f
  have h := gap_spec t ht 0 (by omega) k hk
  rw [List.drop_zero] at h
  rw [show (0 : Int) = ((0 : Nat) : Int) from rfl, h]
  simp only [Option.bind_some]
  congr 1
  rw [Bool.eq_iff_iff, beq_iff_eq, decide_eq_true_iff]
  omega
end Go.Proofs.YtemjgafocgnccaaDoor.X
