/- Bytes cut short behind a token have that token; gaps cut short; the errors of a scan. -/
import Derived.Test.YtemjgafocgnccaaDoorPlB
set_option linter.unusedVariables false
set_option linter.unusedSimpArgs false
namespace Go.Proofs.YtemjgafocgnccaaDoor.X
open Go.RowKit Go.Proofs.YtemjgafocgnccaaDoorW.PrintWords Go.Proofs.YtemjgafocgnccaaDoorW.PrintMore
theorem gap_drop : ∀ (l : List Int) (cm : Bool), gapL false (l.drop (gapL cm l)) = 0
  | [], cm => by cases cm <;> rfl
  | c :: l, cm => by
    have h1 := gap_drop l true
    have h2 := gap_drop l false
    by_cases e1 : c = 10
    · have : gapL cm (c :: l) = gapL false l + 1 := by simp only [gapL]; rw [if_pos e1]; omega
      rw [this, List.drop_succ_cons]; exact h2
    by_cases e2 : c = 35
    · have : gapL cm (c :: l) = gapL true l + 1 := by simp only [gapL]; rw [if_neg e1, if_pos e2]; omega
      rw [this, List.drop_succ_cons]; exact h1
    by_cases e3 : cm = true
    · have : gapL cm (c :: l) = gapL true l + 1 := by simp only [gapL]; rw [if_neg e1, if_neg e2, if_pos e3]; omega
      rw [this, List.drop_succ_cons]; exact h1
    by_cases e4 : c = 32 ∨ c = 9
    · have : gapL cm (c :: l) = gapL false l + 1 := by simp only [gapL]; rw [if_neg e1, if_neg e2, if_neg e3, if_pos e4]; omega
      rw [this, List.drop_succ_cons]; exact h2
    · have : gapL cm (c :: l) = 0 := by simp only [gapL]; rw [if_neg e1, if_neg e2, if_neg e3, if_neg e4]
      rw [this, List.drop_zero]
      simp only [gapL]; rw [if_neg e1, if_neg e2, if_neg (by simp), if_neg e4]
theorem gap_take : ∀ (l : List Int) (M : Nat) (cm : Bool), gapL cm (l.take M) = min M (gapL cm l)
  | [], M, cm => by simp [gapL]
  | c :: l, 0, cm => by simp [gapL]
  | c :: l, M + 1, cm => by
    have h1 := gap_take l M true
    have h2 := gap_take l M false
    rw [List.take_succ_cons]
    simp only [gapL]
    split
    · omega
    · split
      · omega
      · split
        · omega
        · split <;> omega
theorem run_min (p : Int → Bool) : ∀ (l : List Int) (M : Nat), run p (l.take M) = min M (run p l)
  | [], M => by simp [run]
  | c :: l, 0 => by simp [run]
  | c :: l, M + 1 => by
    have ih := run_min p l M
    unfold run at *
    rw [List.take_succ_cons]
    by_cases h : p c = true
    · rw [List.takeWhile_cons_of_pos h, List.takeWhile_cons_of_pos h, List.length_cons, List.length_cons, ih]; omega
    · rw [List.takeWhile_cons_of_neg h, List.takeWhile_cons_of_neg h]; simp
theorem head_take (l : List Int) (M : Nat) (h : 1 ≤ M) : (l.take M).headD 0 = l.headD 0 := by
  obtain ⟨M, rfl⟩ : ∃ k, M = k + 1 := ⟨M - 1, by omega⟩
  cases l <;> rfl
theorem take_take_le (l : List Int) (m M : Nat) (h : m ≤ M) : (l.take M).take m = l.take m := by rw [List.take_take, Nat.min_eq_left h]
theorem quote_take : ∀ (l acc : List Int) (i M : Nat) {k : Int} {s : ByteArray} {n : Int} {m : Nat}, quoteL l acc i = .tok k s n m → m ≤ i + 1 + M → quoteL (l.take M) acc i = .tok k s n m
  | [], acc, i, M, k, s, n, m, h, _ => by rw [quote_end _ _ _ rfl] at h; cases h
  | c :: r, acc, i, M, k, s, n, m, h, hm => by
    have hq := quote_len _ _ _ h
    obtain ⟨M, rfl⟩ : ∃ k, M = k + 1 := ⟨M - 1, by omega⟩
    rw [List.take_succ_cons]
    by_cases h1 : c = 34
    · subst h1
      rw [quote_34] at h ⊢
      exact h
    by_cases h2 : c = 10
    · subst h2
      rw [quote_10] at h
      cases h
    by_cases h3 : c = 92
    · subst h3
      cases r with
      | nil => rw [quote_92_end] at h; cases h
      | cons d r' =>
        rw [quote_92] at h
        split at h
        · cases h
        · rename_i he
          have hq2 := quote_len _ _ _ h
          obtain ⟨M, rfl⟩ : ∃ k, M = k + 1 := ⟨M - 1, by omega⟩
          rw [List.take_succ_cons, quote_92, if_neg he]
          exact quote_take r' _ _ M h (by omega)
    · rw [quote_else _ _ _ _ h1 h2 h3] at h ⊢
      exact quote_take r _ _ M h (by omega)
theorem prefix_take (x y : Int) (l : List Int) (M : Nat) (hM : 1 ≤ M) : ([x, y] : List Int).isPrefixOf (l.take M) = (decide (2 ≤ M) && ([x, y] : List Int).isPrefixOf l) := by
  obtain ⟨M, rfl⟩ : ∃ k, M = k + 1 := ⟨M - 1, by omega⟩
  cases l with
  | nil => simp [List.isPrefixOf]
  | cons a l =>
    cases M with
    | zero => simp [List.isPrefixOf]
    | succ M =>
      cases l with
      | nil => simp [List.isPrefixOf]
      | cons b l => simp [List.isPrefixOf]
theorem number_none {l : List Int} (h : numberZ l = .none) : run digitZ l = 0 := by
  unfold numberZ at h
  split at h
  · assumption
  · split at h
    · cases h
    · split at h <;> cases h
theorem number_zero {l : List Int} (h : run digitZ l = 0) : numberZ l = .none := by unfold numberZ; rw [if_pos h]
theorem name_none {l : List Int} (h : nameZ l = .none) : letterZ (l.headD 0) = false := by
  unfold nameZ at h
  split at h
  · split at h <;> cases h
  · rename_i h1; simpa using h1
theorem name_false {l : List Int} (h : letterZ (l.headD 0) = false) : nameZ l = .none := by unfold nameZ; rw [h, if_neg (by simp)]
theorem quote_noneL : ∀ (l acc : List Int) (i : Nat), quoteL l acc i ≠ .none
  | [], acc, i, h => by rw [quote_end _ _ _ rfl] at h; cases h
  | c :: r, acc, i, h => by
    by_cases h1 : c = 34
    · subst h1
      rw [quote_34] at h
      split at h <;> cases h
    by_cases h2 : c = 10
    · subst h2; rw [quote_10] at h; cases h
    by_cases h3 : c = 92
    · subst h3
      cases r with
      | nil => rw [quote_92_end] at h; cases h
      | cons d r' =>
        rw [quote_92] at h
        split at h
        · cases h
        · exact quote_noneL r' _ _ h
    · rw [quote_else _ _ _ _ h1 h2 h3] at h
      exact quote_noneL r _ _ h
theorem quoted_none {l : List Int} (h : quotedZ l = .none) : l.headD 0 ≠ 34 := by
  unfold quotedZ at h
  split at h
  · exact absurd h (quote_noneL _ _ _)
  · assumption
theorem quoted_ne {l : List Int} (h : l.headD 0 ≠ 34) : quotedZ l = .none := by unfold quotedZ; rw [if_neg h]
/-- Which of the four readers it is. -/
theorem tok_split (l : List Int) : (letterZ (l.headD 0) = true ∧ tokZ l = nameZ l) ∨ (letterZ (l.headD 0) = false ∧ run digitZ l ≠ 0 ∧ tokZ l = numberZ l) ∨ (letterZ (l.headD 0) = false ∧ run digitZ l = 0 ∧ l.headD 0 = 34 ∧ tokZ l = quotedZ l) ∨
    (letterZ (l.headD 0) = false ∧ run digitZ l = 0 ∧ l.headD 0 ≠ 34 ∧ tokZ l = symbolZ l) := by
  cases h1 : letterZ (l.headD 0) with
  | true =>
    refine .inl ⟨rfl, ?_⟩
    unfold tokZ
    cases hn : nameZ l with
    | none => have := name_none hn; rw [h1] at this; cases this
    | err x => rfl
    | tok k s n m => rfl
  | false =>
    have e1 := name_false h1
    by_cases h2 : run digitZ l = 0
    · have e2 := number_zero h2
      by_cases h3 : l.headD 0 = 34
      · refine .inr (.inr (.inl ⟨rfl, h2, h3, ?_⟩))
        unfold tokZ
        rw [e1, e2]
        cases hq : quotedZ l with
        | none => exact absurd h3 (quoted_none hq)
        | err x => rfl
        | tok k s n m => rfl
      · refine .inr (.inr (.inr ⟨rfl, h2, h3, ?_⟩))
        unfold tokZ
        rw [e1, e2, quoted_ne h3]
    · refine .inr (.inl ⟨rfl, h2, ?_⟩)
      unfold tokZ
      rw [e1]
      cases hq : numberZ l with
      | none => exact absurd (number_none hq) h2
      | err x => rfl
      | tok k s n m => rfl
theorem tok_take (l : List Int) (M : Nat) {k : Int} {s : ByteArray} {n : Int} {m : Nat} (hl : l ≠ []) (h : tokZ l = .tok k s n m) (hm : m ≤ M) : tokZ (l.take M) = .tok k s n m := by
  have h1 := tok_len hl h
  have hh := head_take l M (by omega)
  have hr := run_min digitZ l M
  have hri := run_min innerZ l M
  have hs := tok_split (l.take M)
  rw [hh] at hs
  rcases tok_split l with ⟨a, e⟩ | ⟨a, b, e⟩ | ⟨a, b, c, e⟩ | ⟨a, b, c, e⟩
  · have ht : tokZ (l.take M) = nameZ (l.take M) := by
      rcases hs with hs | hs | hs | hs
      · exact hs.2
      · rw [a] at hs; cases hs.1
      · rw [a] at hs; cases hs.1
      · rw [a] at hs; cases hs.1
    rw [ht]
    rw [e] at h
    unfold nameZ at h ⊢
    rw [hh, if_pos a]
    rw [if_pos a] at h
    split at h
    · cases h
    · rename_i h24
      cases h
      rw [if_neg (by omega), show run innerZ (l.take M) = run innerZ l by omega, take_take_le _ _ _ hm]
  · rw [e] at h
    unfold numberZ at h
    rw [if_neg b] at h
    split at h
    · cases h
    · rename_i h10
      split at h
      · cases h
      · rename_i hin
        cases h
        have ht : tokZ (l.take M) = numberZ (l.take M) := by
          rcases hs with hs | hs | hs | hs
          · rw [a] at hs; cases hs.1
          · exact hs.2.2
          · have := hs.2.1; omega
          · have := hs.2.1; omega
        rw [ht]
        unfold numberZ
        rw [if_neg (by omega), if_neg (by omega), if_neg (by omega), show run digitZ (l.take M) = run digitZ l by omega, take_take_le _ _ _ hm]
  · have ht : tokZ (l.take M) = quotedZ (l.take M) := by
      rcases hs with hs | hs | hs | hs
      · rw [a] at hs; cases hs.1
      · have := hs.2.1; omega
      · exact hs.2.2.2
      · exact absurd c hs.2.2.1
    rw [ht]
    rw [e] at h
    unfold quotedZ at h ⊢
    rw [if_pos c] at h
    rw [hh, if_pos c, List.drop_take]
    exact quote_take _ _ _ _ h (by omega)
  · have ht : tokZ (l.take M) = symbolZ (l.take M) := by
      rcases hs with hs | hs | hs | hs
      · rw [a] at hs; cases hs.1
      · have := hs.2.1; omega
      · exact absurd hs.2.2.1 c
      · exact hs.2.2.2
    rw [ht]
    rw [e] at h
    unfold symbolZ twoC at h ⊢
    rw [prefix_take _ _ _ _ (by omega), prefix_take _ _ _ _ (by omega), hh]
    split at h
    · rename_i h2
      cases h
      rw [decide_eq_true hm]
      simp only [Bool.true_and]
      rw [if_pos h2, take_take_le _ _ _ hm]
    · rename_i h2
      split at h
      · rename_i h3
        cases h
        have hf : ¬ ((decide (2 ≤ M) && ([33, 61] : List Int).isPrefixOf l) || (decide (2 ≤ M) && ([60, 61] : List Int).isPrefixOf l)) = true := by
          intro hx
          apply h2
          simp only [Bool.or_eq_true, Bool.and_eq_true] at hx ⊢
          rcases hx with hx | hx
          · exact .inl hx.2
          · exact .inr hx.2
        rw [if_neg hf, if_pos h3, take_take_le _ _ _ hm]
      · cases h
theorem quote_errs : ∀ (l acc : List Int) (i : Nat) {x : Int}, quoteL l acc i = .err x → x = 3 ∨ x = 5 ∨ x = 7
  | [], acc, i, x, h => by rw [quote_end _ _ _ rfl] at h; cases h; exact .inr (.inr rfl)
  | c :: r, acc, i, x, h => by
    by_cases h1 : c = 34
    · subst h1
      rw [quote_34] at h
      split at h
      · cases h; exact .inl rfl
      · cases h
    by_cases h2 : c = 10
    · subst h2; rw [quote_10] at h; cases h; exact .inr (.inl rfl)
    by_cases h3 : c = 92
    · subst h3
      cases r with
      | nil => rw [quote_92_end] at h; cases h; exact .inr (.inr rfl)
      | cons d r' =>
        rw [quote_92] at h
        split at h
        · cases h; exact .inr (.inl rfl)
        · exact quote_errs r' _ _ h
    · rw [quote_else _ _ _ _ h1 h2 h3] at h
      exact quote_errs r _ _ h
theorem tok_errs {l : List Int} {x : Int} (h : tokZ l = .err x) : x ≠ 0 := by
  rcases tok_split l with ⟨a, e⟩ | ⟨a, b, e⟩ | ⟨a, b, c, e⟩ | ⟨a, b, c, e⟩
  · rw [e] at h
    unfold nameZ at h
    rw [if_pos a] at h
    by_cases q : 24 < run innerZ l
    · rw [if_pos q] at h; cases h; decide
    · rw [if_neg q] at h; cases h
  · rw [e] at h
    unfold numberZ at h
    rw [if_neg b] at h
    by_cases q : 10 < run digitZ l
    · rw [if_pos q] at h; cases h; decide
    · rw [if_neg q] at h
      by_cases q2 : run digitZ l < run innerZ l
      · rw [if_pos q2] at h; cases h; decide
      · rw [if_neg q2] at h; cases h
  · rw [e] at h
    unfold quotedZ at h
    rw [if_pos c] at h
    rcases quote_errs _ _ _ h with rfl | rfl | rfl <;> decide
  · rw [e] at h
    unfold symbolZ at h
    by_cases q : twoC l = true
    · rw [if_pos q] at h; cases h
    · rw [if_neg q] at h
      by_cases q2 : symC (l.headD 0) = true
      · rw [if_pos q2] at h; cases h
      · rw [if_neg q2] at h; cases h
/-! ### the whole -/
def lexF (l : List Int) : Ans := Ans.sh (gapL false l) (lexB (l.drop (gapL false l)))
theorem bytes_size (t : ByteArray) : (bytesOf t).length = t.size := by unfold bytesOf; rw [List.length_map, Array.length_toList]; rfl
theorem lexZ_out (t : ByteArray) (ht : t.size ≤ 4999) : lexZ t = Ans.out 0 [] (lexF (bytesOf t)) := by
  have hs := bytes_size t
  unfold lexZ
  rw [if_neg (by omega), lexL_out _ _ _ _ (by rw [List.length_drop]; omega) (by rw [List.length_drop]; simp; omega)]
  unfold lexF
  generalize lexB ((bytesOf t).drop (gapL false (bytesOf t))) = q
  obtain ⟨ts, r⟩ := q
  cases r with
  | none => simp only [Ans.out, Ans.sh, Option.map_none, sh_sh, Nat.add_zero, List.nil_append]
  | some p => simp [Ans.out, Ans.sh, Nat.add_comm]
theorem ans_some {q : Ans} {ts : List Px.S30} {x : Int} {d g : Nat} (h : Ans.sh g q = (ts, some (x, d))) : ∃ ts' d', q = (ts', some (x, d')) ∧ d = d' + g := by
  obtain ⟨a, r⟩ := q
  cases r with
  | none => simp [Ans.sh] at h
  | some p =>
    simp only [Ans.sh, Option.map_some, Prod.mk.injEq, Option.some.injEq] at h
    obtain ⟨p1, p2⟩ := p
    exact ⟨a, p2, by have := h.2.1; simp only at this; rw [this], h.2.2.symm⟩
theorem cons_some {x0 : Px.S30} {q : Ans} {ts : List Px.S30} {r : Option (Int × Nat)} (h : Ans.cons x0 q = (ts, r)) : ∃ ts', q = (ts', r) := by
  obtain ⟨a, r0⟩ := q
  simp only [Ans.cons, Prod.mk.injEq] at h
  exact ⟨a, by rw [h.2]⟩
/-- Where a scan ends with an error: the bytes up to there have none; from there on, the same at once. -/
theorem lexB_at (k : Nat) (l : List Int) (hk : l.length ≤ k) : gapL false l = 0 → ∀ ts x d, lexB l = (ts, some (x, d)) → x ≠ 0 ∧ d < l.length ∧ gapL false (l.drop d) = 0 ∧ lexB (l.drop d) = ([], some (x, 0)) ∧ (lexB (l.take d)).2 = none := by
  refine lex_ind (C := fun l => gapL false l = 0 → ∀ ts x d, lexB l = (ts, some (x, d)) → x ≠ 0 ∧ d < l.length ∧ gapL false (l.drop d) = 0 ∧ lexB (l.drop d) = ([], some (x, 0)) ∧ (lexB (l.take d)).2 = none) ?_ ?_ ?_ ?_ k l hk
  · intro _ ts x d h
    rw [lexB_nil] at h; cases h
  · intro l y hl ht hg ts x d h
    rw [lexB_err hl ht] at h
    cases h
    exact ⟨tok_errs ht, List.length_pos_iff.2 hl, hg, lexB_err hl ht, rfl⟩
  · intro l hl ht hg ts x d h
    rw [lexB_none hl ht] at h
    cases h
    exact ⟨by decide, List.length_pos_iff.2 hl, hg, lexB_none hl ht, rfl⟩
  · intro l kd s n m hl ht h1 hm ih hg ts x d h
    rw [lexB_tok hl ht] at h
    obtain ⟨ts1, hq1⟩ := cons_some h
    obtain ⟨ts2, d', hq2, rfl⟩ := ans_some hq1
    have hgd : gapL false (l.drop (m + gapL false (l.drop m))) = 0 := by rw [← List.drop_drop]; exact gap_drop _ _
    obtain ⟨r1, r2, r3, r4, r5⟩ := ih hgd _ _ _ hq2
    rw [List.drop_drop] at r3 r4
    rw [List.length_drop] at r2
    have hc : d' + (m + gapL false (l.drop m)) = m + gapL false (l.drop m) + d' := by omega
    rw [hc]
    refine ⟨r1, by omega, r3, r4, ?_⟩
    have hne : l.take (m + gapL false (l.drop m) + d') ≠ [] := by
      intro e
      have := congrArg List.length e
      rw [List.length_take, List.length_nil] at this
      omega
    have htt := tok_take l (m + gapL false (l.drop m) + d') hl ht (by omega)
    have hgt : gapL false ((l.take (m + gapL false (l.drop m) + d')).drop m) = gapL false (l.drop m) := by
      rw [List.drop_take, gap_take]; omega
    rw [lexB_tok hne htt, hgt, List.drop_take, show m + gapL false (l.drop m) + d' - (m + gapL false (l.drop m)) = d' by omega]
    generalize lexB ((l.drop (m + gapL false (l.drop m))).take d') = q at *
    obtain ⟨a, r⟩ := q
    simp only at r5
    subst r5
    rfl
end Go.Proofs.YtemjgafocgnccaaDoor.X
