/- Bytes continued behind a line feed: the tokens, the errors. -/
import Derived.Test.YtemjgafocgnccaaDoorPlC
set_option linter.unusedVariables false
set_option linter.unusedSimpArgs false
namespace Go.Proofs.YtemjgafocgnccaaDoor.X
open Go.RowKit Go.Proofs.YtemjgafocgnccaaDoorW.PrintWords Go.Proofs.YtemjgafocgnccaaDoorW.PrintMore
theorem run_nl (p : Int → Bool) (hp : p 10 = false) : ∀ (l r : List Int), run p (l ++ 10 :: r) = run p l
  | [], r => by
    unfold run
    rw [List.nil_append, List.takeWhile_cons_of_neg (by rw [hp]; simp)]; rfl
  | c :: l, r => by
    have ih := run_nl p hp l r
    unfold run at *
    rw [List.cons_append]
    by_cases h : p c = true
    · rw [List.takeWhile_cons_of_pos h, List.takeWhile_cons_of_pos h, List.length_cons, List.length_cons, ih]
    · rw [List.takeWhile_cons_of_neg h, List.takeWhile_cons_of_neg h]
theorem gap_nl : ∀ (l r : List Int) (cm : Bool), gapL cm (l ++ 10 :: r) = if gapL cm l = l.length then l.length + 1 + gapL false r else gapL cm l
  | [], r, cm => by simp [gapL]
  | c :: l, r, cm => by
    have h1 := gap_nl l r true
    have h2 := gap_nl l r false
    have l1 := gap_le l true
    have l2 := gap_le l false
    rw [List.cons_append, List.length_cons]
    by_cases e1 : c = 10
    · have a : ∀ x, gapL cm (c :: x) = 1 + gapL false x := fun x => by simp only [gapL]; rw [if_pos e1]
      rw [a, a, h2]; split <;> split <;> omega
    by_cases e2 : c = 35
    · have a : ∀ x, gapL cm (c :: x) = 1 + gapL true x := fun x => by simp only [gapL]; rw [if_neg e1, if_pos e2]
      rw [a, a, h1]; split <;> split <;> omega
    by_cases e3 : cm = true
    · have a : ∀ x, gapL cm (c :: x) = 1 + gapL true x := fun x => by simp only [gapL]; rw [if_neg e1, if_neg e2, if_pos e3]
      rw [a, a, h1]; split <;> split <;> omega
    by_cases e4 : c = 32 ∨ c = 9
    · have a : ∀ x, gapL cm (c :: x) = 1 + gapL false x := fun x => by simp only [gapL]; rw [if_neg e1, if_neg e2, if_neg e3, if_pos e4]
      rw [a, a, h2]; split <;> split <;> omega
    · have a : ∀ x, gapL cm (c :: x) = 0 := fun x => by simp only [gapL]; rw [if_neg e1, if_neg e2, if_neg e3, if_neg e4]
      rw [a, a, if_neg (by omega)]
theorem digit_10 : digitZ 10 = false := by decide
theorem inner_10 : innerZ 10 = false := by decide
theorem head_app {l : List Int} (hl : l ≠ []) (r : List Int) : (l ++ r).headD 0 = l.headD 0 := by
  cases l with
  | nil => exact absurd rfl hl
  | cons c l => rfl
theorem quote_nl : ∀ (l r acc : List Int) (i : Nat), (∀ k s n m, quoteL l acc i = .tok k s n m → quoteL (l ++ 10 :: r) acc i = .tok k s n m) ∧ (∀ x, quoteL l acc i = .err x → ∃ y, quoteL (l ++ 10 :: r) acc i = .err y)
  | [], r, acc, i => by
    constructor
    · intro k s n m h; rw [quote_end _ _ _ rfl] at h; cases h
    · intro x h; exact ⟨5, by rw [List.nil_append, quote_10]⟩
  | c :: l, r, acc, i => by
    rw [List.cons_append]
    by_cases h1 : c = 34
    · subst h1
      rw [quote_34, quote_34]
      exact ⟨fun k s n m h => h, fun x h => ⟨x, h⟩⟩
    by_cases h2 : c = 10
    · subst h2
      rw [quote_10, quote_10]
      exact ⟨fun k s n m h => h, fun x h => ⟨x, h⟩⟩
    by_cases h3 : c = 92
    · subst h3
      cases l with
      | nil =>
        rw [quote_92_end, List.nil_append, quote_92, if_pos (by decide)]
        exact ⟨fun k s n m h => by (cases h), fun x h => ⟨5, rfl⟩⟩
      | cons d l =>
        rw [List.cons_append, quote_92, quote_92]
        by_cases he : escZ d < 0
        · rw [if_pos he, if_pos he]
          exact ⟨fun k s n m h => h, fun x h => ⟨x, h⟩⟩
        · rw [if_neg he, if_neg he]
          exact quote_nl l r _ _
    · rw [quote_else _ _ _ _ h1 h2 h3, quote_else _ _ _ _ h1 h2 h3]
      exact quote_nl l r _ _
theorem two_nl {l : List Int} (hl : l ≠ []) (r : List Int) : twoC (l ++ 10 :: r) = twoC l := by
  cases l with
  | nil => exact absurd rfl hl
  | cons a l =>
    cases l with
    | nil => simp [twoC, List.isPrefixOf]
    | cons b l => simp [twoC, List.isPrefixOf]
theorem take_app (l r : List Int) (m : Nat) (h : m ≤ l.length) : (l ++ r).take m = l.take m := by
  rw [List.take_append, show m - l.length = 0 by omega, List.take_zero, List.append_nil]
theorem tok_nl {l : List Int} (hl : l ≠ []) (r : List Int) : (∀ k s n m, tokZ l = .tok k s n m → tokZ (l ++ 10 :: r) = .tok k s n m) ∧ ((∃ x, tokZ l = .err x) ∨ tokZ l = .none → (∃ y, tokZ (l ++ 10 :: r) = .err y) ∨ tokZ (l ++ 10 :: r) = .none) := by
  have hh := head_app hl (10 :: r)
  have hr := run_nl digitZ digit_10 l r
  have hri := run_nl innerZ inner_10 l r
  have hs := tok_split (l ++ 10 :: r)
  rw [hh, hr] at hs
  rcases tok_split l with ⟨a, e⟩ | ⟨a, b, e⟩ | ⟨a, b, c, e⟩ | ⟨a, b, c, e⟩
  · have ht : tokZ (l ++ 10 :: r) = nameZ (l ++ 10 :: r) := by
      rcases hs with hs | hs | hs | hs
      · exact hs.2
      · rw [a] at hs; cases hs.1
      · rw [a] at hs; cases hs.1
      · rw [a] at hs; cases hs.1
    have hn : nameZ (l ++ 10 :: r) = nameZ l := by
      unfold nameZ
      rw [hh, hri, take_app _ _ _ (run_le _ _)]
    rw [ht, e, hn]
    exact ⟨fun k s n m h => h, fun h => h⟩
  · have ht : tokZ (l ++ 10 :: r) = numberZ (l ++ 10 :: r) := by
      rcases hs with hs | hs | hs | hs
      · rw [a] at hs; cases hs.1
      · exact hs.2.2
      · exact absurd hs.2.1 b
      · exact absurd hs.2.1 b
    have hn : numberZ (l ++ 10 :: r) = numberZ l := by
      unfold numberZ
      rw [hr, hri, take_app _ _ _ (run_le _ _)]
    rw [ht, e, hn]
    exact ⟨fun k s n m h => h, fun h => h⟩
  · have ht : tokZ (l ++ 10 :: r) = quotedZ (l ++ 10 :: r) := by
      rcases hs with hs | hs | hs | hs
      · rw [a] at hs; cases hs.1
      · exact absurd b hs.2.1
      · exact hs.2.2.2
      · exact absurd c hs.2.2.1
    have hd : (l ++ 10 :: r).drop 1 = l.drop 1 ++ 10 :: r := by
      cases l with
      | nil => exact absurd rfl hl
      | cons c l => rfl
    rw [ht, e]
    unfold quotedZ
    rw [hh, if_pos c, if_pos c, hd]
    obtain ⟨q1, q2⟩ := quote_nl (l.drop 1) r [] 0
    refine ⟨q1, ?_⟩
    rintro (⟨x, h⟩ | h)
    · exact .inl (q2 x h)
    · exact absurd h (quote_noneL _ _ _)
  · have ht : tokZ (l ++ 10 :: r) = symbolZ (l ++ 10 :: r) := by
      rcases hs with hs | hs | hs | hs
      · rw [a] at hs; cases hs.1
      · exact absurd b hs.2.1
      · exact absurd hs.2.2.1 c
      · exact hs.2.2.2
    have hn : symbolZ (l ++ 10 :: r) = symbolZ l := by
      unfold symbolZ
      rw [hh, two_nl hl]
      by_cases h2 : twoC l = true
      · rw [if_pos h2, if_pos h2, take_app _ _ _ (by
          unfold twoC at h2
          simp only [Bool.or_eq_true] at h2
          rcases h2 with h2 | h2
          · exact prefix_len _ _ _ h2
          · exact prefix_len _ _ _ h2)]
      · rw [if_neg h2, if_neg h2, take_app _ _ _ (List.length_pos_iff.2 hl)]
    rw [ht, e, hn]
    exact ⟨fun k s n m h => h, fun h => h⟩
/-- Two texts with a line feed between them. -/
def Ans.plus (q p : Ans) : Ans := (q.1 ++ p.1, p.2)
theorem gap_drop_le (l : List Int) (m : Nat) (h : m ≤ l.length) : m + gapL false (l.drop m) ≤ l.length := by
  have := gap_le (l.drop m) false
  rw [List.length_drop] at this
  omega
theorem sh_plus (g : Nat) (q p : Ans) : Ans.sh g (Ans.plus q p) = Ans.plus (Ans.sh g q) (Ans.sh g p) := by
  simp [Ans.sh, Ans.plus]
theorem sh_ans (a b : Nat) (q : Ans) : Ans.sh b (Ans.sh a q) = Ans.sh (a + b) q := by
  obtain ⟨ts, r⟩ := q
  cases r with
  | none => simp only [Ans.sh, Option.map_none, sh_sh]
  | some p => simp only [Ans.sh, Option.map_some, sh_sh, Nat.add_assoc]
theorem lexB_plus (r : List Int) (k : Nat) (l : List Int) (hk : l.length ≤ k) : (∀ ts, lexB l = (ts, none) → l ≠ [] → lexB (l ++ 10 :: r) = Ans.plus (ts, none) (Ans.sh (l.length + 1) (lexF r))) ∧ (∀ ts x d, lexB l = (ts, some (x, d)) → (lexB (l ++ 10 :: r)).2 ≠ none) := by
  refine lex_ind (C := fun l => (∀ ts, lexB l = (ts, none) → l ≠ [] → lexB (l ++ 10 :: r) = Ans.plus (ts, none) (Ans.sh (l.length + 1) (lexF r))) ∧ (∀ ts x d, lexB l = (ts, some (x, d)) → (lexB (l ++ 10 :: r)).2 ≠ none)) ?_ ?_ ?_ ?_ k l hk
  · exact ⟨fun ts _ h => absurd rfl h, fun ts x d h => by (rw [lexB_nil] at h; cases h)⟩
  · intro l y hl ht
    refine ⟨fun ts h _ => by (rw [lexB_err hl ht] at h; cases h), fun ts x d h => ?_⟩
    rcases (tok_nl hl r).2 (.inl ⟨_, ht⟩) with ⟨z, hz⟩ | hz
    · rw [lexB_err (by simp) hz]; simp
    · rw [lexB_none (by simp) hz]; simp
  · intro l hl ht
    refine ⟨fun ts h _ => by (rw [lexB_none hl ht] at h; cases h), fun ts x d h => ?_⟩
    rcases (tok_nl hl r).2 (.inr ht) with ⟨z, hz⟩ | hz
    · rw [lexB_err (by simp) hz]; simp
    · rw [lexB_none (by simp) hz]; simp
  · intro l kd s n m hl ht h1 hm ih
    have htn := (tok_nl hl r).1 _ _ _ _ ht
    have hdm : (l ++ 10 :: r).drop m = l.drop m ++ 10 :: r := by rw [List.drop_append, show m - l.length = 0 by omega, List.drop_zero]
    have hgle := gap_drop_le l m hm
    have hgn : gapL false ((l ++ 10 :: r).drop m) = if gapL false (l.drop m) = (l.drop m).length then (l.drop m).length + 1 + gapL false r else gapL false (l.drop m) := by rw [hdm, gap_nl]
    rw [List.length_drop] at hgn
    have hn := lexB_tok (l := l ++ 10 :: r) (by simp) htn
    have hl0 := lexB_tok hl ht
    by_cases hend : m + gapL false (l.drop m) = l.length
    · rw [if_pos (by omega)] at hgn
      have hd0 : l.drop (m + gapL false (l.drop m)) = [] := List.drop_of_length_le (by omega)
      rw [hd0, lexB_nil] at hl0
      rw [hgn, show m + (l.length - m + 1 + gapL false r) = l.length + 1 + gapL false r by omega] at hn
      have hd1 : (l ++ 10 :: r).drop (l.length + 1 + gapL false r) = r.drop (gapL false r) := by
        rw [List.drop_append, List.drop_of_length_le (by omega), List.nil_append, show l.length + 1 + gapL false r - l.length = gapL false r + 1 by omega, List.drop_succ_cons]
      rw [hd1] at hn
      constructor
      · intro ts h _
        rw [hl0] at h
        simp only [Ans.cons, Ans.sh, List.map_nil, Option.map_none, Prod.mk.injEq, and_true] at h
        subst h
        rw [hn, Nat.add_comm (l.length + 1), ← sh_ans]
        rfl
      · intro ts x d h
        rw [hl0] at h
        simp [Ans.cons, Ans.sh] at h
    · rw [if_neg (by omega)] at hgn
      rw [hgn] at hn
      have hd1 : (l ++ 10 :: r).drop (m + gapL false (l.drop m)) = l.drop (m + gapL false (l.drop m)) ++ 10 :: r := by rw [List.drop_append, show m + gapL false (l.drop m) - l.length = 0 by omega, List.drop_zero]
      rw [hd1] at hn
      have hne : l.drop (m + gapL false (l.drop m)) ≠ [] := by
        intro e
        have := congrArg List.length e
        rw [List.length_drop, List.length_nil] at this
        omega
      have hlen : (l.drop (m + gapL false (l.drop m))).length = l.length - (m + gapL false (l.drop m)) := List.length_drop
      constructor
      · intro ts h _
        rw [hl0] at h
        rcases hq : lexB (l.drop (m + gapL false (l.drop m))) with ⟨a, b⟩
        rw [hq] at h
        simp only [Ans.cons, Ans.sh, Prod.mk.injEq] at h
        have hb : b = none := by
          cases b with
          | none => rfl
          | some p => simp at h
        subst hb
        rw [hn, ih.1 a hq hne, ← h.1, hlen]
        rw [sh_plus, sh_ans, show l.length - (m + gapL false (l.drop m)) + 1 + (m + gapL false (l.drop m)) = l.length + 1 by omega]
        simp [Ans.cons, Ans.plus, Ans.sh]
      · intro ts x d h
        rw [hl0] at h
        obtain ⟨ts1, hq1⟩ := cons_some h
        obtain ⟨ts2, d', hq2, rfl⟩ := ans_some hq1
        have := ih.2 _ _ _ hq2
        rw [hn]
        simpa [Ans.cons, Ans.sh] using this
theorem lexF_plus (l r : List Int) : (∀ ts, lexF l = (ts, none) → lexF (l ++ 10 :: r) = Ans.plus (ts, none) (Ans.sh (l.length + 1) (lexF r))) ∧ (∀ ts x d, lexF l = (ts, some (x, d)) → (lexF (l ++ 10 :: r)).2 ≠ none) := by
  have hgle := gap_le l false
  have hg := gap_nl l r false
  by_cases hend : gapL false l = l.length
  · rw [if_pos hend] at hg
    have hd0 : l.drop (gapL false l) = [] := List.drop_of_length_le (by omega)
    have hl0 : lexF l = ([], none) := by unfold lexF; rw [hd0, lexB_nil]; rfl
    have hd1 : (l ++ 10 :: r).drop (l.length + 1 + gapL false r) = r.drop (gapL false r) := by
      rw [List.drop_append, List.drop_of_length_le (by omega), List.nil_append, show l.length + 1 + gapL false r - l.length = gapL false r + 1 by omega, List.drop_succ_cons]
    constructor
    · intro ts h
      rw [hl0] at h
      cases h
      unfold lexF
      rw [hg, hd1, sh_ans, Nat.add_comm (l.length + 1)]
      simp [Ans.plus, Ans.sh]
    · intro ts x d h
      rw [hl0] at h
      cases h
  · rw [if_neg hend] at hg
    have hd1 : (l ++ 10 :: r).drop (gapL false l) = l.drop (gapL false l) ++ 10 :: r := by rw [List.drop_append, show gapL false l - l.length = 0 by omega, List.drop_zero]
    have hne : l.drop (gapL false l) ≠ [] := by
      intro e
      have := congrArg List.length e
      rw [List.length_drop, List.length_nil] at this
      omega
    have hlen : (l.drop (gapL false l)).length = l.length - gapL false l := List.length_drop
    obtain ⟨p1, p2⟩ := lexB_plus r _ (l.drop (gapL false l)) (Nat.le_refl _)
    constructor
    · intro ts h
      unfold lexF at h
      rcases hq : lexB (l.drop (gapL false l)) with ⟨a, b⟩
      rw [hq] at h
      have hb : b = none := by
        cases b with
        | none => rfl
        | some p => simp [Ans.sh] at h
      subst hb
      simp only [Ans.sh, Option.map_none, Prod.mk.injEq, and_true] at h
      have : lexF (l ++ 10 :: r) = Ans.sh (gapL false l) (lexB (l.drop (gapL false l) ++ 10 :: r)) := by
        conv => lhs; unfold lexF
        rw [hg, hd1]
      rw [this, p1 a hq hne, sh_plus, sh_ans, hlen, show l.length - gapL false l + 1 + gapL false l = l.length + 1 by omega, ← h]
      rfl
    · intro ts x d h
      unfold lexF at h
      obtain ⟨ts2, d', hq2, rfl⟩ := ans_some h
      have h2 := p2 _ _ _ hq2
      have : lexF (l ++ 10 :: r) = Ans.sh (gapL false l) (lexB (l.drop (gapL false l) ++ 10 :: r)) := by
        conv => lhs; unfold lexF
        rw [hg, hd1]
      rw [this]
      simpa [Ans.sh] using h2
end Go.Proofs.YtemjgafocgnccaaDoor.X
