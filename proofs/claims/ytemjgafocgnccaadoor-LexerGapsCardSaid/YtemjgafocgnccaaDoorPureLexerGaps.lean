/- Gaps put in between: before, behind and after a token that is no text; and the statement LexerGaps over plain numbers, texts and lists. -/
import Derived.Test.YtemjgafocgnccaaDoorPx13
import Derived.Test.YtemjgafocgnccaaDoorPlK
set_option linter.unusedVariables false
set_option linter.unusedSimpArgs false
namespace Go.Proofs.YtemjgafocgnccaaDoor.X
open Go.RowKit Go.Proofs.YtemjgafocgnccaaDoorW.PrintWords Go.Proofs.YtemjgafocgnccaaDoorW.PrintMore
theorem gap_true : ∀ (h : List Int), gapL false h = h.length → gapL true h = h.length
  | [], _ => rfl
  | c :: h, e => by
    have ih := gap_true h
    have l1 := gap_le h true
    have l2 := gap_le h false
    rw [List.length_cons] at e ⊢
    by_cases e1 : c = 10
    · have a : ∀ cm, gapL cm (c :: h) = 1 + gapL false h := fun cm => by simp only [gapL]; rw [if_pos e1]
      rw [a] at e ⊢; exact e
    by_cases e2 : c = 35
    · have a : ∀ cm, gapL cm (c :: h) = 1 + gapL true h := fun cm => by simp only [gapL]; rw [if_neg e1, if_pos e2]
      rw [a] at e ⊢; exact e
    have b : gapL true (c :: h) = 1 + gapL true h := by simp only [gapL]; rw [if_neg e1, if_neg e2, if_pos trivial]
    by_cases e4 : c = 32 ∨ c = 9
    · have a : gapL false (c :: h) = 1 + gapL false h := by simp only [gapL]; rw [if_neg e1, if_neg e2, if_neg (by simp), if_pos e4]
      rw [a] at e
      rw [b, ih (by omega)]; omega
    · have a : gapL false (c :: h) = 0 := by simp only [gapL]; rw [if_neg e1, if_neg e2, if_neg (by simp), if_neg e4]
      omega
theorem gap_app (h : List Int) (hh : gapL false h = h.length) : ∀ (l : List Int) (cm : Bool), gapL cm (l ++ h) = if gapL cm l = l.length then l.length + h.length else gapL cm l
  | [], cm => by
    have h2 := gap_true h hh
    cases cm
    · simp [gapL, hh]
    · simp [gapL, h2]
  | c :: l, cm => by
    have h1 := gap_app h hh l true
    have h2 := gap_app h hh l false
    have l1 := gap_le l true
    have l2 := gap_le l false
    rw [List.cons_append, List.length_cons]
    by_cases e1 : c = 10
    · have a : ∀ x, gapL cm (c :: x) = 1 + gapL false x := fun x => by simp only [gapL]; rw [if_pos e1]
      rw [a, a, h2]; split <;> split <;> omega
    by_cases e2 : c = 35
    · have a : ∀ x, gapL cm (c :: x) = 1 + gapL true x := fun x => by simp only [gapL]; rw [if_neg e1, if_pos e2]
      rw [a, a, h1]; split <;> split <;> omega
    by_cases e3 : cm = true
    · have a : ∀ x, gapL cm (c :: x) = 1 + gapL true x := fun x => by simp only [gapL]; rw [if_neg e1, if_neg e2, if_pos e3]
      rw [a, a, h1]; split <;> split <;> omega
    by_cases e4 : c = 32 ∨ c = 9
    · have a : ∀ x, gapL cm (c :: x) = 1 + gapL false x := fun x => by simp only [gapL]; rw [if_neg e1, if_neg e2, if_neg e3, if_pos e4]
      rw [a, a, h2]; split <;> split <;> omega
    · have a : ∀ x, gapL cm (c :: x) = 0 := fun x => by simp only [gapL]; rw [if_neg e1, if_neg e2, if_neg e3, if_neg e4]
      rw [a, a, if_neg (by omega)]
theorem run_bl (p : Int → Bool) (hp : p 32 = false) : ∀ (l r : List Int), run p (l ++ 32 :: r) = run p l
  | [], r => by
    unfold run
    rw [List.nil_append, List.takeWhile_cons_of_neg (by rw [hp]; simp)]; rfl
  | c :: l, r => by
    have ih := run_bl p hp l r
    unfold run at *
    rw [List.cons_append]
    by_cases h : p c = true
    · rw [List.takeWhile_cons_of_pos h, List.takeWhile_cons_of_pos h, List.length_cons, List.length_cons, ih]
    · rw [List.takeWhile_cons_of_neg h, List.takeWhile_cons_of_neg h]
theorem quote_app (r : List Int) : ∀ (l acc : List Int) (i : Nat) {k : Int} {s : ByteArray} {n : Int} {m : Nat}, quoteL l acc i = .tok k s n m → quoteL (l ++ r) acc i = .tok k s n m
  | [], acc, i, k, s, n, m, h => by rw [quote_end _ _ _ rfl] at h; cases h
  | c :: l, acc, i, k, s, n, m, h => by
    rw [List.cons_append]
    by_cases h1 : c = 34
    · subst h1
      rw [quote_34] at h ⊢
      exact h
    by_cases h2 : c = 10
    · subst h2; rw [quote_10] at h; cases h
    by_cases h3 : c = 92
    · subst h3
      cases l with
      | nil => rw [quote_92_end] at h; cases h
      | cons d l =>
        rw [List.cons_append, quote_92]
        rw [quote_92] at h
        split at h
        · cases h
        · rename_i he
          rw [if_neg he]
          exact quote_app r l _ _ h
    · rw [quote_else _ _ _ _ h1 h2 h3] at h ⊢
      exact quote_app r l _ _ h
theorem two_bl {l : List Int} (hl : l ≠ []) (r : List Int) : twoC (l ++ 32 :: r) = twoC l := by
  cases l with
  | nil => exact absurd rfl hl
  | cons a l =>
    cases l with
    | nil => simp [twoC, List.isPrefixOf]
    | cons b l => simp [twoC, List.isPrefixOf]
theorem tok_bl {l : List Int} (hl : l ≠ []) (r : List Int) {k : Int} {s : ByteArray} {n : Int} {m : Nat} (h : tokZ l = .tok k s n m) : tokZ (l ++ 32 :: r) = .tok k s n m := by
  have hh := head_app hl (32 :: r)
  have hr := run_bl digitZ (by decide) l r
  have hri := run_bl innerZ (by decide) l r
  have hs := tok_split (l ++ 32 :: r)
  rw [hh, hr] at hs
  rcases tok_split l with ⟨a, e⟩ | ⟨a, b, e⟩ | ⟨a, b, c, e⟩ | ⟨a, b, c, e⟩
  · have ht : tokZ (l ++ 32 :: r) = nameZ (l ++ 32 :: r) := by
      rcases hs with hs | hs | hs | hs
      · exact hs.2
      · rw [a] at hs; cases hs.1
      · rw [a] at hs; cases hs.1
      · rw [a] at hs; cases hs.1
    rw [ht, ← h, e]
    unfold nameZ
    rw [hh, hri, take_app _ _ _ (run_le _ _)]
  · have ht : tokZ (l ++ 32 :: r) = numberZ (l ++ 32 :: r) := by
      rcases hs with hs | hs | hs | hs
      · rw [a] at hs; cases hs.1
      · exact hs.2.2
      · exact absurd hs.2.1 b
      · exact absurd hs.2.1 b
    rw [ht, ← h, e]
    unfold numberZ
    rw [hr, hri, take_app _ _ _ (run_le _ _)]
  · have ht : tokZ (l ++ 32 :: r) = quotedZ (l ++ 32 :: r) := by
      rcases hs with hs | hs | hs | hs
      · rw [a] at hs; cases hs.1
      · exact absurd b hs.2.1
      · exact hs.2.2.2
      · exact absurd c hs.2.2.1
    have hd : (l ++ 32 :: r).drop 1 = l.drop 1 ++ 32 :: r := by
      cases l with
      | nil => exact absurd rfl hl
      | cons c l => rfl
    rw [e] at h
    rw [ht]
    unfold quotedZ at h ⊢
    rw [hh, if_pos c, hd]
    rw [if_pos c] at h
    exact quote_app _ _ _ _ h
  · have ht : tokZ (l ++ 32 :: r) = symbolZ (l ++ 32 :: r) := by
      rcases hs with hs | hs | hs | hs
      · rw [a] at hs; cases hs.1
      · exact absurd b hs.2.1
      · exact absurd hs.2.2.1 c
      · exact hs.2.2.2
    rw [ht, ← h, e]
    unfold symbolZ
    rw [hh, two_bl hl]
    by_cases h2 : twoC l = true
    · rw [if_pos h2, if_pos h2, take_app _ _ _ (by
        unfold twoC at h2
        simp only [Bool.or_eq_true] at h2
        rcases h2 with h2 | h2
        · exact prefix_len _ _ _ h2
        · exact prefix_len _ _ _ h2)]
    · rw [if_neg h2, if_neg h2, take_app _ _ _ (List.length_pos_iff.2 hl)]
/-- Gaps behind a text without an error, with a blank ahead. -/
theorem lexB_gap (g : List Int) (hg : gapL false (32 :: g) = (32 :: g).length) (k : Nat) (l : List Int) (hk : l.length ≤ k) : ∀ ts, lexB l = (ts, none) → l ≠ [] → lexB (l ++ 32 :: g) = (ts, none) := by
  refine lex_ind (C := fun l => ∀ ts, lexB l = (ts, none) → l ≠ [] → lexB (l ++ 32 :: g) = (ts, none)) ?_ ?_ ?_ ?_ k l hk
  · exact fun ts _ h => absurd rfl h
  · intro l y hl ht ts h _
    rw [lexB_err hl ht] at h; cases h
  · intro l hl ht ts h _
    rw [lexB_none hl ht] at h; cases h
  · intro l kd s n m hl ht h1 hm ih ts h _
    have htn := tok_bl hl g ht
    have hdm : (l ++ 32 :: g).drop m = l.drop m ++ 32 :: g := by rw [List.drop_append, show m - l.length = 0 by omega, List.drop_zero]
    have hgle := gap_drop_le l m hm
    have hgn : gapL false ((l ++ 32 :: g).drop m) = if gapL false (l.drop m) = (l.drop m).length then (l.drop m).length + (32 :: g).length else gapL false (l.drop m) := by rw [hdm, gap_app _ hg]
    rw [List.length_drop] at hgn
    have hn := lexB_tok (l := l ++ 32 :: g) (by simp) htn
    have hl0 := lexB_tok hl ht
    by_cases hend : m + gapL false (l.drop m) = l.length
    · rw [if_pos (by omega)] at hgn
      have hd0 : l.drop (m + gapL false (l.drop m)) = [] := List.drop_of_length_le (by omega)
      rw [hd0, lexB_nil] at hl0
      have hd1 : (l ++ 32 :: g).drop (m + (l.length - m + (32 :: g).length)) = [] := List.drop_of_length_le (by rw [List.length_append]; omega)
      rw [hgn, hd1, lexB_nil] at hn
      rw [hl0] at h
      rw [hn, ← h]
      rfl
    · rw [if_neg (by omega)] at hgn
      rw [hgn] at hn
      have hd1 : (l ++ 32 :: g).drop (m + gapL false (l.drop m)) = l.drop (m + gapL false (l.drop m)) ++ 32 :: g := by rw [List.drop_append, show m + gapL false (l.drop m) - l.length = 0 by omega, List.drop_zero]
      rw [hd1] at hn
      have hne : l.drop (m + gapL false (l.drop m)) ≠ [] := by
        intro e
        have := congrArg List.length e
        rw [List.length_drop, List.length_nil] at this
        omega
      rw [hl0] at h
      rcases hq : lexB (l.drop (m + gapL false (l.drop m))) with ⟨a, b⟩
      rw [hq] at h
      simp only [Ans.cons, Ans.sh, Prod.mk.injEq] at h
      have hb : b = none := by
        cases b with
        | none => rfl
        | some p => simp at h
      subst hb
      rw [hn, ih a hq hne, ← h.1]
      rfl
theorem lexF_gap (g : List Int) (hg : gapL false (32 :: g) = (32 :: g).length) (l : List Int) {ts : List Px.S30} (h : lexF l = (ts, none)) : lexF (l ++ 32 :: g) = (ts, none) := by
  have hgle := gap_le l false
  have hga := gap_app _ hg l false
  by_cases hend : gapL false l = l.length
  · rw [if_pos hend] at hga
    have hd0 : l.drop (gapL false l) = [] := List.drop_of_length_le (by omega)
    have hl0 : lexF l = ([], none) := by unfold lexF; rw [hd0, lexB_nil]; rfl
    rw [hl0] at h
    cases h
    unfold lexF
    rw [hga, List.drop_of_length_le (by rw [List.length_append]; omega), lexB_nil]
    rfl
  · rw [if_neg hend] at hga
    have hd1 : (l ++ 32 :: g).drop (gapL false l) = l.drop (gapL false l) ++ 32 :: g := by rw [List.drop_append, show gapL false l - l.length = 0 by omega, List.drop_zero]
    have hne : l.drop (gapL false l) ≠ [] := by
      intro e
      have := congrArg List.length e
      rw [List.length_drop, List.length_nil] at this
      omega
    unfold lexF at h
    rcases hq : lexB (l.drop (gapL false l)) with ⟨a, b⟩
    rw [hq] at h
    have hb : b = none := by
      cases b with
      | none => rfl
      | some p => simp [Ans.sh] at h
    subst hb
    have e : lexF (l ++ 32 :: g) = Ans.sh (gapL false l) (lexB (l.drop (gapL false l) ++ 32 :: g)) := by
      conv => lhs; unfold lexF
      rw [hga, hd1]
    rw [e, lexB_gap g hg _ _ (Nat.le_refl _) a hq hne]
    exact h
/-- A text without an error, parted behind a token that is no text. -/
theorem lexB_part : ∀ (i : Nat) (l : List Int) (ts : List Px.S30), lexB l = (ts, none) → ∀ (h : i < ts.length), ts[i].f0 ≠ 3 → ∃ (M : Nat) (tsB : List Px.S30), ts[i].f3 + (ts[i].f1.size : Int) = (M : Int) ∧ M ≤ l.length ∧ 1 ≤ M ∧ lexB (l.take M) = (ts.take (i + 1), none) ∧ lexF (l.drop M) = (tsB, none) ∧ ts.drop (i + 1) = tsB.map (sh M)
  | i, l, [], hB, h, _ => by simp at h
  | i, l, x :: ts, hB, h, h3 => by
    obtain ⟨hne, kd, s, n, m, htok, rfl, ts', hB', rfl⟩ := lexB_cons hB
    have hm := tok_len hne htok
    have hgle := gap_drop_le l m hm.2
    have hB0 := lexB_tok hne htok
    cases i with
    | zero =>
      have h3' : kd ≠ 3 := h3
      rcases tok_facts htok with ⟨_, hs⟩ | ⟨hk3, _⟩
      · have hsz : s.size = m := by rw [hs, strOfNums_size, List.length_take]; omega
        refine ⟨m, ts'.map (sh (gapL false (l.drop m))), ?_, hm.2, hm.1, ?_, ?_, ?_⟩
        · show (0 : Int) + (s.size : Int) = _
          omega
        · have htt := tok_take l m hne htok (Nat.le_refl _)
          have hne2 : l.take m ≠ [] := by
            intro e
            have := congrArg List.length e
            rw [List.length_take, List.length_nil] at this
            omega
          have hd : (l.take m).drop m = [] := List.drop_of_length_le (by rw [List.length_take]; omega)
          rw [lexB_tok hne2 htt, hd]
          have : gapL false ([] : List Int) = 0 := rfl
          rw [this, Nat.add_zero, hd, lexB_nil]
          rfl
        · unfold lexF
          rw [List.drop_drop, hB']
          rfl
        · rw [List.drop_succ_cons, List.drop_zero, sh_sh, Nat.add_comm]
      · exact absurd hk3 h3'
    | succ i =>
      have hi : i < ts'.length := by simpa using h
      have hx : ((⟨kd, s, n, 0⟩ : Px.S30) :: ts'.map (sh (m + gapL false (l.drop m))))[i + 1] = sh (m + gapL false (l.drop m)) ts'[i] := by
        rw [List.getElem_cons_succ, List.getElem_map]
      rw [hx] at h3 ⊢
      obtain ⟨M, tsB, e1, e2, e3, e4, e5, e6⟩ := lexB_part i _ ts' hB' hi h3
      rw [List.length_drop] at e2
      rw [List.drop_drop] at e5
      refine ⟨m + gapL false (l.drop m) + M, tsB, ?_, by omega, by omega, ?_, e5, ?_⟩
      · show ts'[i].f3 + ((m + gapL false (l.drop m) : Nat) : Int) + (ts'[i].f1.size : Int) = _
        omega
      · have htt := tok_take l (m + gapL false (l.drop m) + M) hne htok (by omega)
        have hne2 : l.take (m + gapL false (l.drop m) + M) ≠ [] := by
          intro e
          have := congrArg List.length e
          rw [List.length_take, List.length_nil] at this
          omega
        have hgt : gapL false ((l.take (m + gapL false (l.drop m) + M)).drop m) = gapL false (l.drop m) := by
          rw [List.drop_take, gap_take]; omega
        rw [lexB_tok hne2 htt, hgt, List.drop_take, show m + gapL false (l.drop m) + M - (m + gapL false (l.drop m)) = M by omega, e4]
        simp [Ans.cons, Ans.sh, List.map_take]
      · rw [List.drop_succ_cons, ← List.map_drop, e6, sh_sh, Nat.add_comm]
theorem lexF_part (l : List Int) (ts : List Px.S30) (hF : lexF l = (ts, none)) (i : Nat) (h : i < ts.length) (h3 : ts[i].f0 ≠ 3) : ∃ (M : Nat) (tsB : List Px.S30), ts[i].f3 + (ts[i].f1.size : Int) = (M : Int) ∧ M ≤ l.length ∧ lexF (l.take M) = (ts.take (i + 1), none) ∧ lexF (l.drop M) = (tsB, none) ∧ ts.drop (i + 1) = tsB.map (sh M) := by
  have hgl := gap_le l false
  have hF0 := hF
  unfold lexF at hF
  rcases hq : lexB (l.drop (gapL false l)) with ⟨a, b⟩
  rw [hq] at hF
  simp only [Ans.sh, Prod.mk.injEq] at hF
  have hb : b = none := by
    cases b with
    | none => rfl
    | some p => simp at hF
  subst hb
  obtain ⟨rfl, -⟩ := hF
  have hi : i < a.length := by simpa using h
  have hx : (a.map (sh (gapL false l)))[i] = sh (gapL false l) a[i] := List.getElem_map _
  rw [hx] at h3 ⊢
  obtain ⟨M, tsB, e1, e2, e3, e4, e5, e6⟩ := lexB_part i _ a hq hi h3
  rw [List.length_drop] at e2
  rw [List.drop_drop] at e5
  refine ⟨gapL false l + M, tsB, ?_, by omega, ?_, e5, ?_⟩
  · show a[i].f3 + ((gapL false l : Nat) : Int) + (a[i].f1.size : Int) = _
    omega
  · have hg : gapL false (l.take (gapL false l + M)) = gapL false l := by rw [gap_take]; omega
    unfold lexF
    rw [hg, List.drop_take, show gapL false l + M - gapL false l = M by omega, e4]
    simp [Ans.sh, List.map_take]
  · rw [← List.map_drop, e6, sh_sh, Nat.add_comm]
def strip (x : Px.S30) : Int × ByteArray × Int := (x.f0, x.f1, x.f2)
theorem strip_sh (d : Nat) (l : List Px.S30) : (l.map (sh d)).map strip = l.map strip := by
  rw [List.map_map]; rfl
theorem alike_of {a b : List Px.S30} (h : a.map strip = b.map strip) : Alike a b := by
  have hl : a.length = b.length := by simpa using congrArg List.length h
  refine ⟨hl, fun i h1 h2 => ?_⟩
  have e : (a.map strip)[i]'(by simpa using h1) = (b.map strip)[i]'(by simpa using h2) := by simp only [h]
  rw [List.getElem_map, List.getElem_map] at e
  simp only [strip, Prod.mk.injEq] at e
  exact ⟨e.1, e.2.1, e.2.2⟩
theorem lexF_pre (g r : List Int) (hg : gapL false g = g.length) : lexF (g ++ 10 :: r) = Ans.sh (g.length + 1) (lexF r) := by
  have h0 : lexF g = ([], none) := by unfold lexF; rw [hg, List.drop_of_length_le (Nat.le_refl _), lexB_nil]; rfl
  rw [(lexF_plus g r).1 [] h0]
  simp [Ans.plus]
/-- The text of LexerGaps. -/
theorem lexF_gaps (g A B : List Int) (hg : gapL false g = g.length) {tsA tsB : List Px.S30} (hA : lexF A = (tsA, none)) (hB : lexF B = (tsB, none)) :
    ∃ b, lexF (g ++ 10 :: (A ++ 32 :: (g ++ 10 :: (B ++ 32 :: 10 :: g)))) = (b, none) ∧ b.map strip = tsA.map strip ++ tsB.map strip := by
  have hg32 : gapL false (32 :: g) = (32 :: g).length := by
    have : gapL false (32 :: g) = 1 + gapL false g := by simp [gapL]
    rw [this, hg, List.length_cons]; omega
  have hb32 : gapL false ([32] : List Int) = ([32] : List Int).length := by decide
  have h0 : lexF g = ([], none) := by unfold lexF; rw [hg, List.drop_of_length_le (Nat.le_refl _), lexB_nil]; rfl
  have hB1 : lexF (B ++ [32]) = (tsB, none) := lexF_gap [] hb32 B hB
  have hB2 : lexF (B ++ 32 :: 10 :: g) = (tsB, none) := by
    have e : B ++ 32 :: 10 :: g = (B ++ [32]) ++ 10 :: g := by simp
    rw [e, (lexF_plus (B ++ [32]) g).1 tsB hB1, h0]
    simp [Ans.plus, Ans.sh]
  have hA1 : lexF (A ++ 32 :: g) = (tsA, none) := lexF_gap g hg32 A hA
  have hA2 : lexF (A ++ 32 :: (g ++ 10 :: (B ++ 32 :: 10 :: g))) = (tsA ++ tsB.map (sh ((A ++ 32 :: g).length + 1)), none) := by
    have e : A ++ 32 :: (g ++ 10 :: (B ++ 32 :: 10 :: g)) = (A ++ 32 :: g) ++ 10 :: (B ++ 32 :: 10 :: g) := by simp
    rw [e, (lexF_plus (A ++ 32 :: g) _).1 tsA hA1, hB2]
    rfl
  refine ⟨(tsA ++ tsB.map (sh ((A ++ 32 :: g).length + 1))).map (sh (g.length + 1)), ?_, ?_⟩
  · rw [lexF_pre g _ hg, hA2]; rfl
  · rw [strip_sh, List.map_append, strip_sh]
end Go.Proofs.YtemjgafocgnccaaDoor.X
namespace Go.Proofs.YtemjgafocgnccaaDoor.Pure
open Go.RowKit Go.Proofs.YtemjgafocgnccaaDoorW.PrintWords
theorem head_fine : Px.cleanselaw07_head.f = some true := by decide +kernel
theorem gaps_join (s g : ByteArray) (hs : s.size ≤ 1500) (hgs : g.size ≤ 300) (hg : X.gapL false (bytesOf g) = g.size) (ts tsA tsB : List Px.S30) (M k : Nat) (hM : M ≤ s.size) (hk : 9000 < k) (hl : ts.length ≤ 5000)
    (hA : X.lexF ((bytesOf s).take M) = (tsA, none)) (hB : X.lexF ((bytesOf s).drop M) = (tsB, none)) (hts : ts.map X.strip = tsA.map X.strip ++ tsB.map X.strip) :
    Px.cleanselaw07_LexerGaps.j1 k s g true ts (M : Int) = some true := by
  obtain ⟨k, rfl⟩ : ∃ m, k = m + 1 := ⟨k - 1, by omega⟩
  have z1 : (⟨#[10]⟩ : ByteArray).size = 1 := rfl
  have z2 : (⟨#[32]⟩ : ByteArray).size = 1 := rfl
  have hb1 : bytesOf (s.extract 0 M) = (bytesOf s).take M := by rw [X.bytes_extract, List.drop_zero]
  have hb2 : bytesOf (s.extract M s.size) = (bytesOf s).drop M := by rw [X.bytes_extract, List.take_of_length_le (by rw [X.bytes_size]; exact Nat.le_refl _)]
  have e1 : (s.extract 0 M).size = M := by rw [ByteArray.size_extract]; omega
  have e2 : (s.extract M s.size).size = s.size - M := by rw [ByteArray.size_extract]; omega
  obtain ⟨b, h1, h2⟩ := X.lexF_gaps (bytesOf g) _ _ (by rw [hg, X.bytes_size]) hA hB
  simp only [Px.cleanselaw07_LexerGaps.j1]
  rw [if_neg (by omega), if_pos (by omega), if_pos (by omega), if_pos (by omega), Int.toNat_natCast]
  simp only [ByteArray.size_append, e1, e2, z1, z2]
  rw [if_pos (by omega), if_pos (by omega), if_pos (by omega), if_pos (by omega), if_pos (by omega), if_pos (by omega), if_pos (by omega)]
  have hN : bytesOf ((((((((g ++ (⟨#[10]⟩ : ByteArray)) ++ (s.extract 0 M)) ++ (⟨#[32]⟩ : ByteArray)) ++ (g ++ (⟨#[10]⟩ : ByteArray))) ++ (s.extract M s.size)) ++ (⟨#[32]⟩ : ByteArray)) ++ (⟨#[10]⟩ : ByteArray)) ++ g) = bytesOf g ++ 10 :: ((bytesOf s).take M ++ 32 :: (bytesOf g ++ 10 :: ((bytesOf s).drop M ++ 32 :: 10 :: bytesOf g))) := by
    simp only [X.bytes_app, hb1, hb2, List.append_assoc]
    rfl
  have hz : ((((((((g ++ (⟨#[10]⟩ : ByteArray)) ++ (s.extract 0 M)) ++ (⟨#[32]⟩ : ByteArray)) ++ (g ++ (⟨#[10]⟩ : ByteArray))) ++ (s.extract M s.size)) ++ (⟨#[32]⟩ : ByteArray)) ++ (⟨#[10]⟩ : ByteArray)) ++ g).size ≤ 4999 := by
    simp only [ByteArray.size_append, e1, e2, z1, z2]; omega
  generalize ((((((((g ++ (⟨#[10]⟩ : ByteArray)) ++ (s.extract 0 M)) ++ (⟨#[32]⟩ : ByteArray)) ++ (g ++ (⟨#[10]⟩ : ByteArray))) ++ (s.extract M s.size)) ++ (⟨#[32]⟩ : ByteArray)) ++ (⟨#[10]⟩ : ByteArray)) ++ g) = N at *
  have hL : X.lexer_Lex.f N = some (X.lexZ N) := by unfold X.lexer_Lex.f; rw [if_pos (by omega)]
  rw [hL]
  simp only [Option.bind_some]
  rw [X.lexZ_out N hz, hN, h1, X.out_none]
  simp only
  rw [if_pos trivial, if_pos trivial, X.alike_spec ts b (by omega) (X.alike_of (by rw [hts, h2])) k (by omega)]
  rfl
theorem LexerGaps : ∀ (a0 : ByteArray) (a1 : ByteArray) (a2 : Int), a0.size ≤ 140737488351232 → a1.size ≤ 140737488351232 → 0 ≤ a2 → a2 ≤ 65535 → ∃ k, Px.cleanselaw07_LexerGaps.f k a0 a1 a2 = some true := by
  intro s g c _ _ hc0 hc1
  obtain ⟨k, hK⟩ : ∃ k : Nat, k = 9999 := ⟨_, rfl⟩
  have j0t : ∀ m, 0 < m → Px.cleanselaw07_LexerGaps.j0 m s g c true true = some true := by
    intro m hm
    obtain ⟨m, rfl⟩ : ∃ n, m = n + 1 := ⟨m - 1, by omega⟩
    simp only [Px.cleanselaw07_LexerGaps.j0]
    rw [if_pos trivial]
  refine ⟨k, ?_⟩
  unfold Px.cleanselaw07_LexerGaps.f
  rw [head_fine]
  simp only [Option.bind_some]
  by_cases c1 : (s.size : Int) > 1500
  · rw [if_pos c1]; exact j0t k (by omega)
  by_cases c2 : (g.size : Int) > 300
  · rw [if_neg c1, if_pos c2]; exact j0t k (by omega)
  rw [if_neg c1, if_neg c2, X.gaps_spec g (by omega) k (by omega)]
  simp only [Option.bind_some]
  by_cases hg : ¬ X.gapL false (bytesOf g) = g.size
  · rw [decide_eq_false hg]; exact j0t k (by omega)
  have hg := Decidable.not_not.1 hg
  rw [decide_eq_true hg]
  obtain ⟨k, rfl⟩ : ∃ m, k = m + 1 := ⟨k - 1, by omega⟩
  have hsz := X.bytes_size s
  have hL : X.lexer_Lex.f s = some (X.lexZ s) := by unfold X.lexer_Lex.f; rw [if_pos (by omega)]
  simp only [Px.cleanselaw07_LexerGaps.j0]
  rw [if_neg (by simp), hL]
  simp only [Option.bind_some]
  rw [X.lexZ_out s (by omega)]
  rcases hq : X.lexF (bytesOf s) with ⟨ts, r⟩
  obtain ⟨b1, b2⟩ := X.toksF_bd _ hq
  cases r with
  | some p =>
    obtain ⟨x, d⟩ := p
    have hx := X.errF hq
    rw [X.out_some]
    simp only
    rw [if_neg hx]
  | none =>
    rw [X.out_none]
    simp only
    rw [if_pos trivial]
    have zero : Px.cleanselaw07_LexerGaps.j1 k s g true ts 0 = some true :=
      gaps_join s g (by omega) (by omega) hg ts [] ts 0 k (by omega) (by omega) (by omega) rfl (by rw [List.drop_zero]; exact hq) (by simp)
    by_cases hn : (ts.length : Int) > 0
    · have hw : wrap64 c = c := X.wrap_id (by omega) (by omega)
      have hm0 : 0 ≤ Int.tmod c (ts.length : Int) := Int.tmod_nonneg _ hc0
      have hm1 : Int.tmod c (ts.length : Int) < (ts.length : Int) := Int.tmod_lt_of_pos _ hn
      rw [if_pos hn, if_neg (by omega), hw, if_pos hm0, if_pos hm1]
      obtain ⟨i, hi⟩ : ∃ i : Nat, Int.tmod c (ts.length : Int) = (i : Int) := ⟨(Int.tmod c (ts.length : Int)).toNat, by omega⟩
      rw [hi] at hm1 ⊢
      have hil : i < ts.length := by omega
      rw [X.rd_at hil]
      by_cases h3 : ts[i].f0 = 3
      · rw [if_pos h3]; exact zero
      · rw [if_neg h3]
        obtain ⟨M, tsB, e1, e2, e3, e4, e5⟩ := X.lexF_part (bytesOf s) ts hq i hil h3
        have hM : wrap64 (ts[i].f3 + (ts[i].f1.size : Int)) = (M : Int) := by rw [e1]; exact X.wrap_id (by omega) (by omega)
        rw [hM]
        refine gaps_join s g (by omega) (by omega) hg ts (ts.take (i + 1)) tsB M k (by omega) (by omega) (by omega) e3 e4 ?_
        rw [← X.strip_sh M tsB, ← e5, ← List.map_append, List.take_append_drop]
    · rw [if_neg hn]; exact zero
end Go.Proofs.YtemjgafocgnccaaDoor.Pure
