/- Where tokens stand: gaps before them, their texts, their quotes. -/
import Derived.Test.YtemjgafocgnccaaDoorPlF
import Derived.Test.YtemjgafocgnccaaDoorPx10
set_option linter.unusedVariables false
set_option linter.unusedSimpArgs false
namespace Go.Proofs.YtemjgafocgnccaaDoor.X
open Go.RowKit Go.Proofs.YtemjgafocgnccaaDoorW.PrintWords Go.Proofs.YtemjgafocgnccaaDoorW.PrintMore
theorem tok_facts {l : List Int} {kd : Int} {s : ByteArray} {n : Int} {m : Nat} (h : tokZ l = .tok kd s n m) : (kd ≠ 3 ∧ s = strOfNums (l.take m)) ∨ (kd = 3 ∧ l.headD 0 = 34 ∧ quoteL (l.drop 1) [] 0 = .tok kd s n m) := by
  rcases tok_split l with ⟨a, e⟩ | ⟨a, b, e⟩ | ⟨a, b, c, e⟩ | ⟨a, b, c, e⟩
  · rw [e] at h
    unfold nameZ at h
    rw [if_pos a] at h
    by_cases q : 24 < run innerZ l
    · rw [if_pos q] at h; cases h
    · rw [if_neg q] at h; cases h; exact .inl ⟨by decide, rfl⟩
  · rw [e] at h
    unfold numberZ at h
    rw [if_neg b] at h
    by_cases q : 10 < run digitZ l
    · rw [if_pos q] at h; cases h
    · rw [if_neg q] at h
      by_cases q2 : run digitZ l < run innerZ l
      · rw [if_pos q2] at h; cases h
      · rw [if_neg q2] at h; cases h; exact .inl ⟨by decide, rfl⟩
  · rw [e] at h
    unfold quotedZ at h
    rw [if_pos c] at h
    have hk : kd = 3 := by
      have : ∀ (l acc : List Int) (i : Nat) {k : Int} {s : ByteArray} {n : Int} {m : Nat}, quoteL l acc i = .tok k s n m → k = 3 := by
        intro l
        induction hn : l.length using Nat.strongRecOn generalizing l with
        | _ N ih =>
          intro acc i k s n m h
          cases l with
          | nil => rw [quote_end _ _ _ rfl] at h; cases h
          | cons c r =>
            by_cases h1 : c = 34
            · subst h1
              rw [quote_34] at h
              split at h
              · cases h
              · cases h; rfl
            by_cases h2 : c = 10
            · subst h2; rw [quote_10] at h; cases h
            by_cases h3 : c = 92
            · subst h3
              cases r with
              | nil => rw [quote_92_end] at h; cases h
              | cons d r' =>
                rw [quote_92] at h
                split at h
                · cases h
                · exact ih r'.length (by simp at hn; omega) r' rfl _ _ h
            · rw [quote_else _ _ _ _ h1 h2 h3] at h
              exact ih r.length (by simp at hn; omega) r rfl _ _ h
      exact this _ _ _ h
    exact .inr ⟨hk, c, h⟩
  · rw [e] at h
    unfold symbolZ at h
    by_cases q : twoC l = true
    · rw [if_pos q] at h; cases h; exact .inl ⟨by decide, rfl⟩
    · rw [if_neg q] at h
      by_cases q2 : symC (l.headD 0) = true
      · rw [if_pos q2] at h; cases h; exact .inl ⟨by decide, rfl⟩
      · rw [if_neg q2] at h; cases h
theorem lexB_none_nil {l : List Int} (h : lexB l = ([], none)) : l = [] := by
  by_cases hl : l = []
  · exact hl
  · cases e : tokZ l with
    | err x => rw [lexB_err hl e] at h; cases h
    | none => rw [lexB_none hl e] at h; cases h
    | tok kd s n m => rw [lexB_tok hl e] at h; simp [Ans.cons] at h
theorem lexB_cons {l : List Int} {x : Px.S30} {ts : List Px.S30} (h : lexB l = (x :: ts, none)) : l ≠ [] ∧ ∃ kd s n m, tokZ l = .tok kd s n m ∧ x = ⟨kd, s, n, 0⟩ ∧ ∃ ts', lexB (l.drop (m + gapL false (l.drop m))) = (ts', none) ∧ ts = ts'.map (sh (m + gapL false (l.drop m))) := by
  by_cases hl : l = []
  · subst hl; rw [lexB_nil] at h; cases h
  · refine ⟨hl, ?_⟩
    cases e : tokZ l with
    | err x => rw [lexB_err hl e] at h; cases h
    | none => rw [lexB_none hl e] at h; cases h
    | tok kd s n m =>
      refine ⟨kd, s, n, m, rfl, ?_⟩
      rw [lexB_tok hl e] at h
      rcases hq : lexB (l.drop (m + gapL false (l.drop m))) with ⟨a, b⟩
      rw [hq] at h
      simp only [Ans.cons, Ans.sh, Prod.mk.injEq, List.cons.injEq] at h
      have hb : b = none := by
        cases b with
        | none => rfl
        | some p => simp at h
      subst hb
      exact ⟨h.1.1.symm, a, rfl, h.1.2.symm⟩
theorem gaps_spec (t : ByteArray) (ht : t.size ≤ 100000) (k : Nat) (hk : t.size < k) : Px.cleanseref07_Gaps.f k t = some (decide (gapL false (bytesOf t) = t.size)) := by
  unfold Px.cleanseref07_Gaps.f
  have h := gap_spec t ht 0 (by omega) k hk
  rw [List.drop_zero] at h
  rw [show (0 : Int) = ((0 : Nat) : Int) from rfl, h]
  simp only [Option.bind_some]
  congr 1
  rw [Bool.eq_iff_iff, beq_iff_eq, decide_eq_true_iff]
  omega
theorem quote_scan (t : ByteArray) (ht : t.size ≤ 100000) (L : List Px.S30) (x6 x8 : Int) (P : Nat) (hP : P < t.size) (h34 : bt t (P : Int) = 34) :
    ∀ (d c k q : Nat) (acc : List Int) (kd : Int) (s : ByteArray) (n : Int) (m : Nat), c + d = t.size → 2 * d + 2 < k → quoteL ((bytesOf t).drop c) acc q = .tok kd s n m →
      ∃ k', k ≤ k' + 2 * (m - q - 2) + 3 ∧ Px.cleanselaw07_LexerPlaces.l1 k t true L x6 x8 (P : Int) (c : Int) = Px.cleanselaw07_LexerPlaces.l0 k' t true L x6 ((c + (m - q - 2) + 1 : Nat) : Int) (wrap64 (x8 + 1)) := by
  intro d
  induction d using Nat.strongRecOn with
  | _ d ih =>
    intro c k q acc kd s n m hc hk h
    obtain ⟨k, rfl⟩ : ∃ e, k = e + 3 := ⟨k - 3, by omega⟩
    have hq := quote_len _ _ _ h
    rw [drop_len] at hq
    have hcs : c < t.size := by omega
    rw [drop_at t c hcs] at h
    by_cases e1 : bt t (c : Int) = 34
    · rw [e1, quote_34] at h
      split at h
      · cases h
      · cases h
        refine ⟨k, by omega, ?_⟩
        simp only [Px.cleanselaw07_LexerPlaces.l1]
        rw [if_pos (by omega), if_pos (by omega), e1]
        simp only [Px.cleanselaw07_LexerPlaces.j3]
        rw [if_neg (by simp), if_pos (by omega), if_pos (by omega), if_pos h34, decide_eq_false (p := (c : Int) ≥ (t.size : Int)) (by omega)]
        simp only [Px.cleanselaw07_LexerPlaces.j4]
        rw [if_neg (by simp), wrap_id (i := (c : Int) + 1) (by omega) (by omega), show ((c : Int) + 1) = ((c + (q + 2 - q - 2) + 1 : Nat) : Int) by omega]
    by_cases e2 : bt t (c : Int) = 10
    · rw [e2, quote_10] at h; cases h
    have hstep : ∀ (j : Int), Px.cleanselaw07_LexerPlaces.l1 (k + 3) t true L x6 x8 (P : Int) (c : Int) = (if (bt t (c : Int)) = 92 then (Px.cleanselaw07_LexerPlaces.l1 (k + 1) t true L x6 x8 (P : Int) ((c + 2 : Nat) : Int)) else (Px.cleanselaw07_LexerPlaces.l1 (k + 1) t true L x6 x8 (P : Int) ((c + 1 : Nat) : Int))) := by
      intro _
      rw [Px.cleanselaw07_LexerPlaces.l1.eq_2, if_pos (by omega), if_pos (by omega), Px.cleanselaw07_LexerPlaces.j3.eq_2, if_pos (by simpa using e1), if_pos (by omega), if_pos (by omega), wrap_id (i := (c : Int) + 1) (by omega) (by omega), wrap_id (by omega) (by omega)]
      rfl
    rw [hstep 0]
    by_cases e3 : bt t (c : Int) = 92
    · rw [if_pos e3]
      rw [e3] at h
      by_cases c2 : c + 1 < t.size
      · rw [drop_at t (c + 1) c2, quote_92] at h
        split at h
        · cases h
        · have hq2 := quote_len _ _ _ h
          obtain ⟨k', hk', e⟩ := ih (d - 2) (by omega) (c + 2) (k + 1) (q + 2) _ kd s n m (by omega) (by omega) h
          exact ⟨k', by omega, by rw [e, show c + 2 + (m - (q + 2) - 2) + 1 = c + (m - q - 2) + 1 by omega]⟩
      · rw [drop_end t (c + 1) (by omega), quote_92_end] at h; cases h
    · rw [if_neg e3]
      rw [quote_else _ _ _ _ e1 e2 e3] at h
      have hq2 := quote_len _ _ _ h
      obtain ⟨k', hk', e⟩ := ih (d - 1) (by omega) (c + 1) (k + 1) (q + 1) _ kd s n m (by omega) (by omega) h
      exact ⟨k', by omega, by rw [e, show c + 1 + (m - (q + 1) - 2) + 1 = c + (m - q - 2) + 1 by omega]⟩
theorem places_loop (t : ByteArray) (ht : t.size ≤ 3000) (L : List Px.S30) (hL : L.length ≤ 5000) : ∀ (D : Nat) (ts pre : List Px.S30) (E k : Nat), ts.length ≤ D → E ≤ t.size → 10 * (t.size - E) + 6000 < k → lexB ((bytesOf t).drop (E + gapL false ((bytesOf t).drop E))) = (ts, none) → L = pre ++ ts.map (sh (E + gapL false ((bytesOf t).drop E))) →
    Px.cleanselaw07_LexerPlaces.l0 k t true L 0 (E : Int) (pre.length : Int) = some true
  | D, [], pre, E, k, _, hE, hk, hB, hLe => by
    obtain ⟨k, rfl⟩ : ∃ e, k = e + 1 := ⟨k - 1, by omega⟩
    have hnil := lexB_none_nil hB
    have hlen := congrArg List.length hnil
    rw [drop_len, List.length_nil] at hlen
    have hg := gap_le ((bytesOf t).drop E) false
    rw [drop_len] at hg
    have hl : L.length = pre.length := by rw [hLe]; simp
    simp only [Px.cleanselaw07_LexerPlaces.l0]
    rw [if_neg (by omega), if_pos trivial, if_pos trivial, if_pos (by omega), if_pos (by omega), Int.toNat_natCast, gaps_spec _ (by rw [ByteArray.size_extract]; omega) k (by rw [ByteArray.size_extract]; omega)]
    simp only [Option.bind_some]
    rw [bytes_extract, List.take_of_length_le (by rw [bytes_size]; exact Nat.le_refl _), ByteArray.size_extract]
    congr 1
    rw [decide_eq_true_iff]
    omega
  | 0, x :: ts, pre, E, k, hD, hE, hk, hB, hLe => by simp at hD
  | D + 1, x :: ts, pre, E, k, hD, hE, hk, hB, hLe => by
    obtain ⟨hne, kd, s, n, m, htok, rfl, ts', hB', hts⟩ := lexB_cons hB
    have hm := tok_len hne htok
    rw [drop_len] at hm
    have hg := gap_le ((bytesOf t).drop E) false
    rw [drop_len] at hg
    obtain ⟨k, rfl⟩ : ∃ e, k = e + 2 := ⟨k - 2, by omega⟩
    have hP : E + gapL false ((bytesOf t).drop E) < t.size := by omega
    have hgt : gapL false (((bytesOf t).drop E).take (gapL false ((bytesOf t).drop E))) = gapL false ((bytesOf t).drop E) := by rw [gap_take]; omega
    generalize hPe : E + gapL false ((bytesOf t).drop E) = P at *
    have hi : pre.length < L.length := by rw [hLe]; simp
    have hx : L[pre.length] = sh P ⟨kd, s, n, 0⟩ := by
      have : L[pre.length]? = some (sh P ⟨kd, s, n, 0⟩) := by rw [hLe, List.map_cons]; simp
      rw [List.getElem?_eq_getElem hi] at this
      exact Option.some.inj this
    have hrd := rd_at hi
    rw [hx] at hrd
    have hgap : Px.cleanseref07_Gaps.f (k + 1) (t.extract E P) = some true := by
      rw [gaps_spec _ (by rw [ByteArray.size_extract]; omega) _ (by rw [ByteArray.size_extract]; omega), bytes_extract, List.drop_take, show P - E = gapL false ((bytesOf t).drop E) by omega, hgt, ByteArray.size_extract]
      congr 1
      rw [decide_eq_true_iff]
      omega
    rw [List.drop_drop] at hB' hts
    have next : ∀ k', 10 * (t.size - (P + m)) + 6000 < k' → Px.cleanselaw07_LexerPlaces.l0 k' t true L 0 ((P + m : Nat) : Int) (wrap64 ((pre.length : Int) + 1)) = some true := by
      intro k' hk'
      rw [wrap_id (by omega) (by omega), show ((pre.length : Int) + 1) = ((pre ++ [sh P ⟨kd, s, n, 0⟩]).length : Int) by simp]
      have hD' : ts'.length ≤ D := by rw [hts] at hD; simp at hD; exact hD
      refine places_loop t ht L hL D ts' (pre ++ [sh P ⟨kd, s, n, 0⟩]) (P + m) k' hD' (by omega) hk' ?_ ?_
      · rw [List.drop_drop, ← Nat.add_assoc] at hB'
        exact hB'
      · rw [hLe, hts, List.map_cons, sh_sh, List.append_assoc, show m + gapL false ((bytesOf t).drop (P + m)) + P = P + m + gapL false ((bytesOf t).drop (P + m)) by omega]
        rfl
    have hf3 : (sh P ⟨kd, s, n, 0⟩ : Px.S30).f3 = (P : Int) := by simp [sh]
    have hf1 : (sh P ⟨kd, s, n, 0⟩ : Px.S30).f1 = s := rfl
    have hf0 : (sh P ⟨kd, s, n, 0⟩ : Px.S30).f0 = kd := rfl
    rw [Px.cleanselaw07_LexerPlaces.l0.eq_2, if_pos (by omega), if_pos (by omega), hrd, hf3, if_neg (by omega), if_neg (by omega), if_pos (by omega), if_pos (by omega), if_pos (by omega), Int.toNat_natCast, Int.toNat_natCast, hgap]
    simp only [Option.bind_some]
    rw [Px.cleanselaw07_LexerPlaces.j1.eq_2, if_neg (by simp), if_pos (by omega), if_pos (by omega), hrd, hf0, hf1]
    rcases tok_facts htok with ⟨hk3, hs⟩ | ⟨hk3, hh, hq⟩
    · have hcut : t.extract P (P + m) = s := by rw [cut_str, hs]
      have hsz : s.size = m := by rw [← hcut, ByteArray.size_extract]; omega
      rw [if_neg hk3, hsz, wrap_id (i := (P : Int) + (m : Int)) (by omega) (by omega), if_neg (by omega), if_neg (by omega), if_pos (by omega), if_pos (by omega), if_pos (by omega), Int.toNat_natCast, show ((P : Int) + (m : Int)).toNat = P + m by omega, hcut, if_pos rfl, show ((P : Int) + (m : Int)) = ((P + m : Nat) : Int) by omega]
      exact next k (by omega)
    · rw [if_pos hk3, wrap_id (i := (P : Int) + 1) (by omega) (by omega), show ((P : Int) + 1) = ((P + 1 : Nat) : Int) by omega]
      rw [head_at t P hP] at hh
      rw [List.drop_drop] at hq
      have hql := quote_len _ _ _ hq
      obtain ⟨k', hk', e⟩ := quote_scan t (by omega) L 0 (pre.length : Int) P hP hh (t.size - (P + 1)) (P + 1) k 0 [] kd s n m (by omega) (by omega) hq
      rw [e, show P + 1 + (m - 0 - 2) + 1 = P + m by omega]
      exact next k' (by omega)
end Go.Proofs.YtemjgafocgnccaaDoor.X
