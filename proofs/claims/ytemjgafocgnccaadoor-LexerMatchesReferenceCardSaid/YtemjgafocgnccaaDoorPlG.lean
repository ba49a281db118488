/- The reference's Lex answers as the lexer's plain law. -/
import Derived.Test.YtemjgafocgnccaaDoorPlF
set_option linter.unusedVariables false
set_option linter.unusedSimpArgs false
namespace Go.Proofs.YtemjgafocgnccaaDoor.X
open Go.RowKit Go.Proofs.YtemjgafocgnccaaDoorW.PrintWords Go.Proofs.YtemjgafocgnccaaDoorW.PrintMore
def contR (r : Found) : ByteArray × Int × Int := match r with
  | .tok _ s _ m => (s, (m : Int), 0)
  | .err x => (⟨#[]⟩, 0, x)
  | .none => (⟨#[]⟩, 0, 0)
theorem content_loop (t : ByteArray) (ht : t.size ≤ 100000) (i : Nat) : ∀ (d j k : Nat) (acc : List Int), j + d = t.size → i + 1 ≤ j → 2 * d < k → acc.length + d ≤ 200000 → Px.cleanseref07_content.l0 k t (i : Int) acc (j : Int) = some (contR (quoteL ((bytesOf t).drop j) acc (j - i - 1)))
  | 0, j, k, acc, h, hij, hk, ha => by
    obtain ⟨k, rfl⟩ : ∃ m, k = m + 1 := ⟨k - 1, by omega⟩
    simp only [Px.cleanseref07_content.l0]
    rw [if_neg (by omega), quote_end _ _ _ (drop_end t j (by omega))]
    rfl
  | d + 1, j, k, acc, h, hij, hk, ha => by
    obtain ⟨k, rfl⟩ : ∃ m, k = m + 1 := ⟨k - 1, by omega⟩
    have hd := drop_at t j (by omega)
    simp only [Px.cleanseref07_content.l0]
    rw [if_pos (by omega), if_pos (by omega), hd, wrap_id (i := (j : Int) + 1) (by omega) (by omega)]
    by_cases e1 : bt t (j : Int) = 34
    · rw [if_pos e1, e1, quote_34]
      by_cases c : 200 < acc.length
      · rw [if_pos (by omega), if_pos c]; rfl
      · rw [if_neg (by omega), if_neg c, wrap_id (by omega) (by omega)]
        simp only [contR]
        congr 3
        omega
    rw [if_neg e1]
    by_cases e2 : bt t (j : Int) = 10
    · rw [if_pos e2, e2, quote_10]; rfl
    rw [if_neg e2]
    by_cases e3 : bt t (j : Int) = 92
    · rw [if_pos e3, e3]
      by_cases c : j + 1 = t.size
      · rw [if_pos (by omega), drop_end t (j + 1) (by omega), quote_92_end]; rfl
      · have hd2 := drop_at t (j + 1) (by omega)
        rw [show ((j + 1 : Nat) : Int) = (j : Int) + 1 by omega] at hd2
        obtain ⟨d, rfl⟩ : ∃ e, d = e + 1 := ⟨d - 1, by omega⟩
        rw [if_neg (by omega), if_pos (by omega), if_pos (by omega), hd2, quote_92]
        obtain ⟨k, rfl⟩ : ∃ m, k = m + 1 := ⟨k - 1, by omega⟩
        simp only [Px.cleanseref07_content.j1]
        rw [wrap_id (i := (j : Int) + 1 + 1) (by omega) (by omega), show ((j : Int) + 1 + 1) = ((j + 2 : Nat) : Int) by omega]
        have next : ∀ acc', acc'.length = acc.length + 1 → Px.cleanseref07_content.l0 k t (i : Int) acc' ((j + 2 : Nat) : Int) = some (contR (quoteL ((bytesOf t).drop (j + 1 + 1)) acc' (j - i - 1 + 2))) := fun acc' hl => by
          rw [content_loop t ht i d (j + 2) k acc' (by omega) (by omega) (by omega) (by omega), show j + 2 - i - 1 = j - i - 1 + 2 by omega]
        generalize bt t ((j : Int) + 1) = x at *
        by_cases f1 : x = 34
        · rw [if_pos f1, if_neg (by simp), if_neg (by omega), if_pos (by omega), next _ (by simp), f1, if_neg (by decide)]
          rfl
        rw [if_neg f1]
        by_cases f2 : x = 92
        · rw [if_pos f2, if_neg (by simp), if_neg (by omega), if_pos (by omega), next _ (by simp), f2, if_neg (by decide)]
          rfl
        rw [if_neg f2]
        by_cases f3 : x = 110
        · rw [if_neg (by simp [f3]), if_pos f3, if_pos (by omega), next _ (by simp), f3, if_neg (by decide)]
          rfl
        · have hesc : escZ x < 0 := by unfold escZ; rw [if_neg f1, if_neg f2, if_neg f3]; decide
          rw [if_pos (by simpa using f3), if_pos hesc]; rfl
    · rw [if_neg e3, if_pos (by omega), quote_else _ _ _ _ e1 e2 e3, show ((j : Int) + 1) = ((j + 1 : Nat) : Int) by omega, content_loop t ht i d (j + 1) k _ (by omega) (by omega) (by omega) (by rw [List.length_append]; simp; omega), show j + 1 - i - 1 = j - i - 1 + 1 by omega]
theorem content_spec (t : ByteArray) (ht : t.size ≤ 100000) (i : Nat) (hi : i < t.size) (k : Nat) (hk : 2 * t.size < k) : Px.cleanseref07_content.f k t (i : Int) = some (contR (quoteL ((bytesOf t).drop (i + 1)) [] 0)) := by
  unfold Px.cleanseref07_content.f
  rw [wrap_id (by omega) (by omega), show ((i : Int) + 1) = ((i + 1 : Nat) : Int) by omega, content_loop t ht i (t.size - (i + 1)) (i + 1) k [] (by omega) (by omega) (by omega) (by simp; omega), show i + 1 - i - 1 = 0 by omega]
def symI : List Int := [59, 58, 44, 46, 40, 41, 123, 125, 61, 60, 43, 45, 47, 64]
theorem sym_bytes : ∀ j : Nat, j < 14 → bt (⟨#[59, 58, 44, 46, 40, 41, 123, 125, 61, 60, 43, 45, 47, 64]⟩ : ByteArray) (j : Int) = symI.getD j 0 := by decide +kernel
theorem sym_fin : ∀ n : Nat, n < 256 → symC (n : Int) = decide ((n : Int) ∈ symI) := by decide +kernel
theorem sym_loop (t : ByteArray) (i : Nat) (hi : i < t.size) : ∀ (d j k : Nat), j + d = 14 → d < k → Px.cleanseref07_symbol.l0 k t (i : Int) (j : Int) = some (if bt t (i : Int) ∈ symI.drop j then 1 else 0)
  | 0, j, k, h, hk => by
    obtain ⟨k, rfl⟩ : ∃ m, k = m + 1 := ⟨k - 1, by omega⟩
    simp only [Px.cleanseref07_symbol.l0]
    rw [if_neg (by omega), List.drop_of_length_le (by show 14 ≤ j; omega)]
    simp
  | d + 1, j, k, h, hk => by
    obtain ⟨k, rfl⟩ : ∃ m, k = m + 1 := ⟨k - 1, by omega⟩
    have hj : j < symI.length := by show j < 14; omega
    simp only [Px.cleanseref07_symbol.l0]
    rw [if_pos (by omega), if_pos (by omega), if_pos (by omega), if_pos (by omega), sym_bytes j (by omega), wrap_id (by omega) (by omega), show ((j : Int) + 1) = ((j + 1 : Nat) : Int) by omega, sym_loop t i hi d (j + 1) k (by omega) (by omega), List.drop_eq_getElem_cons hj]
    have e : symI.getD j 0 = symI[j] := by simp [List.getD_eq_getElem?_getD, hj]
    rw [e]
    by_cases c : symI[j] = bt t (i : Int)
    · rw [if_pos c, if_pos (by rw [c]; exact List.mem_cons_self)]
    · rw [if_neg c]
      congr 1
      by_cases m : bt t (i : Int) ∈ symI.drop (j + 1)
      · rw [if_pos m, if_pos (List.mem_cons_of_mem _ m)]
      · rw [if_neg m, if_neg (fun h => by
          rcases List.mem_cons.1 h with h | h
          · exact c h.symm
          · exact m h)]
theorem symbol_spec (t : ByteArray) (ht : t.size ≤ 100000) (i : Nat) (hi : i < t.size) (k : Nat) (hk : 20 < k) : Px.cleanseref07_symbol.f k t (i : Int) = some (if twoC ((bytesOf t).drop i) = true then 2 else if symC (bt t (i : Int)) = true then 1 else 0) := by
  obtain ⟨k, rfl⟩ : ∃ m, k = m + 1 := ⟨k - 1, by omega⟩
  have hl := sym_loop t i hi 14 0 k (by omega) (by omega)
  have hs : symC (bt t (i : Int)) = decide (bt t (i : Int) ∈ symI) := by
    obtain ⟨n, h, e⟩ := byte_nat t (i : Int); rw [e]; exact sym_fin n h
  have hl2 : Px.cleanseref07_symbol.l0 k t (i : Int) 0 = some (if symC (bt t (i : Int)) = true then 1 else 0) := by
    rw [show (0 : Int) = ((0 : Nat) : Int) from rfl, hl, hs]; simp
  have hd := drop_at t i hi
  unfold Px.cleanseref07_symbol.f
  simp only [Px.cleanseref07_symbol.j0]
  rw [wrap_id (by omega) (by omega), hl2]
  by_cases c : i + 1 < t.size
  · have hd2 := drop_at t (i + 1) c
    rw [show ((i + 1 : Nat) : Int) = (i : Int) + 1 by omega] at hd2
    rw [if_pos (by omega), if_pos (by omega), hd, hd2]
    have e : twoC (bt t (i : Int) :: bt t ((i : Int) + 1) :: (bytesOf t).drop (i + 1 + 1)) = (decide (bt t ((i : Int) + 1) = 61) && (decide (bt t (i : Int) = 33) || decide (bt t (i : Int) = 60))) := by
      unfold twoC
      simp only [List.isPrefixOf, Bool.and_true]
      generalize bt t ((i : Int) + 1) = y
      generalize bt t (i : Int) = x
      by_cases a : x = 33
      · subst a
        by_cases b : y = 61
        · subst b; rfl
        · have : ((61 : Int) == y) = false := beq_eq_false_iff_ne.2 (fun h => b h.symm)
          rw [this]; simp [b]
      · have h1 : ((33 : Int) == x) = false := beq_eq_false_iff_ne.2 (fun h => a h.symm)
        rw [h1]
        by_cases a2 : x = 60
        · subst a2
          by_cases b : y = 61
          · subst b; rfl
          · have : ((61 : Int) == y) = false := beq_eq_false_iff_ne.2 (fun h => b h.symm)
            rw [this]; simp [b]
        · have h2 : ((60 : Int) == x) = false := beq_eq_false_iff_ne.2 (fun h => a2 h.symm)
          rw [h2]; simp [a, a2]
    rw [e]
    by_cases b : bt t ((i : Int) + 1) = 61
    · rw [if_pos b, if_pos (by omega), if_pos (by omega), decide_eq_true b]
      by_cases a : bt t (i : Int) = 33
      · rw [if_pos a, if_pos trivial, decide_eq_true a]; rfl
      · rw [if_neg a, decide_eq_false a]
        by_cases a2 : bt t (i : Int) = 60
        · rw [if_pos (by simpa using a2), decide_eq_true a2]; rfl
        · rw [if_neg (by simpa using a2), decide_eq_false a2]; rfl
    · rw [if_neg b, decide_eq_false b, if_neg (by simp)]; rfl
  · rw [if_neg (by omega), if_neg (by simp), hd, drop_end t (i + 1) (by omega)]
    have e : twoC [bt t (i : Int)] = false := by simp [twoC, List.isPrefixOf]
    rw [e]; rfl
def tokR (r : Found) (i : Nat) : Int × ByteArray × Int × Int × Int × Int := match r with
  | .tok k s n m => (k, s, n, (i : Int), (m : Int), 0)
  | .err x => (0, ⟨#[]⟩, 0, 0, 0, x)
  | .none => (0, ⟨#[]⟩, 0, 0, 0, 5)
theorem quote_kind : ∀ (l acc : List Int) (i : Nat) {k : Int} {s : ByteArray} {n : Int} {m : Nat}, quoteL l acc i = .tok k s n m → k = 3 ∧ n = 0
  | [], acc, i, k, s, n, m, h => by rw [quote_end _ _ _ rfl] at h; cases h
  | c :: r, acc, i, k, s, n, m, h => by
    by_cases h1 : c = 34
    · subst h1
      rw [quote_34] at h
      split at h
      · cases h
      · cases h; exact ⟨rfl, rfl⟩
    by_cases h2 : c = 10
    · subst h2; rw [quote_10] at h; cases h
    by_cases h3 : c = 92
    · subst h3
      cases r with
      | nil => rw [quote_92_end] at h; cases h
      | cons d r' =>
        rw [quote_92] at h
        split at h
        · cases h
        · exact quote_kind r' _ _ h
    · rw [quote_else _ _ _ _ h1 h2 h3] at h
      exact quote_kind r _ _ h
theorem token_spec (t : ByteArray) (ht : t.size ≤ 100000) (i : Nat) (hi : i < t.size) (k : Nat) (hk : 2 * t.size + 50 < k) : Px.cleanseref07_token.f k t (i : Int) = some (tokR (tokZ ((bytesOf t).drop i)) i) := by
  have hh := head_at t i hi
  have hd := drop_at t i hi
  have hlen := drop_len t i
  unfold Px.cleanseref07_token.f
  rw [if_pos (by omega), if_pos (by omega), letter_ref]
  simp only [Option.bind_some]
  have hdig : run digitZ ((bytesOf t).drop i) = if digitZ (bt t (i : Int)) = true then 1 + run digitZ ((bytesOf t).drop (i + 1)) else 0 := run_at digitZ t i hi
  rcases tok_split ((bytesOf t).drop i) with ⟨a, e⟩ | ⟨a, b, e⟩ | ⟨a, b, c, e⟩ | ⟨a, b, c, e⟩ <;> rw [hh] at a <;> rw [e]
  · rw [if_pos a]
    have hrun : run innerZ ((bytesOf t).drop i) = 1 + run innerZ ((bytesOf t).drop (i + 1)) := by
      rw [run_at innerZ t i hi, if_pos (by unfold innerZ; rw [a]; rfl)]
    have h := name_loop t ht i (run innerZ ((bytesOf t).drop i)) (t.size - (i + 1)) 1 k (by omega) (by omega) hrun.symm
    rw [show ((1 : Nat) : Int) = 1 from rfl] at h
    rw [h]
    unfold nameR nameZ
    rw [hh, if_pos a]
    by_cases c : 24 < run innerZ ((bytesOf t).drop i)
    · rw [if_pos c, if_pos c]; rfl
    · rw [if_neg c, if_neg c, cut_str]; rfl
  · have hd1 : digitZ (bt t (i : Int)) = true := by
      cases hq : digitZ (bt t (i : Int)) with
      | true => rfl
      | false => rw [hq, if_neg (by simp)] at hdig; exact absurd hdig b
    rw [if_neg (by rw [a]; simp), digit_ref]
    simp only [Option.bind_some]
    rw [if_pos hd1]
    rw [if_pos hd1] at hdig
    have hdd := hd1
    unfold digitZ at hdd
    simp only [Bool.and_eq_true, decide_eq_true_eq] at hdd
    have hv1 : (bt t (i : Int) - 48) % 256 = numV (((bytesOf t).drop i).take 1) := by
      rw [hd]
      show _ = 0 * 10 + (bt t (i : Int) - 48)
      omega
    have h := num_loop t ht i (run digitZ ((bytesOf t).drop i)) (run innerZ ((bytesOf t).drop i)) rfl rfl (t.size - (i + 1)) 1 k ((bt t (i : Int) - 48) % 256) (by omega) (by omega) hdig.symm (fun _ => hv1) (by omega)
    rw [show ((1 : Nat) : Int) = 1 from rfl] at h
    rw [h]
    unfold numR numberZ
    rw [if_neg b]
    by_cases c : 10 < run digitZ ((bytesOf t).drop i)
    · rw [if_pos c, if_pos c]; rfl
    · rw [if_neg c, if_neg c]
      by_cases c2 : run digitZ ((bytesOf t).drop i) < run innerZ ((bytesOf t).drop i)
      · rw [if_pos c2, if_pos c2]; rfl
      · rw [if_neg c2, if_neg c2, cut_str]; rfl
  · have hd0 : digitZ (bt t (i : Int)) = false := by
      cases hq : digitZ (bt t (i : Int)) with
      | false => rfl
      | true => rw [hq, if_pos rfl] at hdig; omega
    rw [hh] at c
    rw [if_neg (by rw [a]; simp), digit_ref]
    simp only [Option.bind_some]
    rw [if_neg (by rw [hd0]; simp), if_pos c, content_spec t ht i hi k (by omega)]
    simp only [Option.bind_some]
    unfold quotedZ
    rw [hh, if_pos c, List.drop_drop]
    cases hq : quoteL ((bytesOf t).drop (i + 1)) [] 0 with
    | none => exact absurd hq (quote_noneL _ _ _)
    | err x =>
      have hx : ¬ x = 0 := by rcases quote_errs _ _ _ hq with rfl | rfl | rfl <;> decide
      simp only [contR, tokR, hx, ↓reduceIte]
    | tok k s n m =>
      obtain ⟨rfl, rfl⟩ := quote_kind _ _ _ hq
      simp only [contR, tokR, ↓reduceIte]
  · have hd0 : digitZ (bt t (i : Int)) = false := by
      cases hq : digitZ (bt t (i : Int)) with
      | false => rfl
      | true => rw [hq, if_pos rfl] at hdig; omega
    rw [hh] at c
    rw [if_neg (by rw [a]; simp), digit_ref]
    simp only [Option.bind_some]
    rw [if_neg (by rw [hd0]; simp), if_neg c, symbol_spec t ht i hi k (by omega)]
    simp only [Option.bind_some]
    unfold symbolZ
    rw [hh]
    by_cases c1 : twoC ((bytesOf t).drop i) = true
    · have h2 : 2 ≤ ((bytesOf t).drop i).length := by
        unfold twoC at c1
        simp only [Bool.or_eq_true] at c1
        rcases c1 with c1 | c1
        · exact prefix_len _ _ _ c1
        · exact prefix_len _ _ _ c1
      rw [if_pos c1, if_pos c1, if_neg (by decide), wrap_id (by omega) (by omega), if_pos (by omega), if_pos (by omega), Int.toNat_natCast, show ((i : Int) + 2).toNat = i + 2 by omega, cut_str]
      rfl
    · rw [if_neg c1, if_neg c1]
      by_cases c2 : symC (bt t (i : Int)) = true
      · rw [if_pos c2, if_pos c2, if_neg (by decide), wrap_id (by omega) (by omega), if_pos (by omega), if_pos (by omega), Int.toNat_natCast, show ((i : Int) + 1).toNat = i + 1 by omega, cut_str]
        rfl
      · rw [if_neg c2, if_neg c2, if_pos rfl]; rfl
end Go.Proofs.YtemjgafocgnccaaDoor.X
