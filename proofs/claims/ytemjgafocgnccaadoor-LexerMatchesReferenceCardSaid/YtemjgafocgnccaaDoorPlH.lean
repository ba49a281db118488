/- The reference's Lex answers as the lexer's plain law: the whole. -/
import Derived.Test.YtemjgafocgnccaaDoorPlG
set_option linter.unusedVariables false
set_option linter.unusedSimpArgs false
namespace Go.Proofs.YtemjgafocgnccaaDoor.X
open Go.RowKit Go.Proofs.YtemjgafocgnccaaDoorW.PrintWords Go.Proofs.YtemjgafocgnccaaDoorW.PrintMore
theorem refLex_loop (t : ByteArray) (ht : t.size ≤ 100000) : ∀ (d i k : Nat) (acc : List Px.S30), t.size - i < d → i ≤ t.size → d + 2 * t.size + 100 < k → acc.length ≤ 5000 → Px.cleanseref07_Lex.l0 k t acc (i : Int) = some (lexL d ((bytesOf t).drop i) i acc)
  | 0, i, k, acc, h, hi, hk, ha => by omega
  | d + 1, i, k, acc, h, hi, hk, ha => by
    obtain ⟨k, rfl⟩ : ∃ m, k = m + 1 := ⟨k - 1, by omega⟩
    simp only [Px.cleanseref07_Lex.l0]
    by_cases c : i < t.size
    · have hl : (bytesOf t).drop i ≠ [] := by
        intro e
        have := congrArg List.length e
        rw [drop_len, List.length_nil] at this
        omega
      rw [if_pos (by omega), token_spec t ht i c k (by omega)]
      simp only [Option.bind_some]
      cases e : tokZ ((bytesOf t).drop i) with
      | err x =>
        have hx := tok_errs e
        rw [lexL_err' (d + 1) _ i acc x hl (by omega) e]
        simp only [tokR, hx, ↓reduceIte]
      | none =>
        rw [lexL_none' (d + 1) _ i acc hl (by omega) e]
        simp only [tokR, show ¬ ((5 : Int) = 0) by decide, ↓reduceIte]
      | tok kd s n m =>
        have hm := tok_len hl e
        rw [drop_len] at hm
        have hg := gap_le ((bytesOf t).drop (i + m)) false
        rw [drop_len] at hg
        rw [lexL_tok' d _ i acc kd s n m hl e]
        simp only [tokR, ↓reduceIte]
        by_cases c5 : acc.length = 5000
        · rw [if_pos (by omega), if_pos c5]
        · rw [if_neg (by omega), if_neg c5, if_pos (by omega), wrap_id (i := (i : Int) + (m : Int)) (by omega) (by omega), show ((i : Int) + (m : Int)) = ((i + m : Nat) : Int) by omega, gap_spec t ht (i + m) (by omega) k (by omega)]
          simp only [Option.bind_some]
          rw [List.drop_drop, List.drop_drop, wrap_id (by omega) (by omega), show (((i + m : Nat) : Int) + ((gapL false ((bytesOf t).drop (i + m)) : Nat) : Int)) = ((i + (m + gapL false ((bytesOf t).drop (i + m))) : Nat) : Int) by omega]
          rw [refLex_loop t ht d _ k _ (by omega) (by omega) (by omega) (by rw [List.length_append]; simp; omega)]
    · rw [if_neg (by omega), drop_end t i (by omega)]
      rfl
theorem refLex_spec (t : ByteArray) (ht : t.size ≤ 100000) (k : Nat) (hk : 3 * t.size + 200 < k) : Px.cleanseref07_Lex.f k t = some (lexZ t) := by
  unfold Px.cleanseref07_Lex.f lexZ
  by_cases c : 20000 < t.size
  · rw [if_pos (by omega), if_pos c]
  · have hg := gap_le (bytesOf t) false
    rw [bytes_size] at hg
    have hs := gap_spec t ht 0 (by omega) k (by omega)
    rw [List.drop_zero] at hs
    rw [if_neg (by omega), if_neg c, show (0 : Int) = ((0 : Nat) : Int) from rfl, hs]
    simp only [Option.bind_some]
    exact refLex_loop t ht (t.size + 1) _ k [] (by omega) (by omega) (by omega) (by simp)
theorem lexL_bd : ∀ (k : Nat) (l : List Int) (i N : Nat) (acc : List Px.S30), i + l.length ≤ N → acc.length ≤ 5000 → (∀ x ∈ acc, 0 ≤ x.f3 ∧ x.f3 ≤ (N : Int)) → (lexL k l i acc).1.length ≤ 5000 ∧ ∀ x ∈ (lexL k l i acc).1, 0 ≤ x.f3 ∧ x.f3 ≤ (N : Int)
  | 0, l, i, N, acc, h, ha, hb => ⟨ha, hb⟩
  | k + 1, l, i, N, acc, h, ha, hb => by
    by_cases hl : l = []
    · subst hl; exact ⟨ha, hb⟩
    · cases e : tokZ l with
      | err x => rw [lexL_err' (k + 1) l i acc x hl (by omega) e]; simp
      | none => rw [lexL_none' (k + 1) l i acc hl (by omega) e]; simp
      | tok kd s n m =>
        have hm := tok_len hl e
        have hg := gap_drop_le l m hm.2
        rw [lexL_tok' k l i acc kd s n m hl e]
        by_cases c5 : acc.length = 5000
        · rw [if_pos c5]; simp
        · rw [if_neg c5]
          refine lexL_bd k _ _ N _ (by rw [List.length_drop]; omega) (by rw [List.length_append]; simp; omega) (fun x hx => ?_)
          rcases List.mem_append.1 hx with hx | hx
          · exact hb x hx
          · rw [List.mem_singleton] at hx
            subst hx
            simp only
            omega
theorem lexZ_bd (t : ByteArray) : (lexZ t).1.length ≤ 5000 ∧ ∀ x ∈ (lexZ t).1, 0 ≤ x.f3 ∧ x.f3 ≤ (t.size : Int) := by
  unfold lexZ
  have hg := gap_le (bytesOf t) false
  rw [bytes_size] at hg
  split
  · simp
  · exact lexL_bd _ _ _ t.size _ (by rw [drop_len]; omega) (by simp) (by simp)
end Go.Proofs.YtemjgafocgnccaaDoor.X
