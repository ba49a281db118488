/- The statement LexerPlaces over plain numbers, texts and lists. -/
import Derived.Test.YtemjgafocgnccaaDoorPlI
set_option linter.unusedVariables false
namespace Go.Proofs.YtemjgafocgnccaaDoor.Pure
open Go.RowKit Go.Proofs.YtemjgafocgnccaaDoorW.PrintWords
theorem head_ok : Px.cleanselaw07_head.f = some true := by decide +kernel
theorem LexerPlaces : ∀ (a0 : ByteArray), a0.size ≤ 140737488351232 → ∃ k, Px.cleanselaw07_LexerPlaces.f k a0 = some true := by
  intro s _
  obtain ⟨k, hK⟩ : ∃ k : Nat, k = 99999 := ⟨_, rfl⟩
  refine ⟨k, ?_⟩
  unfold Px.cleanselaw07_LexerPlaces.f
  rw [head_ok]
  simp only [Option.bind_some]
  by_cases c : (s.size : Int) > 3000
  · rw [if_pos c]
  rw [if_neg c]
  have hsz := X.bytes_size s
  have hL : X.lexer_Lex.f s = some (X.lexZ s) := by unfold X.lexer_Lex.f; rw [if_pos (by omega)]
  rw [hL]
  simp only [Option.bind_some]
  rw [X.lexZ_out s (by omega)]
  rcases hq : X.lexF (bytesOf s) with ⟨ts, r⟩
  obtain ⟨b1, b2⟩ := X.toksF_bd _ hq
  cases r with
  | some p =>
    obtain ⟨x, d⟩ := p
    have hx := X.errF hq
    have hd := X.errF_at hq
    rw [X.out_some]
    simp only
    rw [if_neg hx, if_pos trivial, if_pos (by rfl), if_pos (by omega), decide_eq_true (by omega)]
  | none =>
    rw [X.out_none]
    simp only
    rw [if_pos trivial]
    unfold X.lexF at hq
    rcases hB : X.lexB ((bytesOf s).drop (X.gapL false (bytesOf s))) with ⟨a, b⟩
    rw [hB] at hq
    simp only [X.Ans.sh, Prod.mk.injEq] at hq
    have hb : b = none := by
      cases b with
      | none => rfl
      | some p => simp at hq
    subst hb
    have h := X.places_loop s (by omega) ts (by omega) a.length a [] 0 k (Nat.le_refl _) (by omega) (by omega) (by rw [List.drop_zero, Nat.zero_add]; exact hB) (by rw [List.drop_zero, Nat.zero_add]; exact hq.1.symm)
    exact h
end Go.Proofs.YtemjgafocgnccaaDoor.Pure
