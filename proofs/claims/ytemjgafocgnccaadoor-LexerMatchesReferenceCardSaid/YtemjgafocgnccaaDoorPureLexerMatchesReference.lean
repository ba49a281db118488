/- The statement LexerMatchesReference over plain numbers, texts and lists. -/
import Derived.Test.YtemjgafocgnccaaDoorPx8
import Derived.Test.YtemjgafocgnccaaDoorPlH
set_option linter.unusedVariables false
namespace Go.Proofs.YtemjgafocgnccaaDoor.Pure
open Go.RowKit Go.Proofs.YtemjgafocgnccaaDoorW.PrintWords
theorem head_good : Px.cleanselaw07_head.f = some true := by decide +kernel
theorem LexerMatchesReference : ∀ (a0 : ByteArray), a0.size ≤ 140737488351232 → ∃ k, Px.cleanselaw07_LexerMatchesReference.f k a0 = some true := by
  intro s _
  obtain ⟨k, hK⟩ : ∃ k : Nat, k = 99999 := ⟨_, rfl⟩
  refine ⟨k, ?_⟩
  unfold Px.cleanselaw07_LexerMatchesReference.f
  rw [head_good]
  simp only [Option.bind_some]
  by_cases c : (s.size : Int) > 21000
  · rw [if_pos c]
  rw [if_neg c]
  have h1 : X.lexer_Lex.f s = some (X.lexZ s) := by unfold X.lexer_Lex.f; rw [if_pos (by omega)]
  rw [h1, X.refLex_spec s (by omega) k (by omega)]
  simp only [Option.bind_some]
  rw [if_pos trivial, if_pos trivial, if_pos trivial]
  obtain ⟨b1, b2⟩ := X.lexZ_bd s
  have s1 := X.same_sh (X.lexZ s).1 0 (by omega) (by omega) (fun x hx => by have := b2 x hx; omega) k (by omega)
  rw [X.sh_zero] at s1
  rw [show (0 : Int) = ((0 : Nat) : Int) from rfl, s1]
  rfl
end Go.Proofs.YtemjgafocgnccaaDoor.Pure
