/- The statement LexerBeginnings over plain numbers, texts and lists. -/
import Derived.Test.YtemjgafocgnccaaDoorPx12
import Derived.Test.YtemjgafocgnccaaDoorPlC
set_option linter.unusedVariables false
namespace Go.Proofs.YtemjgafocgnccaaDoor.Pure
open Go.RowKit Go.Proofs.YtemjgafocgnccaaDoorW.PrintWords
theorem head_true : Px.cleanselaw07_head.f = some true := by decide +kernel
theorem LexerBeginnings : ∀ (a0 : ByteArray), a0.size ≤ 140737488351232 → ∃ k, Px.cleanselaw07_LexerBeginnings.f k a0 = some true := by
  intro s hs
  refine ⟨1, ?_⟩
  unfold Px.cleanselaw07_LexerBeginnings.f
  rw [head_true]
  simp only [Option.bind_some]
  by_cases c : (s.size : Int) > 3000
  · rw [if_pos c]
  rw [if_neg c]
  have hsz := X.bytes_size s
  have hL : X.lexer_Lex.f s = some (X.lexZ s) := by unfold X.lexer_Lex.f; rw [if_pos (by omega)]
  rw [hL]
  simp only [Option.bind_some]
  rw [X.lexZ_out s (by omega)]
  rcases hq : X.lexF (bytesOf s) with ⟨ts, r⟩
  cases r with
  | none => simp [X.Ans.out]
  | some p =>
    obtain ⟨x, D⟩ := p
    have hF : X.lexF (bytesOf s) = (ts, some (x, D)) := hq
    unfold X.lexF at hq
    obtain ⟨ts', d', hq2, rfl⟩ := X.ans_some hq
    have hg0 : X.gapL false ((bytesOf s).drop (X.gapL false (bytesOf s))) = 0 := X.gap_drop _ _
    obtain ⟨r1, r2, r3, r4, r5⟩ := X.lexB_at _ _ (Nat.le_refl _) hg0 _ _ _ hq2
    rw [List.length_drop] at r2
    rw [List.drop_drop] at r3 r4
    generalize hg : X.gapL false (bytesOf s) = g at *
    have ho : X.Ans.out 0 [] (ts, some (x, d' + g)) = ([], x, ((d' + g : Nat) : Int)) := by simp [X.Ans.out]
    rw [ho]
    simp only
    rw [if_neg r1, if_neg (by omega), decide_eq_false (p := ((d' + g : Nat) : Int) ≥ (s.size : Int)) (by omega)]
    simp only [Px.cleanselaw07_LexerBeginnings.j0]
    rw [if_neg (by simp), if_pos (by omega), if_pos (by omega), Int.toNat_natCast]
    have hb1 : bytesOf (s.extract 0 (d' + g)) = (bytesOf s).take (d' + g) := by rw [X.bytes_extract, List.drop_zero]
    have hb2 : bytesOf (s.extract (d' + g) s.size) = (bytesOf s).drop (d' + g) := by rw [X.bytes_extract, List.take_of_length_le (by omega)]
    have hz1 : (s.extract 0 (d' + g)).size ≤ 4999 := by rw [ByteArray.size_extract]; omega
    have hz2 : (s.extract (d' + g) s.size).size ≤ 4999 := by rw [ByteArray.size_extract]; omega
    have h1 : X.lexer_Lex.f (s.extract 0 (d' + g)) = some (X.lexZ (s.extract 0 (d' + g))) := by unfold X.lexer_Lex.f; rw [if_pos (by omega)]
    have h2 : X.lexer_Lex.f (s.extract (d' + g) s.size) = some (X.lexZ (s.extract (d' + g) s.size)) := by unfold X.lexer_Lex.f; rw [if_pos (by omega)]
    rw [h1, h2]
    simp only [Option.bind_some]
    rw [X.lexZ_out _ hz1, X.lexZ_out _ hz2, hb1, hb2]
    have e1 : (X.lexF ((bytesOf s).take (d' + g))).2 = none := by
      unfold X.lexF
      rw [X.gap_take, hg, show min (d' + g) g = g by omega, List.drop_take, Nat.add_sub_cancel]
      generalize X.lexB (((bytesOf s).drop g).take d') = q at *
      obtain ⟨a, r⟩ := q
      simp only at r5
      subst r5
      rfl
    have e2 : X.lexF ((bytesOf s).drop (d' + g)) = ([], some (x, 0)) := by
      unfold X.lexF
      rw [Nat.add_comm d' g, r3, List.drop_zero, r4]
      rfl
    rw [e2]
    generalize X.lexF ((bytesOf s).take (d' + g)) = q at *
    obtain ⟨a, r⟩ := q
    simp only at e1
    subst e1
    simp [X.Ans.out]
end Go.Proofs.YtemjgafocgnccaaDoor.Pure
