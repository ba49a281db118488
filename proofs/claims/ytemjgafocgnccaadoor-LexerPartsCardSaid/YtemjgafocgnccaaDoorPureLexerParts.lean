/- The statement LexerParts over plain numbers, texts and lists. -/
import Derived.Test.YtemjgafocgnccaaDoorPx11
import Derived.Test.YtemjgafocgnccaaDoorPlE
set_option linter.unusedVariables false
namespace Go.Proofs.YtemjgafocgnccaaDoor.Pure
open Go.RowKit Go.Proofs.YtemjgafocgnccaaDoorW.PrintWords
theorem head_is : Px.cleanselaw07_head.f = some true := by decide +kernel
theorem LexerParts : ∀ (a0 : ByteArray) (a1 : ByteArray), a0.size ≤ 140737488351232 → a1.size ≤ 140737488351232 → ∃ k, Px.cleanselaw07_LexerParts.f k a0 a1 = some true := by
  intro s t _ _
  obtain ⟨k, hK⟩ : ∃ k : Nat, k = 9999 := ⟨_, rfl⟩
  have j0t : ∀ m, 0 < m → Px.cleanselaw07_LexerParts.j0 m s t true true = some true := by
    intro m hm
    obtain ⟨m, rfl⟩ : ∃ n, m = n + 1 := ⟨m - 1, by omega⟩
    simp only [Px.cleanselaw07_LexerParts.j0]
    rw [if_pos trivial]
  refine ⟨k, ?_⟩
  unfold Px.cleanselaw07_LexerParts.f
  rw [head_is]
  simp only [Option.bind_some]
  by_cases c1 : (s.size : Int) > 1500
  · rw [if_pos c1]; exact j0t k (by omega)
  rw [if_neg c1]
  by_cases c2 : (t.size : Int) > 1500
  · rw [decide_eq_true c2]; exact j0t k (by omega)
  rw [decide_eq_false c2]
  obtain ⟨k, rfl⟩ : ∃ m, k = m + 2 := ⟨k - 2, by omega⟩
  simp only [Px.cleanselaw07_LexerParts.j0]
  rw [if_neg (by simp)]
  have hz : ((s ++ (⟨#[10]⟩ : ByteArray)) ++ t).size = s.size + 1 + t.size := by
    rw [ByteArray.size_append, ByteArray.size_append]; rfl
  have h1 : X.lexer_Lex.f s = some (X.lexZ s) := by unfold X.lexer_Lex.f; rw [if_pos (by omega)]
  have h2 : X.lexer_Lex.f t = some (X.lexZ t) := by unfold X.lexer_Lex.f; rw [if_pos (by omega)]
  have h3 : X.lexer_Lex.f ((s ++ (⟨#[10]⟩ : ByteArray)) ++ t) = some (X.lexZ ((s ++ (⟨#[10]⟩ : ByteArray)) ++ t)) := by unfold X.lexer_Lex.f; rw [if_pos (by omega)]
  rw [h1, h2]
  simp only [Option.bind_some]
  rw [if_pos (by omega), if_pos (by rw [ByteArray.size_append]; show s.size + 1 + _ ≤ _; omega), h3]
  simp only [Option.bind_some]
  have hb : bytesOf ((s ++ (⟨#[10]⟩ : ByteArray)) ++ t) = bytesOf s ++ 10 :: bytesOf t := by
    rw [X.bytes_app, X.bytes_app, List.append_assoc]; rfl
  rw [X.lexZ_out s (by omega), X.lexZ_out t (by omega), X.lexZ_out _ (by omega), hb]
  have hs := X.bytes_size s
  have ht := X.bytes_size t
  obtain ⟨p1, p2⟩ := X.lexF_plus (bytesOf s) (bytesOf t)
  rcases hq : X.lexF (bytesOf s) with ⟨ts, r⟩
  cases r with
  | some q =>
    obtain ⟨x, d⟩ := q
    have hx := X.errF hq
    have h4 := p2 _ _ _ hq
    rcases hq2 : X.lexF (bytesOf s ++ 10 :: bytesOf t) with ⟨ts2, r2⟩
    rw [hq2] at h4
    cases r2 with
    | none => exact absurd rfl h4
    | some q2 =>
      obtain ⟨y, e⟩ := q2
      have hy := X.errF hq2
      rw [X.out_some, X.out_some]
      simp only
      rw [if_neg hx, if_pos trivial, bne_iff_ne.2 hy]
  | none =>
    rw [p1 ts hq, X.out_none]
    simp only
    rw [if_pos trivial]
    obtain ⟨b1, b2⟩ := X.toksF_bd _ hq
    rcases hq2 : X.lexF (bytesOf t) with ⟨ts2, r2⟩
    obtain ⟨b3, b4⟩ := X.toksF_bd _ hq2
    cases r2 with
    | some q2 =>
      obtain ⟨y, e⟩ := q2
      have hy := X.errF hq2
      have he := X.errF_at hq2
      have e1 : X.Ans.plus (ts, none) (X.Ans.sh ((bytesOf s).length + 1) (ts2, some (y, e))) = (ts ++ ts2.map (X.sh ((bytesOf s).length + 1)), some (y, e + ((bytesOf s).length + 1))) := rfl
      rw [e1, X.out_some, X.out_some]
      simp only
      rw [if_neg hy, if_pos trivial, if_pos trivial, X.wrap_id (i := (e : Int) + (s.size : Int)) (by omega) (by omega), X.wrap_id (by omega) (by omega)]
      congr 1
      rw [beq_iff_eq, hs]
      omega
    | none =>
      have e1 : X.Ans.plus (ts, none) (X.Ans.sh ((bytesOf s).length + 1) (ts2, none)) = (ts ++ ts2.map (X.sh ((bytesOf s).length + 1)), none) := rfl
      rw [e1, X.out_none, X.out_none]
      simp only
      rw [if_pos trivial, if_pos trivial]
      have hlen : ((ts ++ ts2.map (X.sh ((bytesOf s).length + 1))).length : Int) = wrap64 ((ts.length : Int) + (ts2.length : Int)) := by
        rw [X.wrap_id (by omega) (by omega), List.length_append, List.length_map]; omega
      rw [hlen, bne_self_eq_false]
      simp only [Px.cleanselaw07_LexerParts.j1]
      have hl2 : (ts.length : Int) ≤ ((ts ++ ts2.map (X.sh ((bytesOf s).length + 1))).length : Int) := by rw [List.length_append]; omega
      rw [if_neg (by simp), if_pos trivial, if_pos (by omega), if_pos hl2, Int.toNat_natCast, List.take_left, List.drop_left]
      have s1 := X.same_sh ts 0 (by omega) (by omega) (fun x hx => by have := b2 x hx; omega) k (by omega)
      rw [X.sh_zero] at s1
      rw [show (0 : Int) = ((0 : Nat) : Int) from rfl, s1]
      simp only [Option.bind_some]
      have s2 := X.same_sh ts2 ((bytesOf s).length + 1) (by omega) (by omega) (fun x hx => by have := b4 x hx; omega) k (by omega)
      rw [if_pos trivial, X.wrap_id (by omega) (by omega), show ((s.size : Int) + 1) = (((bytesOf s).length + 1 : Nat) : Int) by omega, s2]
      rfl
end Go.Proofs.YtemjgafocgnccaaDoor.Pure
