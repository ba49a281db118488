/- What a scan finds at the beginning of bytes, in plain Lean: how long a token is; the tokens of bytes. -/
import Derived.Test.YtemjgafocgnccaaDoorX7
import Derived.Test.YtemjgafocgnccaaDoorPx0
set_option linter.unusedVariables false
set_option linter.unusedSimpArgs false
namespace Go.Proofs.YtemjgafocgnccaaDoor.X
open Go.RowKit Go.Proofs.YtemjgafocgnccaaDoorW.PrintWords Go.Proofs.YtemjgafocgnccaaDoorW.PrintMore
def tokZ (l : List Int) : Found := match nameZ l with
  | .none => (match numberZ l with
    | .none => (match quotedZ l with
      | .none => symbolZ l
      | r => r)
    | r => r)
  | r => r
theorem tok_cases {l : List Int} {k : Int} {s : ByteArray} {n : Int} {m : Nat} (h : tokZ l = .tok k s n m) : nameZ l = .tok k s n m ∨ numberZ l = .tok k s n m ∨ quotedZ l = .tok k s n m ∨ symbolZ l = .tok k s n m := by
  unfold tokZ at h
  split at h
  · split at h
    · split at h
      · exact .inr (.inr (.inr h))
      · exact .inr (.inr (.inl h))
    · exact .inr (.inl h)
  · exact .inl h
theorem quote_len : ∀ (l acc : List Int) (i : Nat) {k : Int} {s : ByteArray} {n : Int} {m : Nat}, quoteL l acc i = .tok k s n m → i + 2 ≤ m ∧ m ≤ i + 1 + l.length
  | [], acc, i, k, s, n, m, h => by rw [quote_end _ _ _ rfl] at h; cases h
  | c :: r, acc, i, k, s, n, m, h => by
    by_cases h1 : c = 34
    · subst h1
      rw [quote_34] at h
      split at h
      · cases h
      · cases h; rw [List.length_cons]; omega
    by_cases h2 : c = 10
    · subst h2
      rw [quote_10] at h
      cases h
    by_cases h3 : c = 92
    · subst h3
      cases r with
      | nil => rw [quote_92_end] at h; cases h
      | cons d r' =>
        rw [quote_92] at h
        split at h
        · cases h
        · have := quote_len r' _ _ h
          simp only [List.length_cons]; omega
    · rw [quote_else _ _ _ _ h1 h2 h3] at h
      have := quote_len r _ _ h
      simp only [List.length_cons]; omega
theorem tok_len {l : List Int} {k : Int} {s : ByteArray} {n : Int} {m : Nat} (hl : l ≠ []) (h : tokZ l = .tok k s n m) : 1 ≤ m ∧ m ≤ l.length := by
  have hpos : 0 < l.length := List.length_pos_iff.2 hl
  rcases tok_cases h with h | h | h | h
  · unfold nameZ at h
    split at h
    · rename_i hh
      split at h
      · cases h
      · cases h
        refine ⟨?_, run_le _ _⟩
        cases l with
        | nil => exact absurd rfl hl
        | cons c r =>
          have : innerZ c = true := by unfold innerZ; rw [show letterZ c = true from hh]; rfl
          unfold run
          rw [List.takeWhile_cons_of_pos this, List.length_cons]; omega
    · cases h
  · unfold numberZ at h
    split at h
    · cases h
    · split at h
      · cases h
      · split at h
        · cases h
        · cases h
          exact ⟨by omega, run_le _ _⟩
  · unfold quotedZ at h
    split at h
    · have := quote_len _ _ _ h
      rw [List.length_drop] at this
      omega
    · cases h
  · unfold symbolZ at h
    split at h
    · rename_i hh
      cases h
      refine ⟨by omega, ?_⟩
      unfold twoC at hh
      rcases Bool.or_eq_true _ _ ▸ hh with hh | hh
      · exact prefix_len _ _ _ hh
      · exact prefix_len _ _ _ hh
    · split at h
      · cases h; omega
      · cases h
/-- The tokens of the bytes that are left, behind those that were read. -/
def lexL : Nat → List Int → Nat → List Px.S30 → List Px.S30 × Int × Int
  | 0, _, _, acc => (acc, 0, 0)
  | _ + 1, [], _, acc => (acc, 0, 0)
  | k + 1, c :: r, i, acc => match tokZ (c :: r) with
    | .err x => ([], x, (i : Int))
    | .none => ([], 5, (i : Int))
    | .tok kd s n m => if acc.length = 5000 then ([], 3, (i : Int)) else
        lexL k ((c :: r).drop (m + gapL false ((c :: r).drop m))) (i + (m + gapL false ((c :: r).drop m))) (acc ++ [⟨kd, s, n, (i : Int)⟩])
def lexZ (t : ByteArray) : List Px.S30 × Int × Int :=
  if 20000 < t.size then ([], 3, -1) else lexL (t.size + 1) ((bytesOf t).drop (gapL false (bytesOf t))) (gapL false (bytesOf t)) []
end Go.Proofs.YtemjgafocgnccaaDoor.X
