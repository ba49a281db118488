/- The tokens of bytes without a limit of their number; cut short, and continued behind a line feed: in plain Lean. -/
import Derived.Test.YtemjgafocgnccaaDoorPlA
set_option linter.unusedVariables false
set_option linter.unusedSimpArgs false
namespace Go.Proofs.YtemjgafocgnccaaDoor.X
open Go.RowKit Go.Proofs.YtemjgafocgnccaaDoorW.PrintWords Go.Proofs.YtemjgafocgnccaaDoorW.PrintMore
def sh (d : Nat) (x : Px.S30) : Px.S30 := ⟨x.f0, x.f1, x.f2, x.f3 + (d : Int)⟩
theorem sh_sh (a b : Nat) (l : List Px.S30) : (l.map (sh a)).map (sh b) = l.map (sh (a + b)) := by
  rw [List.map_map]
  congr 1
  funext x
  simp only [Function.comp, sh, Int.natCast_add, Int.add_assoc]
theorem sh_zero (l : List Px.S30) : l.map (sh 0) = l := by
  have : sh 0 = id := by funext x; simp [sh]
  rw [this, List.map_id]
abbrev Ans := List Px.S30 × Option (Int × Nat)
def Ans.sh (g : Nat) (q : Ans) : Ans := (q.1.map (X.sh g), q.2.map fun p => (p.1, p.2 + g))
def Ans.cons (x : Px.S30) (q : Ans) : Ans := (x :: q.1, q.2)
def lexA : Nat → List Int → Ans
  | 0, _ => ([], none)
  | _ + 1, [] => ([], none)
  | k + 1, c :: r => match tokZ (c :: r) with
    | .err x => ([], some (x, 0))
    | .none => ([], some (5, 0))
    | .tok kd s n m => Ans.cons ⟨kd, s, n, 0⟩ (Ans.sh (m + gapL false ((c :: r).drop m)) (lexA k ((c :: r).drop (m + gapL false ((c :: r).drop m)))))
theorem lexA_any : ∀ (k : Nat) (l : List Int), l.length < k → ∀ k', l.length < k' → lexA k l = lexA k' l
  | 0, l, h, _, _ => by omega
  | k + 1, [], _, 0, h => by simp at h
  | k + 1, [], _, k' + 1, _ => rfl
  | k + 1, c :: r, h, 0, h' => by simp at h'
  | k + 1, c :: r, h, k' + 1, h' => by
    simp only [lexA]
    cases ht : tokZ (c :: r) with
    | err x => rfl
    | none => rfl
    | tok kd s n m =>
      have hm := tok_len (by simp) ht
      have hl : ((c :: r).drop (m + gapL false ((c :: r).drop m))).length < (c :: r).length := by rw [List.length_drop]; simp only [List.length_cons] at *; omega
      simp only []
      rw [lexA_any k _ (by omega) k' (by omega)]
def lexB (l : List Int) : Ans := lexA (l.length + 1) l
theorem lexB_nil : lexB [] = ([], none) := rfl
theorem lexB_err {l : List Int} (hl : l ≠ []) {x : Int} (h : tokZ l = .err x) : lexB l = ([], some (x, 0)) := by
  cases l with
  | nil => exact absurd rfl hl
  | cons c r => simp only [lexB, lexA, h]
theorem lexB_none {l : List Int} (hl : l ≠ []) (h : tokZ l = .none) : lexB l = ([], some (5, 0)) := by
  cases l with
  | nil => exact absurd rfl hl
  | cons c r => simp only [lexB, lexA, h]
theorem lexB_tok {l : List Int} (hl : l ≠ []) {kd : Int} {s : ByteArray} {n : Int} {m : Nat} (h : tokZ l = .tok kd s n m) :
    lexB l = Ans.cons ⟨kd, s, n, 0⟩ (Ans.sh (m + gapL false (l.drop m)) (lexB (l.drop (m + gapL false (l.drop m))))) := by
  have hm := tok_len hl h
  cases l with
  | nil => exact absurd rfl hl
  | cons c r =>
    have hl2 : ((c :: r).drop (m + gapL false ((c :: r).drop m))).length < (c :: r).length := by rw [List.length_drop]; simp only [List.length_cons] at *; omega
    conv => lhs; rw [lexB, lexA.eq_3]
    rw [h]
    simp only []
    unfold lexB
    rw [lexA_any _ _ (by omega) _ (Nat.lt_succ_self _)]
/-- A scan in steps: every induction over the tokens goes so. -/
theorem lex_ind {C : List Int → Prop} (h0 : C []) (he : ∀ l x, l ≠ [] → tokZ l = .err x → C l) (hn : ∀ l, l ≠ [] → tokZ l = .none → C l)
    (ht : ∀ l kd s n m, l ≠ [] → tokZ l = .tok kd s n m → 1 ≤ m → m ≤ l.length → C (l.drop (m + gapL false (l.drop m))) → C l) : ∀ (k : Nat) (l : List Int), l.length ≤ k → C l
  | 0, l, h => by
    have : l = [] := List.length_eq_zero_iff.1 (by omega)
    subst this; exact h0
  | k + 1, l, h => by
    by_cases hl : l = []
    · subst hl; exact h0
    · cases e : tokZ l with
      | err x => exact he l x hl e
      | none => exact hn l hl e
      | tok kd s n m =>
        have hm := tok_len hl e
        exact ht l kd s n m hl e hm.1 hm.2 (lex_ind h0 he hn ht k _ (by rw [List.length_drop]; omega))
theorem lexL_err' (g : Nat) (l : List Int) (i : Nat) (acc : List Px.S30) (x : Int) (hl : l ≠ []) (hg : 0 < g) (h : tokZ l = .err x) : lexL g l i acc = ([], x, (i : Int)) := by
  obtain ⟨g, rfl⟩ : ∃ m, g = m + 1 := ⟨g - 1, by omega⟩
  cases l with
  | nil => exact absurd rfl hl
  | cons c r => simp only [lexL, h]
theorem lexL_none' (g : Nat) (l : List Int) (i : Nat) (acc : List Px.S30) (hl : l ≠ []) (hg : 0 < g) (h : tokZ l = .none) : lexL g l i acc = ([], 5, (i : Int)) := by
  obtain ⟨g, rfl⟩ : ∃ m, g = m + 1 := ⟨g - 1, by omega⟩
  cases l with
  | nil => exact absurd rfl hl
  | cons c r => simp only [lexL, h]
theorem lexL_tok' (g : Nat) (l : List Int) (i : Nat) (acc : List Px.S30) (k : Int) (s : ByteArray) (n : Int) (m : Nat) (hl : l ≠ []) (h : tokZ l = .tok k s n m) : lexL (g + 1) l i acc = if acc.length = 5000 then ([], 3, (i : Int)) else lexL g (l.drop (m + gapL false (l.drop m))) (i + (m + gapL false (l.drop m))) (acc ++ [⟨k, s, n, (i : Int)⟩]) := by
  cases l with
  | nil => exact absurd rfl hl
  | cons c r => simp only [lexL, h]
def Ans.out (i : Nat) (acc : List Px.S30) (q : Ans) : List Px.S30 × Int × Int := match q.2 with
  | none => (acc ++ q.1.map (X.sh i), 0, 0)
  | some (x, d) => ([], x, ((i + d : Nat) : Int))
theorem lexL_out : ∀ (k : Nat) (l : List Int) (i : Nat) (acc : List Px.S30), l.length < k → acc.length + l.length < 5000 → lexL k l i acc = Ans.out i acc (lexB l)
  | 0, l, i, acc, h, _ => by omega
  | k + 1, l, i, acc, h, h5 => by
    by_cases hl : l = []
    · subst hl
      simp [lexL, lexB_nil, Ans.out]
    · have hpos := List.length_pos_iff.2 hl
      cases e : tokZ l with
      | err x => rw [lexL_err' (k + 1) l i acc x hl (by omega) e, lexB_err hl e]; rfl
      | none => rw [lexL_none' (k + 1) l i acc hl (by omega) e, lexB_none hl e]; rfl
      | tok kd s n m =>
        have hm := tok_len hl e
        rw [lexL_tok' k l i acc kd s n m hl e, if_neg (by omega), lexB_tok hl e]
        have hd : (l.drop (m + gapL false (l.drop m))).length < l.length := by rw [List.length_drop]; omega
        rw [lexL_out k _ _ _ (by omega) (by rw [List.length_append]; simp; omega)]
        generalize lexB (l.drop (m + gapL false (l.drop m))) = q
        obtain ⟨ts, r⟩ := q
        cases r with
        | none =>
          simp only [Ans.out, Ans.cons, Ans.sh, Option.map_none, List.map_cons, sh_sh]
          rw [List.append_assoc]
          congr 2
          simp only [List.cons_append, List.nil_append]
          congr 1
          · simp [X.sh]
          · rw [Nat.add_comm]
        | some p =>
          simp only [Ans.out, Ans.cons, Ans.sh, Option.map_some]
          congr 3
          omega
end Go.Proofs.YtemjgafocgnccaaDoor.X
