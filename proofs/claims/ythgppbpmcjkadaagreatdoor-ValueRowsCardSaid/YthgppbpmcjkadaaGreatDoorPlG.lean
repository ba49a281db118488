/- Rows of values compared: value.CompareRows and the reference's. -/
import Derived.Test.YthgppbpmcjkadaaGreatDoorPlE
import Derived.Test.YthgppbpmcjkadaaGreatDoorPx13 -- F value_CompareRows
set_option linter.unusedVariables false
set_option linter.unusedSimpArgs false
namespace Go.Proofs.YthgppbpmcjkadaaGreatDoor.X
open Go.RowKit Go.Proofs.YthgppbpmcjkadaaGreatDoorW.PrintWords Go.Proofs.YthgppbpmcjkadaaGreatDoorW.PrintMore
theorem ord_map {α β : Type} {f : α → α → Int} (F : Ord3 f) (g : β → α) (hg : ∀ x y, g x = g y → x = y) : Ord3 (fun x y => f (g x) (g y)) :=
  ⟨fun x y => F.lo _ _, fun x y => F.hi _ _, fun x y => (F.zero _ _).trans ⟨hg x y, fun h => by rw [h]⟩, fun x y => F.anti _ _, fun x y z => F.trans _ _ _⟩
def tri (s : Px.S23) : Int × Int × List UInt8 := (s.f0, s.f1, s.f2.data.toList)
theorem tri_inj (x y : Px.S23) (h : tri x = tri y) : x = y := by
  obtain ⟨a, b, c⟩ := x
  obtain ⟨p, q, r⟩ := y
  unfold tri at h
  simp only [Prod.mk.injEq] at h
  obtain ⟨rfl, rfl, h⟩ := h
  rw [(list_eq c r).1 h]
def cv (x y : Px.S23) : Int := cmpV (tri x) (tri y)
theorem ord_cv : Ord3 cv := ord_map ord_val tri tri_inj
theorem refSign_f (x y : Int) : Px.cleanseref02_sign.f x y = some (ordI x y) := by
  unfold Px.cleanseref02_sign.f ordI
  by_cases h : x < y
  · rw [if_pos h, if_pos h]
  · rw [if_neg h, if_neg h]
    by_cases h2 : y < x
    · rw [if_pos h2, if_pos h2]
    · rw [if_neg h2, if_neg h2]
theorem refCompare_f (k n : Int) (t : ByteArray) (k' n' : Int) (t' : ByteArray) : Px.cleanseref02_Compare.f k n t k' n' t' = some (cmpZ k n t.data.toList k' n' t'.data.toList) := by
  unfold Px.cleanseref02_Compare.f cmpZ
  by_cases h : k = k'
  · rw [if_pos h, if_pos ((ord_int.zero _ _).2 h)]
    by_cases h2 : n = n'
    · rw [if_pos h2, if_pos ((ord_int.zero _ _).2 h2)]
      unfold ordT
      rw [ByteArray.toList_eq, ByteArray.toList_eq]
      by_cases h3 : Op.bytesLess t.data.toList t'.data.toList = true
      · rw [if_pos h3, if_pos h3]
      · rw [if_neg h3, if_neg h3]
        by_cases h4 : Op.bytesLess t'.data.toList t.data.toList = true
        · rw [if_pos h4, if_pos h4]
        · rw [if_neg h4, if_neg h4]
    · rw [if_neg h2, if_neg (fun e => h2 ((ord_int.zero _ _).1 e)), refSign_f]; rfl
  · rw [if_neg h, if_neg (fun e => h ((ord_int.zero _ _).1 e)), refSign_f]; rfl
theorem rd_at (l : List Px.S23) (i : Nat) (h : i < l.length) : Px.rd_T23 l (i : Int) = l[i] := by
  unfold Px.rd_T23
  rw [Int.toNat_natCast, List.getD_eq_getElem?_getD, List.getElem?_eq_getElem h]; rfl
theorem row_end (l m : List Px.S23) (i : Nat) (h : i = min l.length m.length) : rowZ cv (l.drop i) (m.drop i) = ordI (l.length : Int) (m.length : Int) := by
  rcases Nat.lt_trichotomy l.length m.length with c | c | c
  · have : i = l.length := by omega
    rw [this, List.drop_length, List.drop_eq_getElem_cons c]
    simp only [rowZ, ordI]
    rw [if_pos (by omega)]
  · rw [List.drop_eq_nil_of_le (by omega), List.drop_eq_nil_of_le (by omega)]
    simp only [rowZ, ordI]
    rw [if_neg (by omega), if_neg (by omega)]
  · have : i = m.length := by omega
    rw [this, List.drop_length, List.drop_eq_getElem_cons c]
    simp only [rowZ, ordI]
    rw [if_neg (by omega), if_pos (by omega)]
theorem rows_cmp_loop (l m : List Px.S23) (hl : l.length ≤ 20) : ∀ (d i k : Nat), i + d = min l.length m.length → d < k → Px.value_CompareRows.l0 k l m ((min l.length m.length : Nat) : Int) (i : Int) = some (rowZ cv (l.drop i) (m.drop i)) := by
  intro d
  induction d with
  | zero =>
    intro i k hi hk
    obtain ⟨k, rfl⟩ : ∃ q, k = q + 1 := ⟨k - 1, by omega⟩
    simp only [Px.value_CompareRows.l0]
    rw [if_neg (by omega), order_f, row_end l m i (by omega)]
    rfl
  | succ d ih =>
    intro i k hi hk
    obtain ⟨k, rfl⟩ : ∃ q, k = q + 1 := ⟨k - 1, by omega⟩
    have hw : wrap64 ((i : Int) + 1) = ((i + 1 : Nat) : Int) := by unfold wrap64; omega
    have h1 : i < l.length := by omega
    have h2 : i < m.length := by omega
    simp only [Px.value_CompareRows.l0]
    rw [if_pos (by omega), if_pos (by omega), if_pos (by omega), if_pos (by omega), rd_at l i h1, rd_at m i h2, compare_f, hw, ih (i + 1) k (by omega) (by omega), List.drop_eq_getElem_cons h1, List.drop_eq_getElem_cons h2]
    simp only [Option.bind_some, rowZ]
    have e : cmpZ l[i].f0 l[i].f1 l[i].f2.data.toList m[i].f0 m[i].f1 m[i].f2.data.toList = cv l[i] m[i] := rfl
    rw [e]
    by_cases h : cv l[i] m[i] = 0
    · rw [if_pos h, if_pos h]
    · rw [if_neg h, if_neg h]
theorem rows_f (l m : List Px.S23) (hl : l.length ≤ 20) (k : Nat) (hk : 20 < k) : Px.value_CompareRows.f k l m = some (rowZ cv l m) := by
  unfold Px.value_CompareRows.f
  have e : mn (l.length : Int) (m.length : Int) = ((min l.length m.length : Nat) : Int) := by unfold mn; split <;> omega
  rw [e]
  have := rows_cmp_loop l m hl (min l.length m.length) 0 k (by omega) (by omega)
  exact this
theorem refRows_loop (l m : List Px.S23) (hl : l.length ≤ 20) : ∀ (d i k : Nat), i + d = min l.length m.length → 2 * d + 1 < k → Px.cleanseref02_CompareRows.l0 k l m (i : Int) = some (rowZ cv (l.drop i) (m.drop i)) := by
  intro d
  induction d with
  | zero =>
    intro i k hi hk
    obtain ⟨k, rfl⟩ : ∃ q, k = q + 2 := ⟨k - 2, by omega⟩
    have hj : Px.cleanseref02_CompareRows.j1 (k + 1) l m (i : Int) false = some (rowZ cv (l.drop i) (m.drop i)) := by
      simp only [Px.cleanseref02_CompareRows.j1]
      rw [if_neg (by simp), refSign_f, row_end l m i (by omega)]
      rfl
    simp only [Px.cleanseref02_CompareRows.l0]
    by_cases h : (i : Int) < (l.length : Int)
    · rw [if_pos h, decide_eq_false (by omega)]; exact hj
    · rw [if_neg h]; exact hj
  | succ d ih =>
    intro i k hi hk
    obtain ⟨k, rfl⟩ : ∃ q, k = q + 2 := ⟨k - 2, by omega⟩
    have hw : wrap64 ((i : Int) + 1) = ((i + 1 : Nat) : Int) := by unfold wrap64; omega
    have h1 : i < l.length := by omega
    have h2 : i < m.length := by omega
    simp only [Px.cleanseref02_CompareRows.l0]
    rw [if_pos (by omega), decide_eq_true (by omega)]
    simp only [Px.cleanseref02_CompareRows.j1]
    rw [if_pos trivial, if_pos (by omega), if_pos (by omega), if_pos (by omega), rd_at l i h1, rd_at m i h2, refCompare_f, hw, ih (i + 1) k (by omega) (by omega), List.drop_eq_getElem_cons h1, List.drop_eq_getElem_cons h2]
    simp only [Option.bind_some, rowZ]
    have e : cmpZ l[i].f0 l[i].f1 l[i].f2.data.toList m[i].f0 m[i].f1 m[i].f2.data.toList = cv l[i] m[i] := rfl
    rw [e]
    by_cases h : cv l[i] m[i] = 0
    · rw [if_pos h, if_pos h]
    · rw [if_neg h, if_neg h]
theorem refRows_f (l m : List Px.S23) (hl : l.length ≤ 20) (k : Nat) (hk : 42 < k) : Px.cleanseref02_CompareRows.f k l m = some (rowZ cv l m) := by
  have := refRows_loop l m hl (min l.length m.length) 0 k (by omega) (by omega)
  exact this
def eqsL : List Px.S23 → List Px.S23 → Bool
  | a :: l, b :: m => (a.f0 == b.f0 && (a.f1 == b.f1 && (a.f2.data.toList == b.f2.data.toList))) && eqsL l m
  | _, _ => true
theorem eqsL_iff : ∀ l m : List Px.S23, (((l.length : Int) == (m.length : Int)) && eqsL l m) = true ↔ l = m
  | [], [] => by simp [eqsL]
  | [], b :: m => by simp [eqsL]; omega
  | a :: l, [] => by simp [eqsL]; omega
  | a :: l, b :: m => by
    have ih := eqsL_iff l m
    have e : (a.f0 == b.f0 && (a.f1 == b.f1 && (a.f2.data.toList == b.f2.data.toList))) = true ↔ a = b := by
      constructor
      · intro h
        simp only [Bool.and_eq_true, beq_iff_eq] at h
        exact tri_inj a b (by unfold tri; rw [h.1, h.2.1, h.2.2])
      · rintro rfl; simp
    simp only [eqsL, List.length_cons]
    rw [Bool.and_eq_true] at ih ⊢
    rw [Bool.and_eq_true, e]
    constructor
    · rintro ⟨h1, h2, h3⟩
      rw [h2, ih.1 ⟨by simp at h1 ⊢; omega, h3⟩]
    · intro h
      injection h with h1 h2
      subst h1 h2
      exact ⟨by simp, rfl, (ih.2 rfl).2⟩
end Go.Proofs.YthgppbpmcjkadaaGreatDoor.X
