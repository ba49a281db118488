/- Orders with three answers: of numbers, of texts, of values, of rows. -/
import Derived.Test.YthgppbpmcjkadaaGreatDoorX9
import Derived.Test.YthgppbpmcjkadaaGreatDoorX12
import Derived.Test.YthgppbpmcjkadaaGreatDoorPlA
import Derived.Test.YthgppbpmcjkadaaGreatDoorPx2 -- F cleanselaw02_short
set_option linter.unusedVariables false
set_option linter.unusedSimpArgs false
namespace Go.Proofs.YthgppbpmcjkadaaGreatDoor.X
open Go.RowKit Go.Proofs.YthgppbpmcjkadaaGreatDoorW.PrintWords Go.Proofs.YthgppbpmcjkadaaGreatDoorW.PrintMore
structure Ord3 {α : Type} (f : α → α → Int) : Prop where
  lo : ∀ x y, -1 ≤ f x y
  hi : ∀ x y, f x y ≤ 1
  zero : ∀ x y, f x y = 0 ↔ x = y
  anti : ∀ x y, f y x = - f x y
  trans : ∀ x y z, f x y ≤ 0 → f y z ≤ 0 → f x z ≤ 0
theorem ord_int : Ord3 ordI := by
  refine ⟨fun x y => ?_, fun x y => ?_, fun x y => ?_, fun x y => ?_, fun x y z h1 h2 => ?_⟩ <;> unfold ordI at * <;> (repeat' split at *) <;> omega
theorem ord_text : Ord3 ordT := by
  have hz : ∀ x y, ordT x y = 0 ↔ x = y := fun x y => by
    unfold ordT
    constructor
    · intro h
      split at h
      · omega
      · rename_i h1
        split at h
        · omega
        · rename_i h2
          exact less_tri (by simpa using h1) (by simpa using h2)
    · rintro rfl
      rw [less_irr]; rfl
  have ha : ∀ x y, ordT y x = - ordT x y := fun x y => by
    unfold ordT
    cases h1 : Op.bytesLess x y with
    | true => rw [less_asym h1]; simp
    | false =>
      cases h2 : Op.bytesLess y x with
      | true => simp
      | false => simp
  refine ⟨fun x y => ?_, fun x y => ?_, hz, ha, fun x y z h1 h2 => ?_⟩
  · unfold ordT; split
    · omega
    · split <;> omega
  · unfold ordT; split
    · omega
    · split <;> omega
  · have n1 : Op.bytesLess y x = false := by
      cases h : Op.bytesLess y x with
      | false => rfl
      | true =>
        have : ordT y x = -1 := by unfold ordT; rw [if_pos h]
        rw [ha] at this; omega
    have n2 : Op.bytesLess z y = false := by
      cases h : Op.bytesLess z y with
      | false => rfl
      | true =>
        have : ordT z y = -1 := by unfold ordT; rw [if_pos h]
        rw [ha] at this; omega
    have n3 : Op.bytesLess z x = false := by
      cases h : Op.bytesLess z x with
      | false => rfl
      | true =>
        rcases less_split (m := y) h with h | h
        · rw [n2] at h; cases h
        · rw [n1] at h; cases h
    unfold ordT
    split
    · omega
    · rw [n3]; simp
def lex {α β : Type} (f : α → α → Int) (g : β → β → Int) (x y : α × β) : Int := if f x.1 y.1 = 0 then g x.2 y.2 else f x.1 y.1
theorem ord_lex {α β : Type} {f : α → α → Int} {g : β → β → Int} (F : Ord3 f) (G : Ord3 g) : Ord3 (lex f g) := by
  refine ⟨fun x y => ?_, fun x y => ?_, fun x y => ?_, fun x y => ?_, fun x y z h1 h2 => ?_⟩
  · unfold lex; split
    · exact G.lo _ _
    · exact F.lo _ _
  · unfold lex; split
    · exact G.hi _ _
    · exact F.hi _ _
  · unfold lex
    obtain ⟨a, b⟩ := x
    obtain ⟨c, d⟩ := y
    by_cases h : f a c = 0
    · rw [if_pos h, G.zero]
      have := (F.zero a c).1 h
      subst this
      simp
    · rw [if_neg h]
      constructor
      · intro h2; exact absurd h2 h
      · intro h2
        cases h2
        exact absurd ((F.zero a a).2 rfl) h
  · unfold lex
    have e := F.anti x.1 y.1
    by_cases h : f x.1 y.1 = 0
    · rw [if_pos h, if_pos (by omega), G.anti]
    · rw [if_neg h, if_neg (by omega), e]
  · unfold lex at *
    obtain ⟨a, b⟩ := x
    obtain ⟨c, d⟩ := y
    obtain ⟨p, q⟩ := z
    simp only at *
    by_cases e1 : f a c = 0
    · rw [if_pos e1] at h1
      have := (F.zero a c).1 e1
      subst this
      by_cases e2 : f a p = 0
      · rw [if_pos e2] at h2 ⊢
        exact G.trans _ _ _ h1 h2
      · rw [if_neg e2] at h2 ⊢
        exact h2
    · rw [if_neg e1] at h1
      by_cases e2 : f c p = 0
      · have := (F.zero c p).1 e2
        subst this
        rw [if_neg e1]; exact h1
      · rw [if_neg e2] at h2
        have h3 := F.trans _ _ _ h1 h2
        rw [if_neg]
        · exact h3
        · intro e3
          have := (F.zero a p).1 e3
          subst this
          have := F.anti a c
          omega
def cmpV (x y : Int × Int × List UInt8) : Int := lex ordI (lex ordI ordT) x y
theorem ord_val : Ord3 cmpV := ord_lex ord_int (ord_lex ord_int ord_text)
theorem cmp_v (k n : Int) (t : List UInt8) (k' n' : Int) (t' : List UInt8) : cmpZ k n t k' n' t' = cmpV (k, n, t) (k', n', t') := rfl
def rowZ {α : Type} (f : α → α → Int) : List α → List α → Int
  | [], [] => 0
  | [], _ :: _ => -1
  | _ :: _, [] => 1
  | a :: l, b :: m => if f a b = 0 then rowZ f l m else f a b
theorem ord_row {α : Type} {f : α → α → Int} (F : Ord3 f) : Ord3 (rowZ f) := by
  refine ⟨fun x => ?_, fun x => ?_, fun x => ?_, fun x => ?_, fun x => ?_⟩
  · induction x with
    | nil => intro y; cases y <;> simp [rowZ]
    | cons a l ih => intro y; cases y with
      | nil => simp [rowZ]
      | cons b m => simp only [rowZ]; split
                    · exact ih m
                    · exact F.lo _ _
  · induction x with
    | nil => intro y; cases y <;> simp [rowZ]
    | cons a l ih => intro y; cases y with
      | nil => simp [rowZ]
      | cons b m => simp only [rowZ]; split
                    · exact ih m
                    · exact F.hi _ _
  · induction x with
    | nil => intro y; cases y <;> simp [rowZ]
    | cons a l ih => intro y; cases y with
      | nil => simp [rowZ]
      | cons b m =>
        simp only [rowZ]
        by_cases h : f a b = 0
        · rw [if_pos h, ih m]
          have := (F.zero a b).1 h
          subst this
          simp
        · rw [if_neg h]
          constructor
          · intro h2; exact absurd h2 h
          · intro h2; cases h2; exact absurd ((F.zero a a).2 rfl) h
  · induction x with
    | nil => intro y; cases y <;> simp [rowZ]
    | cons a l ih => intro y; cases y with
      | nil => simp [rowZ]
      | cons b m =>
        simp only [rowZ]
        have e := F.anti a b
        by_cases h : f a b = 0
        · rw [if_pos h, if_pos (by omega), ih m]
        · rw [if_neg h, if_neg (by omega), e]
  · induction x with
    | nil => intro y z h1 h2; cases z <;> simp [rowZ]
    | cons a l ih => intro y z h1 h2; cases y with
      | nil => simp [rowZ] at h1
      | cons b m =>
        cases z with
        | nil => simp [rowZ] at h2
        | cons c r =>
          simp only [rowZ] at h1 h2 ⊢
          by_cases e1 : f a b = 0
          · rw [if_pos e1] at h1
            have := (F.zero a b).1 e1
            subst this
            by_cases e2 : f a c = 0
            · rw [if_pos e2] at h2 ⊢
              exact ih m r h1 h2
            · rw [if_neg e2] at h2 ⊢
              exact h2
          · rw [if_neg e1] at h1
            by_cases e2 : f b c = 0
            · have := (F.zero b c).1 e2
              subst this
              rw [if_neg e1]; exact h1
            · rw [if_neg e2] at h2
              have h3 := F.trans _ _ _ h1 h2
              rw [if_neg]
              · exact h3
              · intro e3
                have := (F.zero a c).1 e3
                subst this
                have := F.anti a b
                omega
/-- Whether all texts have at most 500 bytes. -/
def shortB (l : List Px.S23) : Bool := l.all fun s => decide (s.f2.size ≤ 500)
theorem short_loop (l : List Px.S23) (hl : l.length ≤ 9223372036854775807) : ∀ (d i k : Nat), i + d = l.length → d < k → Px.cleanselaw02_short.l0 k l (i : Int) = some (shortB (l.drop i)) := by
  intro d
  induction d with
  | zero =>
    intro i k hi hk
    obtain ⟨k, rfl⟩ : ∃ m, k = m + 1 := ⟨k - 1, by omega⟩
    simp only [Px.cleanselaw02_short.l0]
    rw [if_neg (by omega), List.drop_eq_nil_of_le (by omega)]
    rfl
  | succ d ih =>
    intro i k hi hk
    obtain ⟨k, rfl⟩ : ∃ m, k = m + 1 := ⟨k - 1, by omega⟩
    have hw : wrap64 ((i : Int) + 1) = ((i + 1 : Nat) : Int) := by unfold wrap64; omega
    have hlt : i < l.length := by omega
    have hr : Px.rd_T23 l (i : Int) = l[i] := by
      unfold Px.rd_T23
      rw [Int.toNat_natCast, List.getD_eq_getElem?_getD, List.getElem?_eq_getElem hlt]; rfl
    simp only [Px.cleanselaw02_short.l0]
    rw [if_pos (by omega), if_pos (by omega), hr, hw, ih (i + 1) k (by omega) (by omega), List.drop_eq_getElem_cons hlt]
    unfold shortB
    rw [List.all_cons]
    by_cases h : l[i].f2.size ≤ 500
    · rw [if_neg (by omega), decide_eq_true h]; simp
    · rw [if_pos (by omega), decide_eq_false h]; simp
theorem short_f (l : List Px.S23) (hl : l.length ≤ 9223372036854775807) (k : Nat) (hk : l.length < k) : Px.cleanselaw02_short.f k l = some (shortB l) := by
  have := short_loop l hl l.length 0 k (by omega) hk
  rw [List.drop_zero] at this
  exact this
theorem list_eq (a b : ByteArray) : a.data.toList = b.data.toList ↔ a = b := ⟨fun h => by rw [← bs_of a, h, bs_of], fun h => by rw [h]⟩
end Go.Proofs.YthgppbpmcjkadaaGreatDoor.X
