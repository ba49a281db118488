/- The order of texts: total. -/
import Derived.Test.YthgppbpmcjkadaaGreatDoorProg
import Derived.Laws.Strings
set_option linter.unusedVariables false
set_option linter.unusedSimpArgs false
namespace Go.Proofs.YthgppbpmcjkadaaGreatDoor.X
theorem byte_tri (a b : UInt8) : a < b ∨ a = b ∨ b < a := by
  rw [UInt8.lt_iff_toNat_lt, UInt8.lt_iff_toNat_lt, ← UInt8.toNat_inj]; omega
theorem byte_irr (a : UInt8) : ¬ a < a := by rw [UInt8.lt_iff_toNat_lt]; omega
theorem byte_asym {a b : UInt8} (h : a < b) : ¬ b < a := by rw [UInt8.lt_iff_toNat_lt] at *; omega
theorem less_cons (a b : UInt8) (l m : List UInt8) : Op.bytesLess (a :: l) (b :: m) = true ↔ a < b ∨ (a = b ∧ Op.bytesLess l m = true) := by
  simp [Op.bytesLess]
theorem less_irr : ∀ l : List UInt8, Op.bytesLess l l = false
  | [] => rfl
  | a :: l => by
    have := less_irr l
    simp [Op.bytesLess, this]
theorem less_asym : ∀ {l m : List UInt8}, Op.bytesLess l m = true → Op.bytesLess m l = false
  | [], [], h => by simp [Op.bytesLess] at h
  | [], b :: m, h => rfl
  | a :: l, [], h => by simp [Op.bytesLess] at h
  | a :: l, b :: m, h => by
    rw [less_cons] at h
    cases hx : Op.bytesLess (b :: m) (a :: l) with
    | false => rfl
    | true =>
      rw [less_cons] at hx
      rcases h with h | ⟨rfl, h⟩
      · rcases hx with hx | ⟨rfl, hx⟩
        · exact absurd hx (byte_asym h)
        · exact absurd h (byte_irr _)
      · rcases hx with hx | ⟨_, hx⟩
        · exact absurd hx (byte_irr _)
        · rw [less_asym h] at hx; cases hx
theorem less_tri : ∀ {l m : List UInt8}, Op.bytesLess l m = false → Op.bytesLess m l = false → l = m
  | [], [], _, _ => rfl
  | [], b :: m, h, _ => by simp [Op.bytesLess] at h
  | a :: l, [], _, h => by simp [Op.bytesLess] at h
  | a :: l, b :: m, h1, h2 => by
    have h1' : ¬ (a < b ∨ (a = b ∧ Op.bytesLess l m = true)) := fun h => by rw [(less_cons a b l m).2 h] at h1; cases h1
    have h2' : ¬ (b < a ∨ (b = a ∧ Op.bytesLess m l = true)) := fun h => by rw [(less_cons b a m l).2 h] at h2; cases h2
    rcases byte_tri a b with h | rfl | h
    · exact absurd (.inl h) h1'
    · rw [less_tri (l := l) (m := m) (by cases hx : Op.bytesLess l m with | false => rfl | true => exact absurd (.inr ⟨rfl, hx⟩) h1') (by cases hx : Op.bytesLess m l with | false => rfl | true => exact absurd (.inr ⟨rfl, hx⟩) h2')]
    · exact absurd (.inl h) h2'
/-- What lies between splits. -/
theorem less_split : ∀ {l m r : List UInt8}, Op.bytesLess l r = true → Op.bytesLess l m = true ∨ Op.bytesLess m r = true
  | _, _, [], h => by simp [Op.bytesLess] at h
  | [], [], c :: r, h => .inr rfl
  | [], b :: m, c :: r, h => .inl rfl
  | a :: l, [], c :: r, h => .inr rfl
  | a :: l, b :: m, c :: r, h => by
    rw [less_cons] at h
    rw [less_cons, less_cons]
    rcases h with h | ⟨rfl, h⟩
    · rcases byte_tri a b with h2 | rfl | h2
      · exact .inl (.inl h2)
      · exact .inr (.inl h)
      · exact .inr (.inl (by rw [UInt8.lt_iff_toNat_lt] at *; omega))
    · rcases byte_tri a b with h2 | rfl | h2
      · exact .inl (.inl h2)
      · rcases less_split (m := m) h with h3 | h3
        · exact .inl (.inr ⟨rfl, h3⟩)
        · exact .inr (.inr ⟨rfl, h3⟩)
      · exact .inr (.inl h2)
theorem less_ne {l m : List UInt8} (h : Op.bytesLess l m = true) : (m == l) = false := beq_eq_false_iff_ne.2 fun e => by subst e; rw [less_irr] at h; cases h
theorem less_ne2 {l m : List UInt8} (h : Op.bytesLess l m = true) : (l == m) = false := beq_eq_false_iff_ne.2 fun e => by subst e; rw [less_irr] at h; cases h
theorem less_eq {l m : List UInt8} (h : Op.bytesLess l m = false) (h2 : Op.bytesLess m l = false) : (l == m) = true := by rw [less_tri h h2]; exact beq_self_eq_true _
end Go.Proofs.YthgppbpmcjkadaaGreatDoor.X
