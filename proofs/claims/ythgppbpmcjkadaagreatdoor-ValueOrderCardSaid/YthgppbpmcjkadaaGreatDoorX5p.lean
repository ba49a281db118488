/- What value.Text's replacer writes: each special byte as two; plain laws. -/
import Derived.Test.YthgppbpmcjkadaaGreatDoorX4
import Derived.Lib.Bytealg
import Derived.Laws.IdiomCopy
import Derived.Laws.CopyRow
import Derived.Deep.Cut
import Derived.Deep.CutRange
set_option linter.unusedVariables false
set_option linter.unusedSimpArgs false
namespace Go.Proofs.YthgppbpmcjkadaaGreatDoor.X
open Go.RowKit Go.Proofs.YthgppbpmcjkadaaGreatDoorW.PrintWords Go.Proofs.YthgppbpmcjkadaaGreatDoorW.PrintLast Go.Proofs.YthgppbpmcjkadaaGreatDoorW.PrintMore
/-- A byte as value.Text writes it. -/
def escB (b : UInt8) : List UInt8 := match rep 3 b.toNat with
  | some r => r.data.toList
  | none => [b]
def quoteB (l : List UInt8) : List UInt8 := l.flatMap escB
/-- How many bytes more. -/
def more : List UInt8 → Nat
  | [] => 0
  | b :: l => (if (rep 3 b.toNat).isSome then 1 else 0) + more l
def cntTo (l : List UInt8) : Nat → Nat
  | 0 => 0
  | k + 1 => cntTo l k + Lib.countByte l (oldB k)
theorem esc_all : ∀ n, n < 256 → (n = 10 ∧ rep 3 n = some ⟨#[92, 110]⟩) ∨ (n = 92 ∧ rep 3 n = some ⟨#[92, 92]⟩) ∨ (n = 34 ∧ rep 3 n = some ⟨#[92, 34]⟩) ∨ (n ≠ 10 ∧ n ≠ 92 ∧ n ≠ 34 ∧ rep 3 n = none) := by
  intro n _
  unfold rep
  by_cases h1 : n = 10
  · subst h1; simp
  · by_cases h2 : n = 92
    · subst h2; simp
    · by_cases h3 : n = 34
      · subst h3; simp
      · simp [h1, h2, h3]
theorem esc_size (b : UInt8) : (escB b).length = 1 + (if (rep 3 b.toNat).isSome then 1 else 0) := by
  unfold escB
  rcases esc_all b.toNat b.toNat_lt with ⟨_, h⟩ | ⟨_, h⟩ | ⟨_, h⟩ | ⟨_, _, _, h⟩ <;> rw [h] <;> rfl
theorem quote_size : ∀ l, (quoteB l).length = l.length + more l
  | [] => rfl
  | b :: l => by
    have ih := quote_size l
    unfold quoteB at ih ⊢
    rw [List.flatMap_cons, List.length_append, esc_size, ih]
    simp only [more, List.length_cons]
    omega
theorem more_le : ∀ l : List UInt8, more l ≤ l.length
  | [] => Nat.le_refl _
  | b :: l => by
    have ih := more_le l
    simp only [more, List.length_cons]
    split <;> omega
theorem quote_none : ∀ l, more l = 0 → quoteB l = l
  | [], _ => rfl
  | b :: l, h => by
    simp only [more] at h
    have h1 : more l = 0 := by omega
    have h2 : (rep 3 b.toNat).isSome = false := by
      cases hx : (rep 3 b.toNat).isSome
      · rfl
      · rw [hx] at h; simp at h
    have ih := quote_none l h1
    unfold quoteB at ih ⊢
    rw [List.flatMap_cons, ih]
    have : rep 3 b.toNat = none := by simpa using h2
    unfold escB; rw [this]; rfl
theorem cnt_more (l : List UInt8) : cntTo l 3 = more l := by
  induction l with
  | nil => rfl
  | cons b l ih =>
    have o0 : oldB 0 = 10 := rfl
    have o1 : oldB 1 = 92 := rfl
    have o2 : oldB 2 = 34 := rfl
    simp only [cntTo, more, Lib.countByte, List.count_cons, o0, o1, o2] at ih ⊢
    have e : ∀ c : UInt8, (b == c) = (b.toNat == c.toNat) := fun c => by
      rw [Bool.eq_iff_iff]; simp [← UInt8.toNat_inj]
    rw [e, e, e]
    rcases esc_all b.toNat b.toNat_lt with ⟨h1, h⟩ | ⟨h1, h⟩ | ⟨h1, h⟩ | ⟨h1, h2, h3, h⟩
    · rw [h, h1]; simp; omega
    · rw [h, h1]; simp; omega
    · rw [h, h1]; simp; omega
    · rw [h]; simp [h1, h2, h3]; omega
theorem cnt_le (l : List UInt8) : ∀ k, cntTo l k ≤ k * l.length
  | 0 => Nat.zero_le _
  | k + 1 => by
    have := cnt_le l k
    have h := List.count_le_length (a := oldB k) (l := l)
    simp only [cntTo, Lib.countByte]
    rw [Nat.add_mul]; omega
theorem more_take (l : List UInt8) (n : Nat) (h : n < l.length) : more (l.take (n + 1)) = more (l.take n) + (if (rep 3 (l[n]).toNat).isSome then 1 else 0) := by
  induction l generalizing n with
  | nil => simp at h
  | cons b l ih =>
    cases n with
    | zero => simp [more]
    | succ n =>
      have := ih n (by simpa using h)
      simp only [List.take_succ_cons, more, List.getElem_cons_succ] at this ⊢
      omega
theorem quote_take (l : List UInt8) (n : Nat) (h : n < l.length) : quoteB (l.take (n + 1)) = quoteB (l.take n) ++ escB l[n] := by
  unfold quoteB
  rw [← List.take_append_getElem h, List.flatMap_append]
  simp
/-- What the table says of a byte. -/
theorem St.at {w : World} {N k : Nat} (h : St w N k) (b : Nat) (hb : b < 256) : ∃ v, w.cell? ⟨N + 1, b, none⟩ = some v ∧ Slot w N v (rep k b) := by
  obtain ⟨cs, h1, h2, h3, _, h4⟩ := h
  obtain ⟨v, hv, hs⟩ := h4 b hb
  exact ⟨v, by simp [World.cell?, h1, hv], hs⟩
theorem St.last {w : World} {N k : Nat} (h : St w N k) : w.cell? ⟨N + 1, 256, none⟩ = some (.slice (some ⟨N, 0, none⟩) k 3) := by
  obtain ⟨cs, h1, h2, h3, _, h4⟩ := h
  simp [World.cell?, h1, h3]
theorem St.byte {w : World} {N k : Nat} (h : St w N k) (j : Nat) (hj : j < k) : w.cell? ⟨N, j, none⟩ = some (.string ⟨#[oldB j]⟩) := by
  obtain ⟨cs, h1, h2, h3, ⟨cur, c1, c2, c3⟩, h4⟩ := h
  simp [World.cell?, c1, c3 j hj]
theorem St.drewN {w : World} {N k : Nat} (h : St w N k) (m : Nat) : St (w.drewN m) N k := h
theorem rep_old {j : Nat} (hj : j < 3) : rep 3 (oldB j).toNat = some (newB j) := by
  rcases j with _ | _ | _ | j
  · rfl
  · rfl
  · rfl
  · omega
theorem new_size (j : Nat) : (newB j).size = 2 := by
  rcases j with _ | _ | j <;> rfl
def encs (l : List UInt8) : List Value := l.map (fun b => Value.int .u8 (b.toNat : Int))
theorem more_mono (l : List UInt8) (n : Nat) : more (l.take n) ≤ more l := by
  induction l generalizing n with
  | nil => simp [more]
  | cons b l ih =>
    cases n with
    | zero => simp [more]
    | succ n =>
      have := ih n
      simp only [List.take_succ_cons, more]
      omega
theorem St.below {w w' : World} {N k P : Nat} (h : St w N k) (hb : Below P w w') (hP : w.heap.size ≤ P) : St w' N k :=
  h.keep fun b _ hlt => hb.block b (by omega)
theorem put1 {cur : Array Value} {E : List Value} (hct : ∀ t, t < E.length → cur[t]? = E[t]?) (h : E.length < cur.size) (v : Value) :
    ∀ t, t < (E ++ [v]).length → (cur.setIfInBounds E.length v)[t]? = (E ++ [v])[t]? := by
  intro t ht
  rw [List.length_append] at ht
  have ht : t < E.length + 1 := ht
  rw [Array.getElem?_setIfInBounds]
  by_cases e : E.length = t
  · subst e
    rw [if_pos rfl, if_pos h, List.getElem?_append_right (Nat.le_refl _), Nat.sub_self]; rfl
  · rw [if_neg e, List.getElem?_append_left (by omega)]
    exact hct t (by omega)
theorem bytes_two {r : ByteArray} (h : r.size = 2) : r.data.toList = [r[0]'(by omega), r[1]'(by omega)] := by
  obtain ⟨⟨l⟩⟩ := r
  match l, h with
  | [a, b], _ => rfl
theorem add_at (b o j : Nat) : (⟨b, o, none⟩ : Addr).add j = ⟨b, o + j, none⟩ := by
  unfold Addr.add
  split <;> simp_all
end Go.Proofs.YthgppbpmcjkadaaGreatDoor.X
