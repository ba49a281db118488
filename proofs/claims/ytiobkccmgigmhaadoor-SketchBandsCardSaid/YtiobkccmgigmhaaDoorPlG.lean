/- Decimal spellings tell numbers apart; so do the keys of bands. -/
import Derived.Test.YtiobkccmgigmhaaDoorPlE
set_option linter.unusedVariables false
set_option linter.unusedSimpArgs false
namespace Go.Proofs.YtiobkccmgigmhaaDoor.Pl
open Go.RowKit
def val (l : List UInt8) : Nat := l.foldl (fun a c => a * 10 + (c.toNat - 48)) 0
theorem val_snoc (l : List UInt8) (c : UInt8) : val (l ++ [c]) = val l * 10 + (c.toNat - 48) := by simp [val]
theorem dig_toNat {d : Nat} (h : d < 10) : (UInt8.ofNat (48 + d)).toNat = 48 + d := by
  rw [UInt8.toNat_ofNat']; omega
theorem val_dec (u : Nat) : val (Lib.decDigits u) = u := by
  induction u using Nat.strongRecOn with
  | _ u ih =>
    rw [Lib.decDigits]
    split
    · rename_i h
      have : ([UInt8.ofNat (48 + u)] : List UInt8) = [] ++ [UInt8.ofNat (48 + u)] := rfl
      rw [this, val_snoc, dig_toNat h]; simp [val]
    · rename_i h
      rw [val_snoc, ih (u / 10) (by omega), dig_toNat (by omega)]; omega
theorem dec_digits (u : Nat) : ∀ c ∈ Lib.decDigits u, 48 ≤ c.toNat ∧ c.toNat ≤ 57 := by
  induction u using Nat.strongRecOn with
  | _ u ih =>
    rw [Lib.decDigits]
    split
    · rename_i h
      intro c hc
      simp only [List.mem_singleton] at hc
      subst hc
      rw [dig_toNat h]; omega
    · rename_i h
      intro c hc
      rcases List.mem_append.1 hc with hc | hc
      · exact ih (u / 10) (by omega) c hc
      · simp only [List.mem_singleton] at hc
        subst hc
        rw [dig_toNat (by omega)]; omega
theorem dec_inj {u v : Nat} (h : Lib.decDigits u = Lib.decDigits v) : u = v := by rw [← val_dec u, h, val_dec]
theorem dec_head (u : Nat) (r : List UInt8) : Lib.decDigits u ≠ 45 :: r := by
  intro h
  have := dec_digits u 45 (by rw [h]; exact List.mem_cons_self)
  simp at this
theorem itoa_inj {x y : Int} (h : Lib.itoa x = Lib.itoa y) : x = y := by
  unfold Lib.itoa at h
  by_cases hx : x < 0
  · by_cases hy : y < 0
    · rw [if_pos hx, if_pos hy] at h
      have := dec_inj (List.cons.inj h).2
      omega
    · rw [if_pos hx, if_neg hy] at h
      exact absurd h.symm (dec_head _ _)
  · by_cases hy : y < 0
    · rw [if_neg hx, if_pos hy] at h
      exact absurd h (dec_head _ _)
    · rw [if_neg hx, if_neg hy] at h
      have := dec_inj h
      omega
theorem itoa_chars (x : Int) : ∀ c ∈ Lib.itoa x, c ≠ 46 ∧ c ≠ 58 := by
  have hd : ∀ (u : Nat), ∀ c ∈ Lib.decDigits u, c ≠ 46 ∧ c ≠ 58 := by
    intro u c hc
    have := dec_digits u c hc
    constructor
    · rintro rfl; simp at this
    · rintro rfl; simp at this
  unfold Lib.itoa
  split
  · intro c hc
    rcases List.mem_cons.1 hc with rfl | hc
    · decide
    · exact hd _ c hc
  · exact hd _
theorem cut_inj {s : UInt8} : ∀ (p q r r' : List UInt8), (∀ c ∈ p, c ≠ s) → (∀ c ∈ q, c ≠ s) → p ++ s :: r = q ++ s :: r' → p = q ∧ r = r'
  | [], [], r, r', _, _, h => ⟨rfl, (List.cons.inj h).2⟩
  | [], c :: q, r, r', _, hq, h => absurd (List.cons.inj h).1.symm (hq c List.mem_cons_self)
  | c :: p, [], r, r', hp, _, h => absurd (List.cons.inj h).1 (hp c List.mem_cons_self)
  | c :: p, d :: q, r, r', hp, hq, h => by
    obtain ⟨h1, h2⟩ := List.cons.inj h
    obtain ⟨h3, h4⟩ := cut_inj p q r r' (fun c hc => hp c (List.mem_cons_of_mem _ hc)) (fun c hc => hq c (List.mem_cons_of_mem _ hc)) h2
    exact ⟨by rw [h1, h3], h4⟩
theorem tail_inj : ∀ (l l' : List Int) (x y : Int), l.length = l'.length → Lib.itoa x ++ (l.map fun y => 46 :: Lib.itoa y).flatten = Lib.itoa y ++ (l'.map fun y => 46 :: Lib.itoa y).flatten → x = y ∧ l = l'
  | [], [], x, y, _, h => ⟨itoa_inj (by simpa using h), rfl⟩
  | a :: l, b :: l', x, y, hl, h => by
    simp only [List.map_cons, List.flatten_cons, List.cons_append] at h
    obtain ⟨h1, h2⟩ := cut_inj _ _ _ _ (fun c hc => (itoa_chars x c hc).1) (fun c hc => (itoa_chars y c hc).1) h
    obtain ⟨h3, h4⟩ := tail_inj l l' a b (by simpa using hl) h2
    exact ⟨itoa_inj h1, by rw [h3, h4]⟩
theorem dots_inj {l l' : List Int} (hl : l.length = l'.length) (h : dots l = dots l') : l = l' := by
  cases l with
  | nil => cases l' with
    | nil => rfl
    | cons _ _ => simp at hl
  | cons x r => cases l' with
    | nil => simp at hl
    | cons y r' =>
      obtain ⟨h1, h2⟩ := tail_inj r r' x y (by simpa using hl) h
      rw [h1, h2]
theorem key_inj {b c : Nat} {l l' : List Int} (hl : l.length = l'.length) : key b l = key c l' ↔ b = c ∧ l = l' := by
  constructor
  · intro h
    have h1 : Lib.itoa b ++ 58 :: dots l = Lib.itoa c ++ 58 :: dots l' := by
      have := congrArg (fun x => x.data.toList) h
      simpa [key] using this
    obtain ⟨h2, h3⟩ := cut_inj _ _ _ _ (fun x hx => (itoa_chars _ x hx).2) (fun x hx => (itoa_chars _ x hx).2) h1
    exact ⟨by have := itoa_inj h2; omega, dots_inj hl h3⟩
  · rintro ⟨rfl, rfl⟩; rfl
theorem bandsZ_length (a : List Int) (m : Nat) : (bandsZ a m).length = a.length / m := by simp [bandsZ]
theorem bandsZ_at (a : List Int) (m i : Nat) (h : i < (bandsZ a m).length) : (bandsZ a m)[i] = key i (rowOf a m i) := by simp [bandsZ]
theorem cut_row (a : List Int) (m i : Nat) : (a.take ((i + 1) * m)).drop (i * m) = rowOf a m i := by
  rw [List.drop_take, rowOf, Nat.add_mul]; congr 1; omega
theorem succ_mul' (i m : Nat) : (i + 1) * m = i * m + m := by rw [Nat.add_mul, Nat.one_mul]
theorem prods {i m n : Nat} (h : i * m + m ≤ n) (h64 : n ≤ 64) : wrap64 ((i : Int) * (m : Int)) = ((i * m : Nat) : Int) ∧ wrap64 (((i : Int) + 1) * (m : Int)) = (((i + 1) * m : Nat) : Int) := by
  have hb2 := succ_mul' i m
  constructor
  · rw [← Int.natCast_mul]
    generalize i * m = u at *
    exact wrap_nat u (by omega)
  · rw [show ((i : Int) + 1) = ((i + 1 : Nat) : Int) from rfl, ← Int.natCast_mul, hb2]
    generalize i * m = u at *
    exact wrap_nat (u + m) (by omega)
end Go.Proofs.YtiobkccmgigmhaaDoor.Pl
