/- What value.Text's replacer writes: each special byte as two; plain laws. Values' texts, plainly: which values are valid, how they are written, how a text is read. Texts and their bytes. -/
import Derived.Test.YthgppbpmcjkadaaGreatDoorX4
import Derived.Lib.Bytealg
import Derived.Laws.IdiomCopy
import Derived.Laws.CopyRow
import Derived.Deep.Cut
import Derived.Deep.CutRange
import Derived.Lib.ItoaNum
import Derived.Lib.ItoaLen
import Derived.Lib.AtoiAll
import Derived.Laws.Strings
import Derived.Test.YthgppbpmcjkadaaGreatDoorWWords
set_option linter.unusedVariables false
set_option linter.unusedSimpArgs false
namespace Go.Proofs.YthgppbpmcjkadaaGreatDoor.X
open Go.RowKit Go.Proofs.YthgppbpmcjkadaaGreatDoorW.PrintWords Go.Proofs.YthgppbpmcjkadaaGreatDoorW.PrintLast Go.Proofs.YthgppbpmcjkadaaGreatDoorW.PrintMore
/-- A byte as value.Text writes it. -/
def escB (b : UInt8) : List UInt8 := match rep 3 b.toNat with
  | some r => r.data.toList
  | none => [b]
def quoteB (l : List UInt8) : List UInt8 := l.flatMap escB
/-- How many bytes more. -/
def more : List UInt8 → Nat
  | [] => 0
  | b :: l => (if (rep 3 b.toNat).isSome then 1 else 0) + more l
def cntTo (l : List UInt8) : Nat → Nat
  | 0 => 0
  | k + 1 => cntTo l k + Lib.countByte l (oldB k)
theorem esc_all : ∀ n, n < 256 → (n = 10 ∧ rep 3 n = some ⟨#[92, 110]⟩) ∨ (n = 92 ∧ rep 3 n = some ⟨#[92, 92]⟩) ∨ (n = 34 ∧ rep 3 n = some ⟨#[92, 34]⟩) ∨ (n ≠ 10 ∧ n ≠ 92 ∧ n ≠ 34 ∧ rep 3 n = none) := by
  intro n _
  unfold rep
  by_cases h1 : n = 10
  · subst h1; simp
  · by_cases h2 : n = 92
    · subst h2; simp
    · by_cases h3 : n = 34
      · subst h3; simp
      · simp [h1, h2, h3]
theorem esc_size (b : UInt8) : (escB b).length = 1 + (if (rep 3 b.toNat).isSome then 1 else 0) := by
  unfold escB
  rcases esc_all b.toNat b.toNat_lt with ⟨_, h⟩ | ⟨_, h⟩ | ⟨_, h⟩ | ⟨_, _, _, h⟩ <;> rw [h] <;> rfl
theorem quote_size : ∀ l, (quoteB l).length = l.length + more l
  | [] => rfl
  | b :: l => by
    have ih := quote_size l
    unfold quoteB at ih ⊢
    rw [List.flatMap_cons, List.length_append, esc_size, ih]
    simp only [more, List.length_cons]
    omega
theorem more_le : ∀ l : List UInt8, more l ≤ l.length
  | [] => Nat.le_refl _
  | b :: l => by
    have ih := more_le l
    simp only [more, List.length_cons]
    split <;> omega
theorem quote_none : ∀ l, more l = 0 → quoteB l = l
  | [], _ => rfl
  | b :: l, h => by
    simp only [more] at h
    have h1 : more l = 0 := by omega
    have h2 : (rep 3 b.toNat).isSome = false := by
      cases hx : (rep 3 b.toNat).isSome
      · rfl
      · rw [hx] at h; simp at h
    have ih := quote_none l h1
    unfold quoteB at ih ⊢
    rw [List.flatMap_cons, ih]
    have : rep 3 b.toNat = none := by simpa using h2
    unfold escB; rw [this]; rfl
theorem cnt_more (l : List UInt8) : cntTo l 3 = more l := by
  induction l with
  | nil => rfl
  | cons b l ih =>
    have o0 : oldB 0 = 10 := rfl
    have o1 : oldB 1 = 92 := rfl
    have o2 : oldB 2 = 34 := rfl
    simp only [cntTo, more, Lib.countByte, List.count_cons, o0, o1, o2] at ih ⊢
    have e : ∀ c : UInt8, (b == c) = (b.toNat == c.toNat) := fun c => by
      rw [Bool.eq_iff_iff]; simp [← UInt8.toNat_inj]
    rw [e, e, e]
    rcases esc_all b.toNat b.toNat_lt with ⟨h1, h⟩ | ⟨h1, h⟩ | ⟨h1, h⟩ | ⟨h1, h2, h3, h⟩
    · rw [h, h1]; simp; omega
    · rw [h, h1]; simp; omega
    · rw [h, h1]; simp; omega
    · rw [h]; simp [h1, h2, h3]; omega
theorem cnt_le (l : List UInt8) : ∀ k, cntTo l k ≤ k * l.length
  | 0 => Nat.zero_le _
  | k + 1 => by
    have := cnt_le l k
    have h := List.count_le_length (a := oldB k) (l := l)
    simp only [cntTo, Lib.countByte]
    rw [Nat.add_mul]; omega
theorem more_take (l : List UInt8) (n : Nat) (h : n < l.length) : more (l.take (n + 1)) = more (l.take n) + (if (rep 3 (l[n]).toNat).isSome then 1 else 0) := by
  induction l generalizing n with
  | nil => simp at h
  | cons b l ih =>
    cases n with
    | zero => simp [more]
    | succ n =>
      have := ih n (by simpa using h)
      simp only [List.take_succ_cons, more, List.getElem_cons_succ] at this ⊢
      omega
theorem quote_take (l : List UInt8) (n : Nat) (h : n < l.length) : quoteB (l.take (n + 1)) = quoteB (l.take n) ++ escB l[n] := by
  unfold quoteB
  rw [← List.take_append_getElem h, List.flatMap_append]
  simp
/-- What the table says of a byte. -/
theorem St.at {w : World} {N k : Nat} (h : St w N k) (b : Nat) (hb : b < 256) : ∃ v, w.cell? ⟨N + 1, b, none⟩ = some v ∧ Slot w N v (rep k b) := by
  obtain ⟨cs, h1, h2, h3, _, h4⟩ := h
  obtain ⟨v, hv, hs⟩ := h4 b hb
  exact ⟨v, by simp [World.cell?, h1, hv], hs⟩
theorem St.last {w : World} {N k : Nat} (h : St w N k) : w.cell? ⟨N + 1, 256, none⟩ = some (.slice (some ⟨N, 0, none⟩) k 3) := by
  obtain ⟨cs, h1, h2, h3, _, h4⟩ := h
  simp [World.cell?, h1, h3]
theorem St.byte {w : World} {N k : Nat} (h : St w N k) (j : Nat) (hj : j < k) : w.cell? ⟨N, j, none⟩ = some (.string ⟨#[oldB j]⟩) := by
  obtain ⟨cs, h1, h2, h3, ⟨cur, c1, c2, c3⟩, h4⟩ := h
  simp [World.cell?, c1, c3 j hj]
theorem St.drewN {w : World} {N k : Nat} (h : St w N k) (m : Nat) : St (w.drewN m) N k := h
theorem rep_old {j : Nat} (hj : j < 3) : rep 3 (oldB j).toNat = some (newB j) := by
  rcases j with _ | _ | _ | j
  · rfl
  · rfl
  · rfl
  · omega
theorem new_size (j : Nat) : (newB j).size = 2 := by
  rcases j with _ | _ | j <;> rfl
def encs (l : List UInt8) : List Value := l.map (fun b => Value.int .u8 (b.toNat : Int))
theorem more_mono (l : List UInt8) (n : Nat) : more (l.take n) ≤ more l := by
  induction l generalizing n with
  | nil => simp [more]
  | cons b l ih =>
    cases n with
    | zero => simp [more]
    | succ n =>
      have := ih n
      simp only [List.take_succ_cons, more]
      omega
theorem St.below {w w' : World} {N k P : Nat} (h : St w N k) (hb : Below P w w') (hP : w.heap.size ≤ P) : St w' N k :=
  h.keep fun b _ hlt => hb.block b (by omega)
theorem put1 {cur : Array Value} {E : List Value} (hct : ∀ t, t < E.length → cur[t]? = E[t]?) (h : E.length < cur.size) (v : Value) :
    ∀ t, t < (E ++ [v]).length → (cur.setIfInBounds E.length v)[t]? = (E ++ [v])[t]? := by
  intro t ht
  rw [List.length_append] at ht
  have ht : t < E.length + 1 := ht
  rw [Array.getElem?_setIfInBounds]
  by_cases e : E.length = t
  · subst e
    rw [if_pos rfl, if_pos h, List.getElem?_append_right (Nat.le_refl _), Nat.sub_self]; rfl
  · rw [if_neg e, List.getElem?_append_left (by omega)]
    exact hct t (by omega)
theorem bytes_two {r : ByteArray} (h : r.size = 2) : r.data.toList = [r[0]'(by omega), r[1]'(by omega)] := by
  obtain ⟨⟨l⟩⟩ := r
  match l, h with
  | [a, b], _ => rfl
theorem add_at (b o j : Nat) : (⟨b, o, none⟩ : Addr).add j = ⟨b, o + j, none⟩ := by
  unfold Addr.add
  split <;> simp_all
end Go.Proofs.YthgppbpmcjkadaaGreatDoor.X
set_option linter.unusedVariables false
set_option linter.unusedSimpArgs false
namespace Go.Proofs.YthgppbpmcjkadaaGreatDoor.X
open Go.RowKit
def ValidP (k n : Int) (t : List UInt8) : Prop :=
  (k = 0 ∧ n = 0 ∧ t = []) ∨ (k = 1 ∧ n = 0 ∧ t.length ≤ 200) ∨ (k = 2 ∧ -1000000000 ≤ n ∧ n ≤ 1000000000 ∧ t = []) ∨ (k = 3 ∧ 0 ≤ n ∧ n ≤ 73048 ∧ t = []) ∨ (k = 4 ∧ 0 ≤ n ∧ n ≤ 1 ∧ t = [])
instance (k n : Int) (t : List UInt8) : Decidable (ValidP k n t) := by unfold ValidP; infer_instance
def validZ (k n : Int) (t : List UInt8) : Bool := decide (ValidP k n t)
theorem valid_iff {k n : Int} {t : List UInt8} : validZ k n t = true ↔ ValidP k n t := by unfold validZ; exact decide_eq_true_iff
/-- A value's text. -/
def textL (k n : Int) (t : List UInt8) : List UInt8 :=
  if validZ k n t = true then (if k = 1 then 34 :: (quoteB t ++ [34]) else if k = 2 then Lib.itoa n else if k = 3 then 64 :: Lib.itoa n else if k = 4 then (if n = 1 then [116, 114, 117, 101] else [102, 97, 108, 115, 101]) else [110, 117, 108, 108]) else []
/-- A number's decimal text, read. -/
def decZ (l : List UInt8) : Int × Bool := match Lib.atoiAll l with
  | .ok v => (v, Lib.itoa v == l)
  | .syntax => (0, false)
  | .range => (Lib.atoiSat l, false)
/-- What stands between quotes, read. -/
def contL : Bool → List UInt8 → List UInt8 → List UInt8 × Bool
  | esc, [], acc => (acc, !esc)
  | true, c :: l, acc => if c = 110 then contL false l (acc ++ [10]) else if c = 34 ∨ c = 92 then contL false l (acc ++ [c]) else ([], false)
  | false, c :: l, acc => if c = 92 then contL true l acc else if c = 34 ∨ c = 10 then ([], false) else contL false l (acc ++ [c])
def contZ (l : List UInt8) : List UInt8 × Bool :=
  if l.length < 2 then ([], false) else if l.getD 0 0 = 34 then (if l.getD (l.length - 1) 0 = 34 then contL false ((l.drop 1).take (l.length - 2)) [] else ([], false)) else ([], false)
/-- A text, read: a value, or nothing. -/
def parseZ (l : List UInt8) : Option (Int × Int × List UInt8) :=
  if l = [110, 117, 108, 108] then some (0, 0, []) else if l = [116, 114, 117, 101] then some (4, 1, []) else if l = [102, 97, 108, 115, 101] then some (4, 0, [])
  else if l.head? = some 64 then (if (decZ l.tail).2 = true ∧ validZ 3 (decZ l.tail).1 [] = true then some (3, (decZ l.tail).1, []) else none)
  else if l.head? = some 34 then (if (contZ l).2 = true ∧ validZ 1 0 (contZ l).1 = true then some (1, 0, (contZ l).1) else none)
  else (if (decZ l).2 = true ∧ validZ 2 (decZ l).1 [] = true then some (2, (decZ l).1, []) else none)

/-! Decimal texts. -/
def val (l : List UInt8) : Nat := l.foldl (fun a c => a * 10 + (c.toNat - 48)) 0
theorem val_snoc (l : List UInt8) (c : UInt8) : val (l ++ [c]) = val l * 10 + (c.toNat - 48) := by simp [val]
theorem dig_toNat {d : Nat} (h : d < 10) : (UInt8.ofNat (48 + d)).toNat = 48 + d := by
  rw [UInt8.toNat_ofNat']; omega
theorem val_dec (u : Nat) : val (Lib.decDigits u) = u := by
  induction u using Nat.strongRecOn with
  | _ u ih =>
    rw [Lib.decDigits]
    split
    · rename_i h
      have : ([UInt8.ofNat (48 + u)] : List UInt8) = [] ++ [UInt8.ofNat (48 + u)] := rfl
      rw [this, val_snoc, dig_toNat h]; simp [val]
    · rename_i h
      rw [val_snoc, ih (u / 10) (by omega), dig_toNat (by omega)]; omega
theorem dec_digits (u : Nat) : ∀ c ∈ Lib.decDigits u, 48 ≤ c.toNat ∧ c.toNat ≤ 57 := by
  induction u using Nat.strongRecOn with
  | _ u ih =>
    rw [Lib.decDigits]
    split
    · rename_i h
      intro c hc
      simp only [List.mem_singleton] at hc
      subst hc
      rw [dig_toNat h]; omega
    · rename_i h
      intro c hc
      rcases List.mem_append.1 hc with hc | hc
      · exact ih (u / 10) (by omega) c hc
      · simp only [List.mem_singleton] at hc
        subst hc
        rw [dig_toNat (by omega)]; omega
theorem dec_ne (u : Nat) : Lib.decDigits u ≠ [] := by
  intro h
  have := Lib.decDigits_length u
  rw [h] at this
  have := Lib.nDigits_pos u
  simp at *
  omega
theorem dec_cons (u : Nat) : ∃ c r, Lib.decDigits u = c :: r ∧ 48 ≤ c.toNat ∧ c.toNat ≤ 57 := by
  cases h : Lib.decDigits u with
  | nil => exact absurd h (dec_ne u)
  | cons c r => exact ⟨c, r, rfl, dec_digits u c (by rw [h]; exact List.mem_cons_self)⟩
theorem itoa_cons (n : Int) : ∃ c r, Lib.itoa n = c :: r ∧ (c = 45 ∨ (48 ≤ c.toNat ∧ c.toNat ≤ 57)) := by
  unfold Lib.itoa
  split
  · exact ⟨45, _, rfl, .inl rfl⟩
  · obtain ⟨c, r, h, h2⟩ := dec_cons n.toNat
    exact ⟨c, r, h, .inr h2⟩
theorem foldl_ge (l : List UInt8) : ∀ a, a ≤ l.foldl (fun a c => a * 10 + (c.toNat - 48)) a := by
  induction l with
  | nil => intro a; exact Nat.le_refl _
  | cons c l ih => intro a; rw [List.foldl_cons]; have := ih (a * 10 + (c.toNat - 48)); omega
theorem parse_ok : ∀ (l : List UInt8) (a : Nat), (∀ c ∈ l, 48 ≤ c.toNat ∧ c.toNat ≤ 57) → l.foldl (fun a c => a * 10 + (c.toNat - 48)) a < 18446744073709551616 → Lib.parseUint10 a l = .ok (l.foldl (fun a c => a * 10 + (c.toNat - 48)) a)
  | [], a, _, _ => rfl
  | c :: l, a, hd, hb => by
    have hc := hd c List.mem_cons_self
    rw [List.foldl_cons] at hb ⊢
    have hg := foldl_ge l (a * 10 + (c.toNat - 48))
    simp only [Lib.parseUint10]
    rw [if_pos hc, if_neg (by omega), if_neg (by omega)]
    exact parse_ok l _ (fun d h => hd d (List.mem_cons_of_mem _ h)) hb
theorem atoi_itoa (n : Int) (h0 : -9223372036854775808 ≤ n) (h1 : n ≤ 9223372036854775807) : Lib.atoiAll (Lib.itoa n) = .ok n := by
  have hp : ∀ u : Nat, u < 18446744073709551616 → Lib.parseMag (Lib.decDigits u) = .ok u := fun u hu => by
    unfold Lib.parseMag
    rw [if_neg (dec_ne u)]
    have h := parse_ok (Lib.decDigits u) 0 (dec_digits u) (by have := val_dec u; unfold val at this; rw [this]; exact hu)
    have h2 := val_dec u
    unfold val at h2
    rw [h2] at h
    exact h
  unfold Lib.itoa
  by_cases hn : n < 0
  · rw [if_pos hn]
    unfold Lib.atoiAll
    simp only [show (45 : UInt8).toNat = 45 from rfl, or_true, if_true]
    rw [hp _ (by omega)]
    simp
    rw [if_neg (by omega)]
    congr 1; omega
  · rw [if_neg hn]
    obtain ⟨c, r, he, hc⟩ := dec_cons n.toNat
    have hq := hp n.toNat (by omega)
    rw [he] at hq ⊢
    unfold Lib.atoiAll
    simp only
    rw [if_neg (by omega), hq]
    simp
    rw [if_neg (by omega), if_neg (by omega), if_neg (by omega)]
    congr 1; omega
theorem dec_itoa (n : Int) (h0 : -9223372036854775808 ≤ n) (h1 : n ≤ 9223372036854775807) : decZ (Lib.itoa n) = (n, true) := by
  unfold decZ
  rw [atoi_itoa n h0 h1]
  simp
theorem dec_inv {l : List UInt8} (h : (decZ l).2 = true) : Lib.itoa (decZ l).1 = l := by
  unfold decZ at h ⊢
  split at h
  · simp only at h ⊢; exact eq_of_beq h
  · cases h
  · cases h
theorem itoa_inj {x y : Int} (hx0 : -9223372036854775808 ≤ x) (hx1 : x ≤ 9223372036854775807) (hy0 : -9223372036854775808 ≤ y) (hy1 : y ≤ 9223372036854775807) (h : Lib.itoa x = Lib.itoa y) : x = y := by
  have a := dec_itoa x hx0 hx1
  rw [h, dec_itoa y hy0 hy1] at a
  exact (Prod.mk.inj a).1.symm

/-! What stands between quotes. -/
theorem esc_form (b : UInt8) : (b = 10 ∧ escB b = [92, 110]) ∨ (b = 92 ∧ escB b = [92, 92]) ∨ (b = 34 ∧ escB b = [92, 34]) ∨ (b ≠ 10 ∧ b ≠ 92 ∧ b ≠ 34 ∧ escB b = [b]) := by
  have e : ∀ c : UInt8, b.toNat = c.toNat ↔ b = c := fun c => UInt8.toNat_inj
  have e1 := e 10
  have e2 := e 92
  have e3 := e 34
  rcases esc_all b.toNat b.toNat_lt with ⟨h, r⟩ | ⟨h, r⟩ | ⟨h, r⟩ | ⟨h1, h2, h3, r⟩
  · exact .inl ⟨e1.1 h, by unfold escB; rw [r]⟩
  · exact .inr (.inl ⟨e2.1 h, by unfold escB; rw [r]⟩)
  · exact .inr (.inr (.inl ⟨e3.1 h, by unfold escB; rw [r]⟩))
  · exact .inr (.inr (.inr ⟨fun h => h1 (e1.2 h), fun h => h2 (e2.2 h), fun h => h3 (e3.2 h), by unfold escB; rw [r]⟩))
theorem quote_cons (b : UInt8) (t : List UInt8) : quoteB (b :: t) = escB b ++ quoteB t := rfl
theorem cont_quote : ∀ (t acc r : List UInt8), contL false (quoteB t ++ r) acc = contL false r (acc ++ t)
  | [], acc, r => by rw [List.append_nil]; rfl
  | b :: t, acc, r => by
    rw [quote_cons, List.append_assoc]
    rcases esc_form b with ⟨h, e⟩ | ⟨h, e⟩ | ⟨h, e⟩ | ⟨h1, h2, h3, e⟩
    · subst h; rw [e]; simp [contL]; rw [cont_quote t]; simp
    · subst h; rw [e]; simp [contL]; rw [cont_quote t]; simp
    · subst h; rw [e]; simp [contL]; rw [cont_quote t]; simp
    · rw [e]; simp [contL, h1, h2, h3]; rw [cont_quote t]; simp
theorem cont_inv : ∀ (n : Nat) (l acc t : List UInt8), l.length ≤ n → contL false l acc = (t, true) → ∃ u, t = acc ++ u ∧ l = quoteB u
  | _, [], acc, t, _, h => by
    simp [contL] at h
    exact ⟨[], by simp [h], rfl⟩
  | 0, c :: l, acc, t, hn, h => by simp at hn
  | n + 1, c :: l, acc, t, hn, h => by
    simp only [contL] at h
    split at h
    · rename_i hc
      subst hc
      cases l with
      | nil => simp [contL] at h
      | cons d l =>
        simp only [contL] at h
        simp only [List.length_cons] at hn
        split at h
        · rename_i hd
          subst hd
          obtain ⟨u, h1, h2⟩ := cont_inv n l _ t (by omega) h
          refine ⟨10 :: u, by rw [h1]; simp, ?_⟩
          rw [quote_cons, h2]
          rfl
        · split at h
          · rename_i hd
            obtain ⟨u, h1, h2⟩ := cont_inv n l _ t (by omega) h
            refine ⟨d :: u, by rw [h1]; simp, ?_⟩
            rw [quote_cons, h2]
            rcases hd with rfl | rfl
            · rfl
            · rfl
          · cases h
    · rename_i hc
      split at h
      · cases h
      · rename_i hd
        obtain ⟨u, h1, h2⟩ := cont_inv n l _ t (by simp at hn; omega) h
        refine ⟨c :: u, by rw [h1]; simp, ?_⟩
        rw [quote_cons, h2]
        rcases esc_form c with ⟨h, e⟩ | ⟨h, e⟩ | ⟨h, e⟩ | ⟨h1, h2, h3, e⟩
        · exact absurd (.inr h) hd
        · exact absurd h hc
        · exact absurd (.inl h) hd
        · rw [e]; rfl
theorem contZ_quote (t : List UInt8) : contZ (34 :: (quoteB t ++ [34])) = (t, true) := by
  unfold contZ
  have hl : (34 :: (quoteB t ++ [34])).length = (quoteB t).length + 2 := by simp
  rw [hl, if_neg (by omega), if_pos (show (34 :: (quoteB t ++ [34])).getD 0 0 = 34 from rfl)]
  have e : (34 :: (quoteB t ++ [34])).getD ((quoteB t).length + 2 - 1) 0 = 34 := by
    rw [show (quoteB t).length + 2 - 1 = (quoteB t).length + 1 by omega, List.getD_cons_succ]
    simp
  rw [if_pos e]
  have e2 : ((34 :: (quoteB t ++ [34])).drop 1).take ((quoteB t).length + 2 - 2) = quoteB t ++ [] := by
    rw [show (quoteB t).length + 2 - 2 = (quoteB t).length by omega]
    simp
  rw [e2, cont_quote]
  rfl
theorem contZ_inv {l : List UInt8} (h : (contZ l).2 = true) : l = 34 :: (quoteB (contZ l).1 ++ [34]) := by
  unfold contZ at h ⊢
  split at h
  · cases h
  rename_i h2
  split at h
  case isFalse => cases h
  rename_i ha
  split at h
  case isFalse => cases h
  rename_i hb
  rw [if_neg h2, if_pos ha, if_pos hb]
  obtain ⟨u, h3, h4⟩ := cont_inv _ _ _ (contL false ((l.drop 1).take (l.length - 2)) []).1 (Nat.le_refl _) (by rw [← h])
  rw [h3, List.nil_append, ← h4]
  cases l with
  | nil => simp at h2
  | cons c l =>
    rw [List.getD_cons_zero] at ha
    subst ha
    congr 1
    simp only [List.length_cons] at h2 hb ⊢
    rw [show l.length + 1 - 1 = l.length - 1 + 1 by omega, List.getD_cons_succ] at hb
    rw [List.drop_one, List.tail_cons, show l.length + 1 - 2 = l.length - 1 by omega]
    have hlt : l.length - 1 < l.length := by omega
    rw [List.getD_eq_getElem?_getD, List.getElem?_eq_getElem hlt, Option.getD_some] at hb
    conv => lhs; rw [← List.take_append_drop (l.length - 1) l]
    rw [List.drop_eq_getElem_cons hlt, hb, show l.length - 1 + 1 = l.length by omega, List.drop_length]

/-! Texts and values. -/
theorem head_itoa (n : Int) : (Lib.itoa n).head? ≠ some 64 ∧ (Lib.itoa n).head? ≠ some 34 ∧ (Lib.itoa n).head? ≠ some 110 ∧ (Lib.itoa n).head? ≠ some 116 ∧ (Lib.itoa n).head? ≠ some 102 := by
  obtain ⟨c, r, h, hc⟩ := itoa_cons n
  rw [h]
  have e : ∀ d : UInt8, ¬ (d.toNat = 45 ∨ (48 ≤ d.toNat ∧ d.toNat ≤ 57)) → (c :: r).head? ≠ some d := fun d hd h => by
    simp at h
    subst h
    rcases hc with rfl | hc
    · exact hd (.inl rfl)
    · exact hd (.inr hc)
  exact ⟨e 64 (by decide), e 34 (by decide), e 110 (by decide), e 116 (by decide), e 102 (by decide)⟩
theorem parse_text {k n : Int} {t : List UInt8} (h : ValidP k n t) : parseZ (textL k n t) = some (k, n, t) := by
  have hv : validZ k n t = true := valid_iff.2 h
  unfold textL
  rw [if_pos hv]
  rcases h with ⟨rfl, rfl, rfl⟩ | ⟨rfl, rfl, ht⟩ | ⟨rfl, a, b, rfl⟩ | ⟨rfl, a, b, rfl⟩ | ⟨rfl, a, b, rfl⟩
  · rfl
  · rw [if_pos rfl]
    unfold parseZ
    rw [if_neg (by simp), if_neg (by simp), if_neg (by simp), if_neg (by simp), if_pos (show (34 :: (quoteB t ++ [34])).head? = some 34 from rfl), contZ_quote, if_pos ⟨rfl, hv⟩]
  · rw [if_neg (by omega), if_pos rfl]
    obtain ⟨h1, h2, h3, h4, h5⟩ := head_itoa n
    unfold parseZ
    rw [if_neg (fun e => h3 (by rw [e]; rfl)), if_neg (fun e => h4 (by rw [e]; rfl)), if_neg (fun e => h5 (by rw [e]; rfl)), if_neg h1, if_neg h2, dec_itoa n (by omega) (by omega), if_pos ⟨rfl, hv⟩]
  · rw [if_neg (by omega), if_neg (by omega), if_pos rfl]
    unfold parseZ
    rw [if_neg (by simp), if_neg (by simp), if_neg (by simp), if_pos (show (64 :: Lib.itoa n).head? = some 64 from rfl), List.tail_cons, dec_itoa n (by omega) (by omega), if_pos ⟨rfl, hv⟩]
  · have : n = 0 ∨ n = 1 := by omega
    rcases this with rfl | rfl <;> rfl
theorem text_parse {l : List UInt8} {k n : Int} {t : List UInt8} (h : parseZ l = some (k, n, t)) : ValidP k n t ∧ textL k n t = l := by
  unfold parseZ at h
  split at h
  · rename_i e; cases h; subst e; exact ⟨.inl ⟨rfl, rfl, rfl⟩, rfl⟩
  split at h
  · rename_i e; cases h; subst e; exact ⟨by decide, rfl⟩
  split at h
  · rename_i e; cases h; subst e; exact ⟨by decide, rfl⟩
  split at h
  · rename_i e
    split at h
    case isFalse => cases h
    rename_i hd
    cases h
    refine ⟨valid_iff.1 hd.2, ?_⟩
    unfold textL
    rw [if_pos hd.2, if_neg (by omega), if_neg (by omega), if_pos rfl, dec_inv hd.1]
    cases l with
    | nil => cases e
    | cons c l => simp at e; subst e; rfl
  split at h
  · split at h
    case isFalse => cases h
    rename_i hd
    cases h
    refine ⟨valid_iff.1 hd.2, ?_⟩
    unfold textL
    rw [if_pos hd.2, if_pos rfl, ← contZ_inv hd.1]
  · split at h
    case isFalse => cases h
    rename_i hd
    cases h
    refine ⟨valid_iff.1 hd.2, ?_⟩
    unfold textL
    rw [if_pos hd.2, if_neg (by omega), if_pos rfl, dec_inv hd.1]
theorem parse_iff {l : List UInt8} {k n : Int} {t : List UInt8} : parseZ l = some (k, n, t) ↔ ValidP k n t ∧ textL k n t = l :=
  ⟨text_parse, fun ⟨h1, h2⟩ => by rw [← h2]; exact parse_text h1⟩
theorem text_ne {k n : Int} {t : List UInt8} (h : ValidP k n t) : textL k n t ≠ [] := fun e => by
  have := parse_text h
  rw [e] at this
  simp [parseZ, decZ, Lib.atoiAll] at this
theorem text_inj {k n : Int} {t : List UInt8} {k' n' : Int} {t' : List UInt8} (h : ValidP k n t) (h' : ValidP k' n' t') (e : textL k n t = textL k' n' t') : k = k' ∧ n = n' ∧ t = t' := by
  have a := parse_text h
  rw [e, parse_text h'] at a
  injection a with a
  injection a with a b
  injection b with b c
  exact ⟨a.symm, b.symm, c.symm⟩
theorem text_none {k n : Int} {t : List UInt8} (h : ¬ ValidP k n t) : textL k n t = [] := by
  unfold textL
  rw [if_neg (fun e => h (valid_iff.1 e))]
end Go.Proofs.YthgppbpmcjkadaaGreatDoor.X
set_option linter.unusedVariables false
set_option linter.unusedSimpArgs false
namespace Go.Proofs.YthgppbpmcjkadaaGreatDoor.X
open Go.RowKit Go.Proofs.YthgppbpmcjkadaaGreatDoorW.PrintWords
/-- A text out of its bytes. -/
def bs (l : List UInt8) : ByteArray := ⟨l.toArray⟩
theorem bs_data (l : List UInt8) : (bs l).data.toList = l := rfl
theorem bs_size (l : List UInt8) : (bs l).size = l.length := List.size_toArray
theorem bs_of (c : ByteArray) : bs c.data.toList = c := rfl
theorem bs_app (a b : List UInt8) : bs a ++ bs b = bs (a ++ b) := by
  apply ByteArray.ext
  rw [ByteArray.data_append]
  simp [bs]
theorem bs_inj {a b : List UInt8} (h : bs a = bs b) : a = b := congrArg (fun c : ByteArray => c.data.toList) h
theorem len_list (c : ByteArray) : c.data.toList.length = c.size := Array.length_toList
theorem ext_list (s : ByteArray) (i j : Nat) : (s.extract i j).data.toList = (s.data.toList.take j).drop i := by
  simp [Array.toList_extract, List.extract]
  rw [List.drop_take]
theorem ext_one (s : ByteArray) (i : Nat) (h : i < s.size) : s.extract i (i + 1) = bs [s.data.toList[i]'(by rw [len_list]; exact h)] := by
  rw [← bs_of (s.extract i (i + 1)), ext_list, List.drop_take, show i + 1 - i = 1 by omega, List.drop_eq_getElem_cons (by rw [len_list]; exact h)]
  rfl
theorem bt_list (s : ByteArray) (i : Nat) (h : i < s.size) : bt s (i : Int) = ((s.data.toList[i]'(by rw [len_list]; exact h)).toNat : Int) := by
  unfold bt
  rw [dif_pos (by simpa using h)]
  simp [ByteArray.getElem_eq_getElem_data]
theorem byte_eq {x : UInt8} (c : UInt8) {n : Int} (hn : ((c.toNat : Nat) : Int) = n) : ((x.toNat : Nat) : Int) = n ↔ x = c := by
  rw [← UInt8.toNat_inj]
  omega
end Go.Proofs.YthgppbpmcjkadaaGreatDoor.X
