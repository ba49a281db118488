/- The Seal functions' plain laws: a text with one byte changed. -/
import Derived.Test.YtgblfdfagppejaaDoorPlC
set_option linter.unusedVariables false
set_option linter.unusedSimpArgs false
namespace Go.Proofs.YtgblfdfagppejaaDoor.Pl
open Go.RowKit Go.Proofs.YtgblfdfagppejaaDoorW.PrintWords Go.Proofs.YtgblfdfagppejaaDoorW.PrintMore
theorem sum_set (l : List Int) (hl : ∀ b ∈ l, Byte b) (i : Nat) (hi : i < l.length) (c : Int) (hc : Byte c) (h : sumL (l.set i c) = sumL l) : l[i] = c := by
  have e1 : l.set i c = l.take i ++ c :: l.drop (i + 1) := by rw [List.set_eq_take_append_cons_drop, if_pos hi]
  have e2 : l = l.take i ++ l[i] :: l.drop (i + 1) := by rw [← List.drop_eq_getElem_cons hi, List.take_append_drop]
  rw [e1] at h
  have h2 : sumL (l.take i ++ l[i] :: l.drop (i + 1)) = sumL (l.take i ++ c :: l.drop (i + 1)) := by rw [← e2]; exact h.symm
  exact sum_one _ _ (hl _ (List.getElem_mem hi)) hc h2
theorem be8_inj {v u : Int} (h0 : 0 ≤ v ∧ v < 2147483647) (h1 : 0 ≤ u ∧ u < 2147483647) (h : be 8 v = be 8 u) : v = u := by
  have e1 := readZ_be8 v (by omega) (by omega)
  have e2 := readZ_be8 u (by omega) (by omega)
  rw [h, e2] at e1
  exact (Prod.mk.inj e1).1.symm
theorem rot_none (e p : Int) (b : ByteArray) (hb : b.size ≤ 40) (i : Nat) (hi : i < (sealL e p b).length) (c : Int) (hc : Byte c) (hne : (sealL e p b)[i] ≠ c) : openZ (strOfNums ((sealL e p b).set i c)) = none := by
  cases ho : openZ (strOfNums ((sealL e p b).set i c)) with
  | none => rfl
  | some t =>
    exfalso
    obtain ⟨x, y, b'⟩ := t
    obtain ⟨h1, h2, h3⟩ := open_some ho
    have hbyte : ∀ z ∈ (sealL e p b).set i c, Byte z := fun z hz => by
      rcases List.mem_or_eq_of_mem_set hz with hz | rfl
      · exact sealL_byte e p b z hz
      · exact hc
    have h4 : sealL x y b' = (sealL e p b).set i c := str_inj (sealL_byte x y b') hbyte h3
    have l1 := putL_len e p b hb
    have l2 := putL_len x y b' h2
    have s1 := sumL_bd (putL e p b)
    have s2 := sumL_bd (putL x y b')
    by_cases hlt : i < 56
    · have e1 : (sealL e p b).set i c = (putL e p b).set i c ++ be 8 (sumL (putL e p b)) := by unfold sealL; rw [List.set_append_left _ _ (by omega)]
      rw [e1] at h4
      obtain ⟨e2, e3⟩ := List.append_inj h4 (by rw [List.length_set]; omega)
      have e4 := be8_inj s2 s1 e3
      rw [e2] at e4
      have e5 := sum_set (putL e p b) (putL_byte e p b) i (by omega) c hc e4
      exact hne (by simp only [sealL]; rw [List.getElem_append_left (by omega)]; exact e5)
    · have e1 : (sealL e p b).set i c = putL e p b ++ (be 8 (sumL (putL e p b))).set (i - 56) c := by unfold sealL; rw [List.set_append_right _ _ (by omega), l1]
      rw [e1] at h4
      obtain ⟨e2, e3⟩ := List.append_inj h4 (by omega)
      rw [e2] at e3
      have hl := sealL_len e p b hb
      have e6 : (be 8 (sumL (putL e p b)))[i - 56]? = some c := by
        rw [e3, List.getElem?_set_self (by rw [be_len]; omega)]
      exact hne (by
        have : (sealL e p b)[i]? = some c := by
          unfold sealL
          rw [List.getElem?_append_right (by omega), l1]
          exact e6
        rw [List.getElem?_eq_getElem hi] at this
        exact Option.some.inj this)
/-- A text with one byte changed. -/
def ch (s : ByteArray) (i : Nat) (c : Int) : ByteArray := (s.extract 0 i ++ strOfNums [c]) ++ s.extract (i + 1) s.size
theorem bytes_app (s t : ByteArray) : bytesOf (s ++ t) = bytesOf s ++ bytesOf t := by
  unfold bytesOf
  rw [← List.map_append]
  congr 1
theorem ch_bytes (s : ByteArray) (i : Nat) (hi : i < s.size) (c : Int) (hc : Byte c) : bytesOf (ch s i c) = (bytesOf s).set i c := by
  unfold ch
  rw [bytes_app, bytes_app, bytes_extract, bytes_extract, bytes_str [c] (by intro b hb; cases hb with | head => exact hc | tail _ h => cases h), List.drop_zero, List.take_of_length_le (Nat.le_of_eq (bytes_len s)), List.set_eq_take_append_cons_drop, if_pos (by rw [bytes_len]; exact hi), List.append_assoc, List.singleton_append]
theorem ch_str (s : ByteArray) (i : Nat) (hi : i < s.size) (c : Int) (hc : Byte c) : ch s i c = strOfNums ((bytesOf s).set i c) := by rw [← ch_bytes s i hi c hc, str_bytes]
theorem ch_self (s : ByteArray) (i : Nat) (hi : i < s.size) : ch s i (bt s (i : Int)) = s := by
  have hi' : i < (bytesOf s).length := by rw [bytes_len]; exact hi
  rw [ch_str s i hi _ (by rw [bt_at s i hi]; exact bytes_byte s _ (List.getElem_mem hi')), bt_at s i hi, List.set_getElem_self, str_bytes]
def diffs : List Int → List Int → Nat
  | x :: l, y :: m => (if x = y then 0 else 1) + diffs l m
  | _, _ => 0
theorem diffs_zero : ∀ (l m : List Int), l.length = m.length → diffs l m = 0 → l = m
  | [], [], _, _ => rfl
  | x :: l, y :: m, h, hd => by
    simp only [diffs] at hd
    have hxy : x = y := by
      by_cases c : x = y
      · exact c
      · rw [if_neg c] at hd; omega
    rw [hxy, diffs_zero l m (by simpa using h) (by omega)]
theorem diffs_one : ∀ (l m : List Int), l.length = m.length → diffs l m = 1 → ∃ p a b q, a ≠ b ∧ l = p ++ a :: q ∧ m = p ++ b :: q
  | [], [], _, h => by simp [diffs] at h
  | x :: l, y :: m, h, hd => by
    simp only [diffs] at hd
    by_cases c : x = y
    · rw [if_pos c] at hd
      obtain ⟨p, a, b, q, h1, h2, h3⟩ := diffs_one l m (by simpa using h) (by omega)
      exact ⟨x :: p, a, b, q, h1, by rw [h2]; rfl, by rw [h3, c]; rfl⟩
    · rw [if_neg c] at hd
      have := diffs_zero l m (by simpa using h) (by omega)
      exact ⟨[], x, y, l, c, rfl, by rw [this]; rfl⟩
theorem sum_diff (l m : List Int) (hl : ∀ b ∈ l, Byte b) (hm : ∀ b ∈ m, Byte b) (h : l.length = m.length) (h1 : diffs l m = 1) : sumL l ≠ sumL m := by
  obtain ⟨p, a, b, q, hne, rfl, rfl⟩ := diffs_one l m h h1
  intro e
  exact hne (sum_one p q (hl a (by simp)) (hm b (by simp)) e)
end Go.Proofs.YtgblfdfagppejaaDoor.Pl
