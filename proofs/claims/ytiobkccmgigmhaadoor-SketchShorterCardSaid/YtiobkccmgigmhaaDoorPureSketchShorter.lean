/- The statement SketchShorter over plain numbers, texts and lists. -/
import Derived.Test.YtiobkccmgigmhaaDoorPx15
import Derived.Test.YtiobkccmgigmhaaDoorPlB
set_option linter.unusedVariables false
set_option linter.unusedSimpArgs false
namespace Go.Proofs.YtiobkccmgigmhaaDoor.Pure
open Go.RowKit Go.Proofs.YtiobkccmgigmhaaDoorW.PrintWords Go.Proofs.YtiobkccmgigmhaaDoorW.PrintMore
theorem short_inner (l : List ByteArray) (n i : Nat) (hi : i < n) (hn : n ≤ 64) (hf : Pl.fewB l = true) (K : Nat) (next : ∀ k, K < k → Px.cleanselaw05_SketchShorter.l0 k l true (Pl.makeZ l n) ((i + 1 : Nat) : Int) = some true) :
    ∀ (d j k : Nat) (found : Bool), j + d = l.length → K + d + 1 < k → (found = true ∨ ∃ t ∈ l.drop j, X.hsh t.data.toList i = X.leastZ (i : Nat) l) → Px.cleanselaw05_SketchShorter.l1 k l true (Pl.makeZ l n) (i : Int) found (j : Int) = some true
  | 0, j, k, found, h, hk, hfo => by
    obtain ⟨k, rfl⟩ : ∃ m, k = m + 1 := ⟨k - 1, by omega⟩
    have hlen := Pl.fewB_len hf
    have : found = true := by
      rcases hfo with h' | ⟨t, ht, _⟩
      · exact h'
      · rw [List.drop_of_length_le (by omega)] at ht; cases ht
    subst this
    simp only [Px.cleanselaw05_SketchShorter.l1]
    rw [if_neg (by omega), Pl.wrap_succ (by omega) (by omega)]
    exact next k (by omega)
  | d + 1, j, k, found, h, hk, hfo => by
    obtain ⟨k, rfl⟩ : ∃ m, k = m + 1 := ⟨k - 1, by omega⟩
    have hlen := Pl.fewB_len hf
    have hj : j < l.length := by omega
    have hsz := Pl.fewB_size hf l[j] (List.getElem_mem _)
    have hle := Pl.least_le (i : Nat) l l[j] (List.getElem_mem _)
    have hr : rd (Pl.makeZ l n) (i : Int) = X.leastZ (i : Nat) l := by rw [Pl.rd_at (by rw [Pl.makeZ_length]; exact hi), Pl.makeZ_at]
    simp only [Px.cleanselaw05_SketchShorter.l1]
    rw [if_pos (by omega), if_pos (by omega), Pl.rdOf_at hj, X.sketch_Hash.f, if_pos (by omega)]
    simp only [Option.bind_some]
    rw [hr, Pl.wrap_succ (by omega) (by omega), show ((j : Int) + 1) = ((j + 1 : Nat) : Int) by omega, Pl.makeZ_length]
    cases found with
    | true =>
      rw [if_pos rfl, if_pos (by omega), if_pos (by omega), if_neg (by omega)]
      exact short_inner l n i hi hn hf K next d (j + 1) k true (by omega) (by omega) (.inl rfl)
    | false =>
      rw [if_neg (by decide), if_pos (by omega), if_pos (by omega), if_neg (by omega)]
      refine short_inner l n i hi hn hf K next d (j + 1) k _ (by omega) (by omega) ?_
      rcases hfo with h' | ⟨t, ht, he⟩
      · cases h'
      · rw [List.drop_eq_getElem_cons hj] at ht
        rcases List.mem_cons.1 ht with rfl | ht
        · left; simpa using he
        · exact .inr ⟨t, ht, he⟩
theorem short_outer (l : List ByteArray) (n : Nat) (hn : n ≤ 64) (hf : Pl.fewB l = true) : ∀ (d i k : Nat), i + d = n → d * 50 + 10 < k → Px.cleanselaw05_SketchShorter.l0 k l true (Pl.makeZ l n) (i : Int) = some true
  | 0, i, k, h, hk => by
    obtain ⟨k, rfl⟩ : ∃ m, k = m + 1 := ⟨k - 1, by omega⟩
    simp only [Px.cleanselaw05_SketchShorter.l0]
    rw [if_neg (by rw [Pl.makeZ_length]; omega)]
  | d + 1, i, k, h, hk => by
    obtain ⟨k, rfl⟩ : ∃ m, k = m + 1 := ⟨k - 1, by omega⟩
    have hlen := Pl.fewB_len hf
    have next := fun k (hk : d * 50 + 10 < k) => short_outer l n hn hf d (i + 1) k (by omega) hk
    have hr : rd (Pl.makeZ l n) (i : Int) = X.leastZ (i : Nat) l := by rw [Pl.rd_at (by rw [Pl.makeZ_length]; omega), Pl.makeZ_at]
    simp only [Px.cleanselaw05_SketchShorter.l0]
    rw [if_pos (by rw [Pl.makeZ_length]; omega), hr]
    obtain ⟨k, rfl⟩ : ∃ m, k = m + 1 := ⟨k - 1, by omega⟩
    simp only [Px.cleanselaw05_SketchShorter.j2]
    by_cases hl : l = []
    · subst hl
      rw [if_pos (by simp), if_pos (by omega)]
      exact short_inner [] n i (by omega) hn hf _ next 0 0 k _ rfl (by omega) (.inl (by simp [X.leastZ]))
    · rw [if_neg (by simpa using hl)]
      obtain ⟨t, ht, he⟩ := Pl.least_mem (i : Nat) l hl
      exact short_inner l n i (by omega) hn hf _ next l.length 0 k false (by omega) (by omega) (.inr ⟨t, by simpa using ht, he.symm⟩)
theorem make_take (l : List ByteArray) (m n : Nat) (h : m ≤ n) : (Pl.makeZ l n).take m = Pl.makeZ l m := by
  unfold Pl.makeZ
  rw [← List.map_take, List.take_range, Nat.min_eq_left h]
theorem mn_nat (m n : Nat) : mn (m : Int) (n : Int) = ((min m n : Nat) : Int) := by unfold mn; split <;> omega
theorem mx_nat (m n : Nat) : mx (m : Int) (n : Int) = ((max m n : Nat) : Int) := by unfold mx; split <;> omega
theorem SketchShorter : ∀ (l0 : List ByteArray) (a1 : Int) (a2 : Int), l0.length ≤ 9223372036854775807 → 0 ≤ a1 → a1 ≤ 255 → 0 ≤ a2 → a2 ≤ 255 → ∃ k, Px.cleanselaw05_SketchShorter.f k l0 a1 a2 = some true := by
  intro l a b hm ha0 ha1 hb0 hb1
  refine ⟨10000, ?_⟩
  unfold Px.cleanselaw05_SketchShorter.f X.cleanselaw05_head.f
  simp only [Option.bind_some]
  rw [Pl.few_spec l _ hm (by omega)]
  simp only [Option.bind_some]
  by_cases f0 : Pl.fewB l = true
  case neg => rw [if_neg f0]
  obtain ⟨m, em, m1, m2⟩ := Pl.size_of a ha0 ha1
  obtain ⟨n, en, n1, n2⟩ := Pl.size_of b hb0 hb1
  have ok0 := Pl.fewB_ok f0
  rw [if_pos f0, em, en, mn_nat, mx_nat, Pl.make_spec l ok0 (min m n) (by omega) (by omega) _ (by omega), Pl.make_spec l ok0 (max m n) (by omega) (by omega) _ (by omega)]
  simp only [Option.bind_some, if_true]
  rw [Pl.makeZ_length, Pl.makeZ_length, if_pos rfl, if_pos rfl, if_pos (by omega), if_pos (by omega), Int.toNat_natCast, make_take l _ _ (by omega), Pl.ints_spec _ _ (by rw [Pl.makeZ_length]; omega) _ (by rw [Pl.makeZ_length]; omega)]
  simp only [Option.bind_some, decide_true, Bool.not_true]
  simp only [Px.cleanselaw05_SketchShorter.j0]
  rw [if_neg (by decide), show (0 : Int) = ((0 : Nat) : Int) from rfl]
  exact short_outer l (max m n) (by omega) f0 (max m n) 0 9999 (by omega) (by omega)
end Go.Proofs.YtiobkccmgigmhaaDoor.Pure
