/- What the plain functions of layer 5 come to: few, Make, Hash, Ints, Strings. -/
import Derived.Test.YtiobkccmgigmhaaDoorPx2
import Derived.Test.YtiobkccmgigmhaaDoorPx8
set_option linter.unusedVariables false
set_option linter.unusedSimpArgs false
namespace Go.Proofs.YtiobkccmgigmhaaDoor.Pl
open Go.RowKit Go.Proofs.YtiobkccmgigmhaaDoorW.PrintWords

theorem wrap_succ {i : Int} (h0 : 0 ≤ i) (h : i < 9223372036854775807) : wrap64 (i + 1) = i + 1 := by unfold wrap64; omega
theorem wrap_id {i : Int} (h0 : -9223372036854775808 ≤ i) (h : i ≤ 9223372036854775807) : wrap64 i = i := by unfold wrap64; omega
theorem rd_at {l : List Int} {i : Nat} (h : i < l.length) : rd l (i : Int) = l[i] := by simp [rd, List.getD_eq_getElem?_getD, h]
theorem rdOf_at {l : List ByteArray} {i : Nat} (h : i < l.length) : rdOf ByteArray.empty l (i : Int) = l[i] := by
  rw [rdOf, Int.toNat_natCast, List.getD_eq_getElem?_getD, List.getElem?_eq_getElem h]; rfl

/-! few -/
def fewB (l : List ByteArray) : Bool := decide (l.length ≤ 40) && l.all fun s => decide (s.size ≤ 100)
theorem few_loop (l : List ByteArray) (hm : l.length ≤ 9223372036854775807) : ∀ (d i k : Nat), i + d = l.length → d < k → Px.cleanselaw05_few.l0 k l (i : Int) = some ((l.drop i).all fun s => decide (s.size ≤ 100))
  | 0, i, k, h, hk => by
    obtain ⟨k, rfl⟩ : ∃ m, k = m + 1 := ⟨k - 1, by omega⟩
    simp only [Px.cleanselaw05_few.l0]
    rw [if_neg (by omega), List.drop_of_length_le (by omega)]
    rfl
  | d + 1, i, k, h, hk => by
    obtain ⟨k, rfl⟩ : ∃ m, k = m + 1 := ⟨k - 1, by omega⟩
    have hi : i < l.length := by omega
    simp only [Px.cleanselaw05_few.l0]
    rw [if_pos (by omega), if_pos (by omega), rdOf_at hi, List.drop_eq_getElem_cons hi, List.all_cons, wrap_succ (by omega) (by omega)]
    by_cases hs : (l[i]).size ≤ 100
    · rw [if_neg (by omega), show ((i : Int) + 1) = ((i + 1 : Nat) : Int) by omega, few_loop l hm d (i + 1) k (by omega) (by omega)]
      simp [hs]
    · rw [if_pos (by omega)]
      simp [hs]
theorem few_spec (l : List ByteArray) (k : Nat) (hm : l.length ≤ 9223372036854775807) (hk : 40 < k) : Px.cleanselaw05_few.f k l = some (fewB l) := by
  unfold Px.cleanselaw05_few.f fewB
  by_cases h : l.length ≤ 40
  · rw [if_neg (by omega), show (0 : Int) = ((0 : Nat) : Int) from rfl, few_loop l hm l.length 0 k (by omega) (by omega)]
    simp [h]
  · rw [if_pos (by omega)]
    simp [h]
theorem fewB_len {l : List ByteArray} (h : fewB l = true) : l.length ≤ 40 := by simp [fewB] at h; exact h.1
theorem fewB_size {l : List ByteArray} (h : fewB l = true) : ∀ s ∈ l, s.size ≤ 100 := by simp [fewB] at h; exact h.2
theorem fewB_ok {l : List ByteArray} (h : fewB l = true) : X.okLens l = true := by
  unfold X.okLens
  rw [List.all_eq_true]
  intro s hs
  have := fewB_size h s hs
  simp; omega

/-! Make -/
def makeZ (l : List ByteArray) (n : Nat) : List Int := (List.range n).map fun i => X.leastZ (i : Nat) l
theorem makeZ_length (l : List ByteArray) (n : Nat) : (makeZ l n).length = n := by simp [makeZ]
theorem makeZ_at (l : List ByteArray) (n i : Nat) (h : i < (makeZ l n).length) : (makeZ l n)[i] = X.leastZ (i : Nat) l := by simp [makeZ]
theorem make_loop (l : List ByteArray) (hok : X.okLens l = true) (n : Nat) (hn : n ≤ 64) : ∀ (d i k : Nat) (xs : List Int), i + d = n → d < k → xs.length = n →
    Px.sketch_Make.l0 k l xs (n : Int) (i : Int) = some (xs.take i ++ (makeZ l n).drop i, 0)
  | 0, i, k, xs, h, hk, hx => by
    obtain ⟨k, rfl⟩ : ∃ m, k = m + 1 := ⟨k - 1, by omega⟩
    simp only [Px.sketch_Make.l0]
    rw [if_neg (by omega), List.take_of_length_le (by omega), List.drop_of_length_le (by rw [makeZ_length]; omega), List.append_nil]
  | d + 1, i, k, xs, h, hk, hx => by
    obtain ⟨k, rfl⟩ : ∃ m, k = m + 1 := ⟨k - 1, by omega⟩
    simp only [Px.sketch_Make.l0]
    rw [if_pos (by omega), X.sketch_least.f, if_pos hok]
    simp only [Option.bind_some]
    rw [if_pos (by omega), if_pos (by omega), wrap_succ (by omega) (by omega), show ((i : Int) + 1) = ((i + 1 : Nat) : Int) by omega, make_loop l hok n hn d (i + 1) k _ (by omega) (by omega) (by simpa using hx)]
    congr 2
    rw [Int.toNat_natCast, List.drop_eq_getElem_cons (i := i) (by rw [makeZ_length]; omega), makeZ_at]
    rw [List.take_succ_eq_append_getElem (by simp; omega)]
    simp [List.take_set_of_le]
theorem make_spec (l : List ByteArray) (hok : X.okLens l = true) (n : Nat) (h1 : 1 ≤ n) (hn : n ≤ 64) (k : Nat) (hk : n + 1 < k) : Px.sketch_Make.f k l (n : Int) = some (makeZ l n, 0) := by
  obtain ⟨k, rfl⟩ : ∃ m, k = m + 1 := ⟨k - 1, by omega⟩
  unfold Px.sketch_Make.f
  rw [if_neg (by omega), show decide ((n : Int) > 64) = false by simp; omega]
  simp only [Px.sketch_Make.j0]
  rw [if_neg (by decide), if_pos (by omega), if_pos (by omega), Int.toNat_natCast, show (0 : Int) = ((0 : Nat) : Int) from rfl, make_loop l hok n hn n 0 k _ (by omega) (by omega) (by simp)]
  simp
theorem make_bad (l : List ByteArray) (n : Int) (h : n < 1 ∨ 64 < n) (k : Nat) (hk : 0 < k) : Px.sketch_Make.f k l n = some ([], 1) := by
  obtain ⟨k, rfl⟩ : ∃ m, k = m + 1 := ⟨k - 1, by omega⟩
  unfold Px.sketch_Make.f
  by_cases h1 : n < 1
  · rw [if_pos h1]; simp [Px.sketch_Make.j0]
  · rw [if_neg h1, show decide (n > 64) = true by simp; omega]; simp [Px.sketch_Make.j0]

/-! the hashes' least -/
theorem foldl_least (s : Int) : ∀ (ts : List ByteArray) (b : Int), (ts.foldl (X.lstep s) b = b ∨ ∃ t ∈ ts, ts.foldl (X.lstep s) b = X.hsh t.data.toList s) ∧ ts.foldl (X.lstep s) b ≤ b ∧ ∀ t ∈ ts, ts.foldl (X.lstep s) b ≤ X.hsh t.data.toList s
  | [], b => ⟨.inl rfl, Int.le_refl _, by simp⟩
  | t :: ts, b => by
    obtain ⟨h1, h2, h3⟩ := foldl_least s ts (X.lstep s b t)
    have hl : X.lstep s b t ≤ b ∧ X.lstep s b t ≤ X.hsh t.data.toList s ∧ (X.lstep s b t = b ∨ X.lstep s b t = X.hsh t.data.toList s) := by unfold X.lstep; split <;> omega
    simp only [List.foldl_cons]
    refine ⟨?_, by omega, ?_⟩
    · rcases h1 with h1 | ⟨t', ht', h1⟩
      · rcases hl.2.2 with h | h
        · exact .inl (h1.trans h)
        · exact .inr ⟨t, List.mem_cons_self, h1.trans h⟩
      · exact .inr ⟨t', List.mem_cons_of_mem _ ht', h1⟩
    · intro t' ht'
      rcases List.mem_cons.1 ht' with rfl | h
      · omega
      · exact h3 t' h
theorem least_mem (s : Int) (l : List ByteArray) (h : l ≠ []) : ∃ t ∈ l, X.leastZ s l = X.hsh t.data.toList s := by
  cases l with
  | nil => exact absurd rfl h
  | cons t ts =>
    obtain ⟨h1, _, _⟩ := foldl_least s ts (X.hsh t.data.toList s)
    rcases h1 with h1 | ⟨t', ht', h1⟩
    · exact ⟨t, List.mem_cons_self, h1⟩
    · exact ⟨t', List.mem_cons_of_mem _ ht', h1⟩
theorem least_le (s : Int) (l : List ByteArray) (t : ByteArray) (h : t ∈ l) : X.leastZ s l ≤ X.hsh t.data.toList s := by
  cases l with
  | nil => cases h
  | cons t0 ts =>
    obtain ⟨_, h2, h3⟩ := foldl_least s ts (X.hsh t0.data.toList s)
    rcases List.mem_cons.1 h with rfl | h
    · exact h2
    · exact h3 t h
theorem least_congr (s : Int) (l l' : List ByteArray) (h : ∀ t, t ∈ l ↔ t ∈ l') : X.leastZ s l = X.leastZ s l' := by
  by_cases hl : l = []
  · subst hl
    have : l' = [] := List.eq_nil_iff_forall_not_mem.2 fun t ht => by have := (h t).2 ht; cases this
    rw [this]
  · have hl' : l' ≠ [] := by
      rintro rfl
      exact hl (List.eq_nil_iff_forall_not_mem.2 fun t ht => by have := (h t).1 ht; cases this)
    obtain ⟨t, ht, e⟩ := least_mem s l hl
    obtain ⟨t', ht', e'⟩ := least_mem s l' hl'
    have h1 := least_le s l t' ((h t').2 ht')
    have h2 := least_le s l' t ((h t).1 ht)
    omega
theorem hsh_bd (l : List UInt8) (s : Int) : 0 ≤ X.hsh l s ∧ X.hsh l s < 2147483647 := by unfold X.hsh; omega
theorem least_bd (s : Int) (l : List ByteArray) (h : l ≠ []) : 0 ≤ X.leastZ s l ∧ X.leastZ s l < 2147483647 := by
  obtain ⟨t, _, e⟩ := least_mem s l h
  rw [e]; exact hsh_bd _ _

/-! Ints, Strings -/
theorem drop_iff {α : Type} [DecidableEq α] (a b : List α) (i : Nat) (hi : i < a.length) (hi' : i < b.length) : decide (a.drop i = b.drop i) = (decide (a[i] = b[i]) && decide (a.drop (i + 1) = b.drop (i + 1))) := by
  rw [List.drop_eq_getElem_cons hi, List.drop_eq_getElem_cons hi', ← Bool.decide_and]
  exact decide_eq_decide.2 ⟨fun h => List.cons.inj h, fun ⟨h1, h2⟩ => by rw [h1, h2]⟩
theorem ints_loop (a b : List Int) (hm : a.length ≤ 9223372036854775807) (hl : a.length = b.length) : ∀ (d i k : Nat), i + d = a.length → d < k → Px.cleanseref05_Ints.l0 k a b (i : Int) = some (decide (a.drop i = b.drop i))
  | 0, i, k, h, hk => by
    obtain ⟨k, rfl⟩ : ∃ m, k = m + 1 := ⟨k - 1, by omega⟩
    simp only [Px.cleanseref05_Ints.l0]
    rw [if_neg (by omega), List.drop_of_length_le (by omega), List.drop_of_length_le (by omega)]
    simp
  | d + 1, i, k, h, hk => by
    obtain ⟨k, rfl⟩ : ∃ m, k = m + 1 := ⟨k - 1, by omega⟩
    have hi : i < a.length := by omega
    have hi' : i < b.length := by omega
    simp only [Px.cleanseref05_Ints.l0]
    rw [if_pos (by omega), if_pos (by omega), if_pos (by omega), rd_at hi, rd_at hi', drop_iff a b i hi hi', wrap_succ (by omega) (by omega)]
    by_cases e : a[i] = b[i]
    · rw [if_pos e, show ((i : Int) + 1) = ((i + 1 : Nat) : Int) by omega, ints_loop a b hm hl d (i + 1) k (by omega) (by omega)]
      simp [e]
    · rw [if_neg e]
      simp [e]
theorem ints_spec (a b : List Int) (hm : a.length ≤ 9223372036854775807) (k : Nat) (hk : a.length < k) : Px.cleanseref05_Ints.f k a b = some (decide (a = b)) := by
  unfold Px.cleanseref05_Ints.f
  by_cases h : a.length = b.length
  · rw [if_pos (by omega), show (0 : Int) = ((0 : Nat) : Int) from rfl, ints_loop a b hm h a.length 0 k (by omega) hk]
    simp
  · rw [if_neg (by omega)]
    simp; intro e; exact h (by rw [e])
theorem toList_inj {a b : ByteArray} : a.toList = b.toList ↔ a = b := by
  constructor
  · intro h
    have h2 : a.data.toList = b.data.toList := by simpa [ByteArray.toList_eq] using h
    cases a; cases b; congr; exact Array.ext' h2
  · intro h; rw [h]
theorem strings_loop (a b : List ByteArray) (hm : a.length ≤ 9223372036854775807) (hl : a.length = b.length) : ∀ (d i k : Nat), i + d = a.length → d < k → Px.cleanseref05_Strings.l0 k a b (i : Int) = some (decide (a.drop i = b.drop i))
  | 0, i, k, h, hk => by
    obtain ⟨k, rfl⟩ : ∃ m, k = m + 1 := ⟨k - 1, by omega⟩
    simp only [Px.cleanseref05_Strings.l0]
    rw [if_neg (by omega), List.drop_of_length_le (by omega), List.drop_of_length_le (by omega)]
    simp
  | d + 1, i, k, h, hk => by
    obtain ⟨k, rfl⟩ : ∃ m, k = m + 1 := ⟨k - 1, by omega⟩
    have hi : i < a.length := by omega
    have hi' : i < b.length := by omega
    simp only [Px.cleanseref05_Strings.l0]
    rw [if_pos (by omega), if_pos (by omega), if_pos (by omega), rdOf_at hi, rdOf_at hi', drop_iff a b i hi hi', wrap_succ (by omega) (by omega)]
    by_cases e : a[i] = b[i]
    · rw [if_pos (by rw [e]), show ((i : Int) + 1) = ((i + 1 : Nat) : Int) by omega, strings_loop a b hm hl d (i + 1) k (by omega) (by omega)]
      simp [e]
    · rw [if_neg (fun h => e (toList_inj.1 h))]
      simp [e]
theorem strings_spec (a b : List ByteArray) (hm : a.length ≤ 9223372036854775807) (k : Nat) (hk : a.length < k) : Px.cleanseref05_Strings.f k a b = some (decide (a = b)) := by
  unfold Px.cleanseref05_Strings.f
  by_cases h : a.length = b.length
  · rw [if_pos (by omega), show (0 : Int) = ((0 : Nat) : Int) from rfl, strings_loop a b hm h a.length 0 k (by omega) hk]
    simp
  · rw [if_neg (by omega)]
    simp; intro e; exact h (by rw [e])
/-- The number of a sketch out of a byte. -/
theorem size_of (a : Int) (h0 : 0 ≤ a) (h1 : a ≤ 255) : ∃ n : Nat, wrap64 (1 + (Int.tmod (wrap64 a) 64)) = (n : Int) ∧ 1 ≤ n ∧ n ≤ 64 := by
  rw [wrap_id (i := a) (by omega) (by omega), Int.tmod_eq_emod_of_nonneg h0, wrap_id (i := 1 + a % 64) (by omega) (by omega)]
  exact ⟨(1 + a % 64).toNat, by omega, by omega, by omega⟩
end Go.Proofs.YtiobkccmgigmhaaDoor.Pl
