/- What the plain functions of layer 5 come to: Bands. -/
import Derived.Test.YtiobkccmgigmhaaDoorPlC
import Derived.Test.YtiobkccmgigmhaaDoorPx7
import Derived.Lib.ItoaLen
set_option linter.unusedVariables false
set_option linter.unusedSimpArgs false
namespace Go.Proofs.YtiobkccmgigmhaaDoor.Pl
open Go.RowKit Go.Proofs.YtiobkccmgigmhaaDoorW.PrintWords Go.Proofs.YtiobkccmgigmhaaDoorW.PrintMore

def I64 (x : Int) : Prop := -9223372036854775808 ≤ x ∧ x ≤ 9223372036854775807
def it (x : Int) : ByteArray := ⟨(Lib.itoa x).toArray⟩
theorem itoa_f (x : Int) (h : I64 x) : X.strconv_Itoa.f x = some (it x) := by unfold X.strconv_Itoa.f; rw [if_pos h.1, if_pos h.2]; rfl
theorem dec_f (x : Int) (h : I64 x) : X.cleanseref02_Decimal.f x = some (it x) := by unfold X.cleanseref02_Decimal.f; rw [if_pos h.1, if_pos h.2]; rfl
theorem it_size (x : Int) (h : I64 x) : (it x).size ≤ 21 := by
  show (Lib.itoa x).toArray.size ≤ 21
  rw [List.size_toArray]
  have hb := h.1; have hc := h.2
  unfold Lib.itoa
  split
  · rw [List.length_cons, Lib.decDigits_length]
    have := Lib.nDigits_le20 x.natAbs (by omega)
    omega
  · rw [Lib.decDigits_length]
    have := Lib.nDigits_le20 x.toNat (by omega)
    omega
/-- The numbers with dots between. -/
def dots : List Int → List UInt8
  | [] => []
  | x :: r => Lib.itoa x ++ (r.map fun y => 46 :: Lib.itoa y).flatten
theorem dots_snoc (l : List Int) (x : Int) (h : l ≠ []) : dots (l ++ [x]) = dots l ++ 46 :: Lib.itoa x := by
  cases l with
  | nil => exact absurd rfl h
  | cons y r => simp [dots]
theorem dots_length (l : List Int) (h : ∀ x ∈ l, I64 x) : (dots l).length ≤ 22 * l.length := by
  have hi : ∀ x, I64 x → (Lib.itoa x).length ≤ 21 := fun x hx => it_size x hx
  cases l with
  | nil => simp [dots]
  | cons y r =>
    have hr : ∀ (r : List Int), (∀ x ∈ r, I64 x) → ((r.map fun y => 46 :: Lib.itoa y).flatten).length ≤ 22 * r.length := by
      intro r
      induction r with
      | nil => simp
      | cons z r ih =>
        intro hz
        have h1 := ih fun x hx => hz x (List.mem_cons_of_mem _ hx)
        have h2 := hi z (hz z List.mem_cons_self)
        simp only [List.map_cons, List.flatten_cons, List.length_append, List.length_cons]
        omega
    have h1 := hr r fun x hx => h x (List.mem_cons_of_mem _ hx)
    have h2 := hi y (h y List.mem_cons_self)
    simp only [dots, List.length_append, List.length_cons]
    omega
theorem join_dots (l : List Int) : Lib.join ((l.map it).map (·.data.toList)) [46] = dots l := by
  cases l with
  | nil => rfl
  | cons x r =>
    rw [List.map_cons, List.map_cons, Lib.join_cons]
    simp only [Lib.joinTail, dots, List.map_map]
    rfl
def key (b : Nat) (row : List Int) : ByteArray := ⟨(Lib.itoa b ++ 58 :: dots row).toArray⟩
def rowOf (a : List Int) (m b : Nat) : List Int := (a.drop (b * m)).take m
def bandsZ (a : List Int) (m : Nat) : List ByteArray := (List.range (a.length / m)).map fun b => key b (rowOf a m b)
theorem band_le {n m b : Nat} (h : b < n / m) : b * m + m ≤ n := by
  have h1 : (b + 1) * m ≤ n / m * m := Nat.mul_le_mul_right m h
  have h2 := Nat.div_mul_le_self n m
  rw [Nat.add_mul, Nat.one_mul] at h1
  omega
theorem rowOf_length {a : List Int} {m b : Nat} (h : b < a.length / m) : (rowOf a m b).length = m := by
  have := band_le h
  rw [rowOf, List.length_take, List.length_drop]; omega
theorem rowOf_at {a : List Int} {m b j : Nat} (h : b < a.length / m) (hj : j < m) : ∃ h1 h2, (rowOf a m b)[j]'h1 = a[b * m + j]'h2 := by
  have := band_le h
  exact ⟨by rw [rowOf_length h]; exact hj, by omega, by simp [rowOf]⟩

theorem wrap_nat (n : Nat) (h : n ≤ 1000000) : wrap64 (n : Int) = (n : Int) := wrap_id (by omega) (by omega)
theorem idx_wrap {b m j : Nat} (h : b * m + j ≤ 1000) : wrap64 (wrap64 ((b : Int) * (m : Int)) + (j : Int)) = ((b * m + j : Nat) : Int) := by
  rw [show (b : Int) * (m : Int) = ((b * m : Nat) : Int) from (Int.natCast_mul b m).symm]
  generalize b * m = q at *
  rw [wrap_id (i := (q : Int)) (by omega) (by omega), wrap_id (by omega) (by omega)]
  omega
theorem rd_row {a : List Int} {m b j : Nat} (h : b < a.length / m) (hj : j < m) : rd a ((b * m + j : Nat) : Int) = (rowOf a m b)[j]'(by rw [rowOf_length h]; exact hj) := by
  have hb := band_le h
  rw [rd_at (by omega)]
  obtain ⟨h1, h2, e⟩ := rowOf_at h hj
  exact e.symm
theorem row_mem {a : List Int} {m b : Nat} (hv : ∀ x ∈ a, I64 x) : ∀ x ∈ rowOf a m b, I64 x := fun x hx => hv x (List.mem_of_mem_drop (List.mem_of_mem_take hx))
theorem key_eq (b : Nat) (row : List Int) : it (b : Nat) ++ (⟨#[58]⟩ : ByteArray) ++ (⟨(dots row).toArray⟩ : ByteArray) = key b row := by
  unfold it key
  apply ByteArray.ext
  apply Array.ext'
  simp [ByteArray.data_append]
theorem bands_inner (a : List Int) (m b : Nat) (h : b < a.length / m) (h64 : a.length ≤ 64) (hv : ∀ x ∈ a, I64 x) (acc : List ByteArray) (hacc : acc.length = b) (R : List ByteArray × Int) (K : Nat)
    (next : ∀ k, K < k → Px.sketch_Bands.l0 k a (m : Int) (acc ++ [key b (rowOf a m b)]) ((a.length / m : Nat) : Int) ((b + 1 : Nat) : Int) = some R) :
    ∀ (d j k : Nat) (parts : List ByteArray), j + d = m → K + d + 1 < k → parts.length = m → parts.take j = ((rowOf a m b).map it).take j →
      Px.sketch_Bands.l1 k a (m : Int) acc (b : Int) parts ((a.length / m : Nat) : Int) (b : Int) (m : Int) (j : Int) = some R
  | 0, j, k, parts, hj, hk, hp, ht => by
    obtain ⟨k, rfl⟩ : ∃ n, k = n + 1 := ⟨k - 1, by omega⟩
    have hb := band_le h
    have hb64 : b ≤ 64 := by have := Nat.div_le_self a.length m; omega
    have e : parts = (rowOf a m b).map it := by
      rw [List.take_of_length_le (by omega), List.take_of_length_le (by rw [List.length_map, rowOf_length h]; omega)] at ht
      exact ht
    have hdl := dots_length _ (row_mem (m := m) (b := b) hv)
    rw [rowOf_length h] at hdl
    have hI : I64 (b : Nat) := ⟨by omega, by omega⟩
    have hs := it_size _ hI
    have hj : X.strings_Join.f parts (⟨#[46]⟩ : ByteArray) = some ⟨(dots (rowOf a m b)).toArray⟩ := by
      rw [e]
      unfold X.strings_Join.f
      rw [show (⟨#[46]⟩ : ByteArray).data.toList = [46] from rfl, join_dots, if_pos (by rw [List.length_map, rowOf_length h]; omega), if_pos (by omega)]
    simp only [Px.sketch_Bands.l1]
    rw [if_neg (by omega), itoa_f _ hI]
    simp only [Option.bind_some]
    rw [if_pos (by omega), hj]
    simp only [Option.bind_some]
    rw [if_pos (by
      have h1 : (it (b : Nat) ++ (⟨#[58]⟩ : ByteArray)).size = (it (b : Nat)).size + 1 := ByteArray.size_append
      have h2 : (⟨(dots (rowOf a m b)).toArray⟩ : ByteArray).size = (dots (rowOf a m b)).length := List.size_toArray
      omega), if_pos (by omega), key_eq, wrap_succ (by omega) (by omega), show ((b : Int) + 1) = ((b + 1 : Nat) : Int) by omega]
    exact next k (by omega)
  | d + 1, j, k, parts, hj, hk, hp, ht => by
    obtain ⟨k, rfl⟩ : ∃ n, k = n + 1 := ⟨k - 1, by omega⟩
    have hb := band_le h
    have hjm : j < m := by omega
    have hrow : j < (rowOf a m b).length := by rw [rowOf_length h]; exact hjm
    have hI := row_mem (m := m) (b := b) hv _ (List.getElem_mem hrow)
    simp only [Px.sketch_Bands.l1]
    rw [if_pos (by omega), idx_wrap (by omega), if_pos (by omega), if_pos (by omega), rd_row h hjm, itoa_f _ hI]
    simp only [Option.bind_some]
    rw [if_pos (by omega), if_pos (by omega), wrap_succ (by omega) (by omega), show ((j : Int) + 1) = ((j + 1 : Nat) : Int) by omega, Int.toNat_natCast]
    refine bands_inner a m b h h64 hv acc hacc R K next d (j + 1) k _ (by omega) (by omega) (by simpa using hp) ?_
    rw [List.take_succ_eq_append_getElem (by simp; omega), List.take_succ_eq_append_getElem (by simpa using hrow), List.take_set_of_le (Nat.le_refl _), ht]
    simp
theorem bands_loop (a : List Int) (m : Nat) (h1 : 1 ≤ m) (h64 : a.length ≤ 64) (hm : m ≤ a.length) (hv : ∀ x ∈ a, I64 x) (d : Nat) : ∀ (b k : Nat), b + d = a.length / m → d * 70 + 5 < k →
    Px.sketch_Bands.l0 k a (m : Int) ((bandsZ a m).take b) ((a.length / m : Nat) : Int) (b : Int) = some (bandsZ a m, 0) := by
  have hlen : (bandsZ a m).length = a.length / m := by simp [bandsZ]
  induction d with
  | zero =>
    intro b k hb hk
    obtain ⟨k, rfl⟩ : ∃ n, k = n + 1 := ⟨k - 1, by omega⟩
    simp only [Px.sketch_Bands.l0]
    rw [if_neg (by omega), List.take_of_length_le (by omega)]
  | succ d ih =>
    intro b k hb hk
    obtain ⟨k, rfl⟩ : ∃ n, k = n + 1 := ⟨k - 1, by omega⟩
    have hlt : b < a.length / m := by omega
    simp only [Px.sketch_Bands.l0]
    rw [if_pos (by omega), if_pos (by omega), if_pos (by omega), Int.toNat_natCast, show (0 : Int) = ((0 : Nat) : Int) from rfl]
    refine bands_inner a m b hlt h64 hv _ (by rw [List.length_take, hlen]; omega) _ (d * 70 + 5) ?_ m 0 k _ (by omega) (by omega) (by simp) (by simp)
    intro k' hk'
    have e : (bandsZ a m).take b ++ [key b (rowOf a m b)] = (bandsZ a m).take (b + 1) := by
      rw [List.take_succ_eq_append_getElem (by omega)]
      simp [bandsZ]
    rw [e]
    exact ih (b + 1) k' (by omega) hk'
def bandsS (a : List Int) (m : Nat) : List ByteArray := if rd a 0 = -1 then [] else bandsZ a m
def bandsOk (a : List Int) (r : Int) : Prop := X.rightB a = true ∧ 1 ≤ r ∧ r ≤ a.length ∧ (a.length : Int) % r = 0
theorem right_I64 {a : List Int} (h : X.rightB a = true) : ∀ x ∈ a, I64 x := by
  obtain ⟨_, _, h | h⟩ := (right_iff a).1 h
  · intro x hx; have := h x hx; exact ⟨by omega, by omega⟩
  · intro x hx; have := h x hx; exact ⟨by omega, by omega⟩
theorem bands_spec (a : List Int) (m : Nat) (h : bandsOk a m) (k : Nat) (hk : 10000 < k) : Px.sketch_Bands.f k a (m : Int) = some (bandsS a m, 0) := by
  obtain ⟨ha, hm1, hm2, hmod⟩ := h
  obtain ⟨h1, h2, _⟩ := (right_iff a).1 ha
  obtain ⟨k, rfl⟩ : ∃ n, k = n + 1 := ⟨k - 1, by omega⟩
  have hd := Nat.div_le_self a.length m
  unfold Px.sketch_Bands.f X.sketch_right.f
  simp only [Option.bind_some, ha, if_true]
  rw [if_neg (by omega), if_neg (by omega), if_neg (by omega), hmod]
  simp only [Px.sketch_Bands.j0]
  rw [if_neg (by decide), empty_spec a h1]
  simp only [Option.bind_some]
  unfold bandsS
  by_cases c : rd a 0 = -1
  · rw [if_pos (by simpa using c), if_pos c]
  · rw [if_neg (by simpa using c), if_neg c, if_neg (by omega), show (a.length : Int) / (m : Int) = ((a.length / m : Nat) : Int) from (Int.natCast_ediv _ _).symm, wrap_nat _ (by omega), show (0 : Int) = ((0 : Nat) : Int) from rfl]
    exact bands_loop a m (by omega) h2 (by omega) (right_I64 ha) (a.length / m) 0 k (by omega) (by omega)
theorem bands_bad (a : List Int) (r : Int) (h : ¬ bandsOk a r) (k : Nat) (hk : 0 < k) : Px.sketch_Bands.f k a r = some ([], 1) := by
  obtain ⟨k, rfl⟩ : ∃ n, k = n + 1 := ⟨k - 1, by omega⟩
  unfold Px.sketch_Bands.f X.sketch_right.f
  simp only [Option.bind_some]
  by_cases ha : X.rightB a = true
  · rw [if_pos ha]
    by_cases c1 : r < 1
    · rw [if_pos c1]; simp [Px.sketch_Bands.j0]
    · rw [if_neg c1]
      by_cases c2 : r > (a.length : Int)
      · rw [if_pos c2]; simp [Px.sketch_Bands.j0]
      · rw [if_neg c2, if_neg (by omega)]
        have c3 : ((a.length : Int) % r != 0) = true := by
          rw [bne_iff_ne]
          intro e
          exact h ⟨ha, by omega, by omega, e⟩
        rw [c3]; simp [Px.sketch_Bands.j0]
  · rw [if_neg ha]; simp [Px.sketch_Bands.j0]
end Go.Proofs.YtiobkccmgigmhaaDoor.Pl
