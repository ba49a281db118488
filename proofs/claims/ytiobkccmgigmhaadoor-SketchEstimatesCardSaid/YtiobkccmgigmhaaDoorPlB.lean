/- What the plain functions of layer 5 come to: Valid, Union. -/
import Derived.Test.YtiobkccmgigmhaaDoorPlA
import Derived.Test.YtiobkccmgigmhaaDoorPx3
import Derived.Test.YtiobkccmgigmhaaDoorPx4
set_option linter.unusedVariables false
set_option linter.unusedSimpArgs false
namespace Go.Proofs.YtiobkccmgigmhaaDoor.Pl
open Go.RowKit Go.Proofs.YtiobkccmgigmhaaDoorW.PrintWords Go.Proofs.YtiobkccmgigmhaaDoorW.PrintMore

/-! a sketch -/
theorem right_iff (l : List Int) : X.rightB l = true ↔ 0 < l.length ∧ l.length ≤ 64 ∧ ((∀ x ∈ l, x = -1) ∨ (∀ x ∈ l, 0 ≤ x ∧ x < 2147483647)) := by
  unfold X.rightB
  by_cases h0 : l.length = 0
  · rw [if_pos h0]; simp [h0]
  · by_cases h1 : 64 < l.length
    · rw [if_neg h0, if_pos h1]; simp; omega
    · rw [if_neg h0, if_neg h1]
      have hp : 0 < l.length := by omega
      have hr : rd l 0 = l[0] := rd_at (i := 0) hp
      have hmem : l[0] ∈ l := List.getElem_mem _
      by_cases h2 : rd l 0 = -1
      · rw [if_pos h2]
        rw [hr] at h2
        constructor
        · intro h
          refine ⟨hp, by omega, .inl fun x hx => ?_⟩
          have h' : l.any (X.outB (-1) (-1)) = false := by simpa using h
          rw [List.any_eq_false] at h'
          have := h' x hx
          simp [X.outB] at this; omega
        · rintro ⟨_, _, h | h⟩
          · have h' : l.any (X.outB (-1) (-1)) = false := by
              rw [List.any_eq_false]
              intro x hx
              rw [h x hx]; simp [X.outB]
            rw [h']; rfl
          · have := h _ hmem; omega
      · rw [if_neg h2]
        rw [hr] at h2
        constructor
        · intro h
          refine ⟨hp, by omega, .inr fun x hx => ?_⟩
          have h' : l.any (X.outB 0 2147483646) = false := by simpa using h
          rw [List.any_eq_false] at h'
          have := h' x hx
          simp [X.outB] at this; omega
        · rintro ⟨_, _, h | h⟩
          · exact absurd (h _ hmem) h2
          · have h' : l.any (X.outB 0 2147483646) = false := by
              rw [List.any_eq_false]
              intro x hx
              have := h x hx
              simp [X.outB]; omega
            rw [h']; rfl
theorem makeZ_right (l : List ByteArray) (n : Nat) (h1 : 1 ≤ n) (hn : n ≤ 64) : X.rightB (makeZ l n) = true := by
  rw [right_iff, makeZ_length]
  refine ⟨by omega, hn, ?_⟩
  by_cases hl : l = []
  · subst hl
    refine .inl fun x hx => ?_
    simp [makeZ, X.leastZ] at hx
    omega
  · refine .inr fun x hx => ?_
    obtain ⟨i, _, rfl⟩ := List.mem_map.1 hx
    exact least_bd _ _ hl

/-! Valid -/
def okAt (l : List Int) (x : Int) : Bool := decide (-1 ≤ x) && (decide (x < 2147483647) && (decide (x < 0) == decide (rd l 0 < 0)))
theorem valid_loop (l : List Int) (hm : l.length ≤ 9223372036854775807) (hp : 0 < l.length) : ∀ (d i k : Nat), i + d = l.length → d < k → Px.cleanseref05_Valid.l0 k l (i : Int) = some ((l.drop i).all (okAt l))
  | 0, i, k, h, hk => by
    obtain ⟨k, rfl⟩ : ∃ m, k = m + 1 := ⟨k - 1, by omega⟩
    simp only [Px.cleanseref05_Valid.l0]
    rw [if_neg (by omega), List.drop_of_length_le (by omega)]
    rfl
  | d + 1, i, k, h, hk => by
    obtain ⟨k, rfl⟩ : ∃ m, k = m + 1 := ⟨k - 1, by omega⟩
    have hi : i < l.length := by omega
    simp only [Px.cleanseref05_Valid.l0]
    rw [if_pos (by omega), if_pos (by omega), rd_at hi, List.drop_eq_getElem_cons hi, List.all_cons, wrap_succ (by omega) (by omega), show ((i : Int) + 1) = ((i + 1 : Nat) : Int) by omega, valid_loop l hm hp d (i + 1) k (by omega) (by omega)]
    generalize l[i] = x
    unfold okAt
    by_cases c1 : x < -1
    · rw [if_pos c1, show decide (-1 ≤ x) = false by simp; omega]; simp
    · rw [if_neg c1, show decide (-1 ≤ x) = true by simp; omega]
      by_cases c2 : x ≥ 2147483647
      · rw [if_pos c2, show decide (x < 2147483647) = false by simp; omega]; simp
      · rw [if_neg c2, if_pos (by omega : (0 : Int) < (l.length : Int)), show decide (x < 2147483647) = true by simp; omega]
        by_cases c3 : decide (x < 0) = decide (rd l 0 < 0)
        · rw [c3]; simp
        · rw [if_pos (by simpa using c3)]
          simp; intro h; exact absurd (by simpa using h) c3
theorem valid_spec (l : List Int) (hm : l.length ≤ 9223372036854775807) (k : Nat) (hk : 66 < k) : Px.cleanseref05_Valid.f k l = some (X.rightB l) := by
  obtain ⟨k, rfl⟩ : ∃ m, k = m + 1 := ⟨k - 1, by omega⟩
  unfold Px.cleanseref05_Valid.f
  by_cases h0 : l.length < 1
  · rw [if_pos (by omega), show X.rightB l = false by unfold X.rightB; rw [if_pos (by omega)]]
    simp [Px.cleanseref05_Valid.j0]
  · rw [if_neg (by omega)]
    by_cases h1 : 64 < l.length
    · rw [show decide ((l.length : Int) > 64) = true by simp; omega, show X.rightB l = false by unfold X.rightB; rw [if_neg (by omega), if_pos h1]]
      simp [Px.cleanseref05_Valid.j0]
    · rw [show decide ((l.length : Int) > 64) = false by simp; omega]
      simp only [Px.cleanseref05_Valid.j0]
      rw [if_neg (by decide), show (0 : Int) = ((0 : Nat) : Int) from rfl, valid_loop l hm (by omega) l.length 0 k (by omega) (by omega), List.drop_zero]
      congr 1
      rw [Bool.eq_iff_iff, right_iff, List.all_eq_true]
      have hp : 0 < l.length := by omega
      have hr : rd l 0 = l[0] := rd_at (i := 0) hp
      have hmem : l[0] ∈ l := List.getElem_mem _
      constructor
      · intro h
        refine ⟨hp, by omega, ?_⟩
        have h' : ∀ x ∈ l, -1 ≤ x ∧ x < 2147483647 ∧ (x < 0 ↔ l[0] < 0) := fun x hx => by
          have := h x hx
          unfold okAt at this
          rw [hr] at this
          simpa using this
        by_cases c : l[0] < 0
        · exact .inl fun x hx => by have := h' x hx; omega
        · exact .inr fun x hx => by have := h' x hx; omega
      · rintro ⟨_, _, h | h⟩ x hx
        · have h1 := h x hx; have h2 := h _ hmem
          unfold okAt; rw [hr, h1, h2]; decide
        · have h1 := h x hx; have h2 := h _ hmem
          unfold okAt; rw [hr]; simp; omega

/-! Union -/
def uF (a b : List Int) (x y : Int) : Int := if rd a 0 = -1 then y else if rd b 0 = -1 then x else if y < x then y else x
def uZ (a b : List Int) : List Int := List.zipWith (uF a b) a b
theorem uZ_length (a b : List Int) (h : a.length = b.length) : (uZ a b).length = a.length := by simp [uZ, h]
theorem empty_spec (l : List Int) (h : 0 < l.length) : Px.sketch_empty.f l = some (rd l 0 == -1) := by unfold Px.sketch_empty.f; rw [if_pos (by omega)]
theorem union_loop (a b : List Int) (hl : a.length = b.length) (hp : 0 < a.length) (hm : a.length ≤ 9223372036854775807) : ∀ (d i k : Nat) (xs : List Int), i + d = a.length → d < k → xs.length = a.length → xs.take i = (uZ a b).take i → xs.drop i = a.drop i →
    Px.sketch_Union.l0 k a b xs b (b.length : Int) (i : Int) = some (uZ a b, 0)
  | 0, i, k, xs, h, hk, hx, ht, hd => by
    obtain ⟨k, rfl⟩ : ∃ m, k = m + 1 := ⟨k - 1, by omega⟩
    simp only [Px.sketch_Union.l0]
    rw [if_neg (by omega)]
    rw [List.take_of_length_le (by omega), List.take_of_length_le (by rw [uZ_length _ _ hl]; omega)] at ht
    rw [ht]
  | d + 1, i, k, xs, h, hk, hx, ht, hd => by
    obtain ⟨k, rfl⟩ : ∃ m, k = m + 1 := ⟨k - 1, by omega⟩
    have hi : i < a.length := by omega
    have hib : i < b.length := by omega
    have hix : i < xs.length := by omega
    have hxa : xs[i] = a[i] := by
      have h1 : (xs.drop i)[0]? = (a.drop i)[0]? := by rw [hd]
      simpa [hi, hix] using h1
    have hu : i < (uZ a b).length := by rw [uZ_length _ _ hl]; exact hi
    have hua : (uZ a b)[i] = uF a b a[i] b[i] := by simp [uZ]
    have step : ∀ v, uF a b a[i] b[i] = v → Px.sketch_Union.l0 k a b (xs.set i v) b (b.length : Int) ((i + 1 : Nat) : Int) = some (uZ a b, 0) := by
      intro v hv
      refine union_loop a b hl hp hm d (i + 1) k _ (by omega) (by omega) (by simpa using hx) ?_ ?_
      · rw [List.take_succ_eq_append_getElem (by simpa using hix), List.take_succ_eq_append_getElem hu, hua, hv, List.take_set_of_le (Nat.le_refl _), ht]
        simp
      · rw [List.drop_set_of_lt (by omega)]
        have h1 := congrArg (List.drop 1) hd
        simpa [List.drop_drop, Nat.add_comm] using h1
    have same : xs = xs.set i a[i] := by rw [← hxa]; simp
    simp only [Px.sketch_Union.l0]
    rw [if_pos (by omega), if_pos (by omega), if_pos (by omega), empty_spec a hp]
    simp only [Option.bind_some]
    rw [wrap_succ (by omega) (by omega), show ((i : Int) + 1) = ((i + 1 : Nat) : Int) by omega, Int.toNat_natCast, rd_at hib, rd_at hix, hxa]
    by_cases c1 : rd a 0 = -1
    · rw [if_pos (by simpa using c1), if_pos (by omega)]
      exact step _ (by unfold uF; rw [if_pos c1])
    · rw [if_neg (by simpa using c1), empty_spec b (by omega)]
      simp only [Option.bind_some]
      by_cases c2 : rd b 0 = -1
      · rw [if_pos (by simpa using c2)]
        have := step _ (show uF a b a[i] b[i] = a[i] by unfold uF; rw [if_neg c1, if_pos c2])
        rwa [← same] at this
      · rw [if_neg (by simpa using c2), if_pos (by omega)]
        by_cases c3 : b[i] < a[i]
        · rw [if_pos c3]
          exact step _ (by unfold uF; rw [if_neg c1, if_neg c2, if_pos c3])
        · rw [if_neg c3]
          have := step _ (show uF a b a[i] b[i] = a[i] by unfold uF; rw [if_neg c1, if_neg c2, if_neg c3])
          rwa [← same] at this
theorem union_spec (a b : List Int) (ha : X.rightB a = true) (hb : X.rightB b = true) (hl : a.length = b.length) (k : Nat) (hk : 66 < k) : Px.sketch_Union.f k a b = some (uZ a b, 0) := by
  obtain ⟨k, rfl⟩ : ∃ m, k = m + 1 := ⟨k - 1, by omega⟩
  obtain ⟨h1, h2, _⟩ := (right_iff a).1 ha
  unfold Px.sketch_Union.f X.sketch_right.f
  simp only [Option.bind_some, ha, hb, if_true]
  rw [show ((a.length : Int) != (b.length : Int)) = false by simp; omega]
  simp only [Px.sketch_Union.j0]
  rw [if_neg (by decide), X.slices_Clone_int_int.f, if_pos (by omega)]
  simp only [Option.bind_some]
  rw [show (0 : Int) = ((0 : Nat) : Int) from rfl]
  exact union_loop a b hl h1 (by omega) a.length 0 k a (by omega) (by omega) rfl (by simp) rfl
theorem union_bad (a b : List Int) (h : ¬ (X.rightB a = true ∧ X.rightB b = true ∧ a.length = b.length)) (k : Nat) (hk : 0 < k) : Px.sketch_Union.f k a b = some ([], 1) := by
  obtain ⟨k, rfl⟩ : ∃ m, k = m + 1 := ⟨k - 1, by omega⟩
  unfold Px.sketch_Union.f X.sketch_right.f
  simp only [Option.bind_some]
  by_cases ha : X.rightB a = true
  · rw [if_pos ha]
    by_cases hb : X.rightB b = true
    · rw [if_pos hb, show ((a.length : Int) != (b.length : Int)) = true by simp; intro e; exact h ⟨ha, hb, by omega⟩]
      simp [Px.sketch_Union.j0]
    · rw [if_neg hb]; simp [Px.sketch_Union.j0]
  · rw [if_neg ha]; simp [Px.sketch_Union.j0]
theorem least_append (s : Int) (l m : List ByteArray) (hl : l ≠ []) (hm : m ≠ []) : X.leastZ s (l ++ m) = if X.leastZ s m < X.leastZ s l then X.leastZ s m else X.leastZ s l := by
  obtain ⟨t, ht, e⟩ := least_mem s (l ++ m) (by simp [hl])
  obtain ⟨t1, ht1, e1⟩ := least_mem s l hl
  obtain ⟨t2, ht2, e2⟩ := least_mem s m hm
  have h1 := least_le s (l ++ m) t1 (List.mem_append_left _ ht1)
  have h2 := least_le s (l ++ m) t2 (List.mem_append_right _ ht2)
  rcases List.mem_append.1 ht with h | h
  · have := least_le s l t h
    split <;> omega
  · have := least_le s m t h
    split <;> omega
theorem makeZ_head (l : List ByteArray) (n : Nat) (h1 : 1 ≤ n) : rd (makeZ l n) 0 = X.leastZ 0 l := by
  rw [show (0 : Int) = ((0 : Nat) : Int) from rfl, rd_at (by rw [makeZ_length]; omega), makeZ_at]
theorem makeZ_empty (l : List ByteArray) (n : Nat) (h1 : 1 ≤ n) : rd (makeZ l n) 0 = -1 ↔ l = [] := by
  rw [makeZ_head l n h1]
  constructor
  · intro h
    by_cases e : l = []
    · exact e
    · have := least_bd 0 l e; omega
  · rintro rfl; rfl
theorem union_make (l m : List ByteArray) (n : Nat) (h1 : 1 ≤ n) : uZ (makeZ l n) (makeZ m n) = makeZ (l ++ m) n := by
  refine List.ext_getElem (by rw [uZ_length _ _ (by simp [makeZ_length])]; simp [makeZ_length]) fun i hi hi' => ?_
  simp only [uZ, List.getElem_zipWith, makeZ_at]
  unfold uF
  by_cases c1 : l = []
  · rw [if_pos ((makeZ_empty l n h1).2 c1), c1]; simp
  · rw [if_neg (fun h => c1 ((makeZ_empty l n h1).1 h))]
    by_cases c2 : m = []
    · rw [if_pos ((makeZ_empty m n h1).2 c2), c2]; simp
    · rw [if_neg (fun h => c2 ((makeZ_empty m n h1).1 h)), least_append _ _ _ c1 c2]
theorem makeZ_congr (l m : List ByteArray) (n : Nat) (h : ∀ t, t ∈ l ↔ t ∈ m) : makeZ l n = makeZ m n := List.map_congr_left fun i _ => least_congr _ _ _ h
end Go.Proofs.YtiobkccmgigmhaaDoor.Pl
