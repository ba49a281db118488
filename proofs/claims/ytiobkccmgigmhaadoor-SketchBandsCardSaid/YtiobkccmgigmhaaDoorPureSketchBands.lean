/- The statement SketchBands over plain numbers, texts and lists. -/
import Derived.Test.YtiobkccmgigmhaaDoorPx13
import Derived.Test.YtiobkccmgigmhaaDoorPlG
set_option linter.unusedVariables false
set_option linter.unusedSimpArgs false
namespace Go.Proofs.YtiobkccmgigmhaaDoor.Pure
open Go.RowKit Go.Proofs.YtiobkccmgigmhaaDoorW.PrintWords Go.Proofs.YtiobkccmgigmhaaDoorW.PrintMore
theorem tl_beq (a b : ByteArray) : (a.toList == b.toList) = decide (a = b) := by
  rw [Bool.eq_iff_iff]; simp [Pl.toList_inj]
theorem bands_l2 (a b : List Int) (m : Nat) (y : List ByteArray) (h64 : a.length ≤ 64) (i : Nat) (hi : i < a.length / m) (K : Nat) (next : ∀ k, K < k → Px.cleanselaw05_SketchBands.l0 k a b (m : Int) true (Pl.bandsZ a m) y ((i + 1 : Nat) : Int) = some true) :
    ∀ (d j k : Nat), j + d = i → K + d + 1 < k → Px.cleanselaw05_SketchBands.l2 k a b (m : Int) true (Pl.bandsZ a m) y (i : Int) (j : Int) = some true := by
  have hle := Nat.div_le_self a.length m
  have hx := Pl.bandsZ_length a m
  intro d
  induction d with
  | zero =>
    intro j k h hk
    obtain ⟨k, rfl⟩ : ∃ m, k = m + 1 := ⟨k - 1, by omega⟩
    simp only [Px.cleanselaw05_SketchBands.l2]
    rw [if_neg (by omega), Pl.wrap_succ (by omega) (by omega)]
    exact next k (by omega)
  | succ d ih =>
    intro j k h hk
    obtain ⟨k, rfl⟩ : ∃ m, k = m + 1 := ⟨k - 1, by omega⟩
    simp only [Px.cleanselaw05_SketchBands.l2]
    rw [if_pos (by omega), if_pos (by omega), if_pos (by omega), if_pos (by omega), if_pos (by omega), Pl.rdOf_at (by omega), Pl.rdOf_at (by omega), Pl.wrap_succ (by omega) (by omega), if_neg]
    · exact ih (j + 1) k (by omega) (by omega)
    · rw [Pl.toList_inj, Pl.bandsZ_at, Pl.bandsZ_at, Pl.key_inj (by rw [Pl.rowOf_length (by omega), Pl.rowOf_length (by omega)])]
      rintro ⟨e, _⟩; omega
theorem bands_l1 (a b : List Int) (m : Nat) (y : List ByteArray) (hab : a.length = b.length) (h64 : a.length ≤ 64) (hm1 : 1 ≤ m) (hm : m ≤ a.length) (hy : y = [] ∨ y = Pl.bandsZ b m) (i : Nat) (hi : i < a.length / m) (K : Nat) (hK : 70 ≤ K) (next : ∀ k, K < k → Px.cleanselaw05_SketchBands.l0 k a b (m : Int) true (Pl.bandsZ a m) y ((i + 1 : Nat) : Int) = some true) :
    ∀ (d j k : Nat), j + d = y.length → K + i + d + 2 < k → Px.cleanselaw05_SketchBands.l1 k a b (m : Int) true (Pl.bandsZ a m) y (i : Int) (j : Int) = some true := by
  have hle := Nat.div_le_self a.length m
  have hx := Pl.bandsZ_length a m
  have hyl : y.length ≤ a.length / m := by
    rcases hy with rfl | rfl
    · simp
    · rw [Pl.bandsZ_length, hab]; exact Nat.le_refl _
  intro d
  induction d with
  | zero =>
    intro j k h hk
    obtain ⟨k, rfl⟩ : ∃ m, k = m + 1 := ⟨k - 1, by omega⟩
    simp only [Px.cleanselaw05_SketchBands.l1]
    rw [if_neg (by omega)]
    exact bands_l2 a b m y h64 i hi K next i 0 k (by omega) (by omega)
  | succ d ih =>
    intro j k h hk
    obtain ⟨k, rfl⟩ : ∃ m, k = m + 1 := ⟨k - 1, by omega⟩
    have hyZ : y = Pl.bandsZ b m := by
      rcases hy with rfl | rfl
      · simp at h
      · rfl
    have hj : j < y.length := by omega
    have hjb : j < b.length / m := by rw [← hab]; omega
    have hyj : rdOf ByteArray.empty y (j : Int) = Pl.key j (Pl.rowOf b m j) := by rw [Pl.rdOf_at hj]; subst hyZ; rw [Pl.bandsZ_at]
    have hxi : rdOf ByteArray.empty (Pl.bandsZ a m) (i : Int) = Pl.key i (Pl.rowOf a m i) := by rw [Pl.rdOf_at (by omega), Pl.bandsZ_at]
    have hlen : (Pl.rowOf a m i).length = (Pl.rowOf b m j).length := by rw [Pl.rowOf_length hi, Pl.rowOf_length hjb]
    have next' := ih (j + 1) k (by omega) (by omega)
    simp only [Px.cleanselaw05_SketchBands.l1]
    have hA := Lib.hid (Pl.wrap_succ (i := (i : Int)) (by omega) (by omega))
    have hJ := Lib.hid (Pl.wrap_succ (i := (j : Int)) (by omega) (by omega))
    rw [if_pos (by omega), hyj, hxi, tl_beq, hJ.out]
    by_cases c : i = j
    · subst c
      have hb1 := Pl.band_le hi
      have hb2 := Pl.succ_mul' i m
      have f6 := Pl.ints_spec (Pl.rowOf a m i) (Pl.rowOf b m i) (by rw [Pl.rowOf_length hi]; omega) k (by rw [Pl.rowOf_length hi]; omega)
      have f8 : (i : Int) < ((Pl.bandsZ a m).length : Int) := by omega
      have f9 : (0 : Int) ≤ (i : Int) := by omega
      clear hJ
      obtain ⟨e1, e2⟩ := Pl.prods hb1 h64
      have f1 : (((a.take ((((i + 1) * m : Nat) : Int)).toNat).drop (((i * m : Nat) : Int)).toNat)) = Pl.rowOf a m i := Pl.cut_row a m i
      have f2 : (((b.take ((((i + 1) * m : Nat) : Int)).toNat).drop (((i * m : Nat) : Int)).toNat)) = Pl.rowOf b m i := Pl.cut_row b m i
      have f3 : (i + 1) * m ≤ a.length := by rw [hb2]; exact hb1
      have f4 : (i + 1) * m ≤ b.length := by rw [← hab]; exact f3
      have f5 : i * m ≤ (i + 1) * m := by rw [hb2]; exact Nat.le_add_right _ _
      have f7 : (decide (Pl.key i (Pl.rowOf a m i) = Pl.key i (Pl.rowOf b m i)) != decide (Pl.rowOf a m i = Pl.rowOf b m i)) = false := by
        have hk7 := Pl.key_inj (b := i) (c := i) hlen
        by_cases e : Pl.rowOf a m i = Pl.rowOf b m i
        · rw [decide_eq_true e, decide_eq_true (hk7.2 ⟨rfl, e⟩)]; rfl
        · rw [decide_eq_false e, decide_eq_false (fun h => e (hk7.1 h).2)]; rfl
      clear hb1 hb2
      rw [if_pos rfl, e1]
      try simp only [hA.out]
      simp only [e2]
      generalize i * m = u at *
      generalize (i + 1) * m = v at *
      rw [if_pos (Int.natCast_nonneg _), if_pos (Int.ofNat_le.2 f5), if_pos (Int.ofNat_le.2 f3), if_pos (Int.natCast_nonneg _), if_pos (Int.ofNat_le.2 f5), if_pos (Int.ofNat_le.2 f4), f1, f2, f6]
      simp only [Option.bind_some]
      rw [if_pos f9, if_pos f8, if_pos f9, f7, if_neg (by decide)]
      exact next'
    · rw [if_neg (by omega), if_pos (by omega), if_pos (by omega), if_pos (by omega), if_neg]
      · exact next'
      · rw [decide_eq_false (by rw [Pl.key_inj hlen]; rintro ⟨e, _⟩; exact c e)]
        simp
theorem bands_l0 (a b : List Int) (m : Nat) (y : List ByteArray) (hab : a.length = b.length) (h64 : a.length ≤ 64) (hm1 : 1 ≤ m) (hm : m ≤ a.length) (hy : y = [] ∨ y = Pl.bandsZ b m) :
    ∀ (d i k : Nat), i + d = a.length / m → d * 200 + 80 < k → Px.cleanselaw05_SketchBands.l0 k a b (m : Int) true (Pl.bandsZ a m) y (i : Int) = some true := by
  have hle := Nat.div_le_self a.length m
  have hx := Pl.bandsZ_length a m
  have hyl : y.length ≤ a.length / m := by
    rcases hy with rfl | rfl
    · simp
    · rw [Pl.bandsZ_length, hab]; exact Nat.le_refl _
  intro d
  induction d with
  | zero =>
    intro i k h hk
    obtain ⟨k, rfl⟩ : ∃ m, k = m + 1 := ⟨k - 1, by omega⟩
    simp only [Px.cleanselaw05_SketchBands.l0]
    rw [if_neg (by omega)]
  | succ d ih =>
    intro i k h hk
    obtain ⟨k, rfl⟩ : ∃ m, k = m + 1 := ⟨k - 1, by omega⟩
    simp only [Px.cleanselaw05_SketchBands.l0]
    rw [if_pos (by omega)]
    exact bands_l1 a b m y hab h64 hm1 hm hy i (by omega) (d * 200 + 80) (by omega) (fun k hk => ih (i + 1) k (by omega) hk) y.length 0 k (by omega) (by omega)
theorem SketchBands : ∀ (l0 : List Int) (l1 : List Int) (a2 : Int), l0.length ≤ 9223372036854775807 → (∀ n ∈ l0, -9223372036854775808 ≤ n ∧ n ≤ 9223372036854775807) → l1.length ≤ 9223372036854775807 → (∀ n ∈ l1, -9223372036854775808 ≤ n ∧ n ≤ 9223372036854775807) → -9223372036854775808 ≤ a2 → a2 ≤ 9223372036854775807 → ∃ k, Px.cleanselaw05_SketchBands.f k l0 l1 a2 = some true := by
  intro a b r ma ha mb hb hr1 hr2
  obtain ⟨k, hK⟩ : ∃ k : Nat, k = 29999 := ⟨_, rfl⟩
  refine ⟨k + 1, ?_⟩
  unfold Px.cleanselaw05_SketchBands.f X.cleanselaw05_head.f
  simp only [Option.bind_some]
  by_cases c1 : (a.length : Int) > 100
  · rw [if_pos c1]; simp [Px.cleanselaw05_SketchBands.j0]
  rw [if_neg c1]
  by_cases c2 : a.length = b.length
  rotate_left
  · simp only [Px.cleanselaw05_SketchBands.j0]; rw [if_pos (by rw [bne_iff_ne]; omega)]
  simp only [Px.cleanselaw05_SketchBands.j0]
  rw [if_neg (by simp [c2])]
  by_cases ca : Pl.bandsOk a r
  rotate_left
  · rw [Pl.bands_bad a r ca k (by omega)]
    simp only [Option.bind_some]
    by_cases cb : Pl.bandsOk b r
    · obtain ⟨k, rfl⟩ : ∃ n, k = n + 1 := ⟨k - 1, by omega⟩
      obtain ⟨m, rfl⟩ : ∃ m : Nat, r = (m : Int) := ⟨r.toNat, by have := cb.2.1; omega⟩
      rw [Pl.bands_spec b m cb (k + 1) (by omega)]
      simp [Px.cleanselaw05_SketchBands.j1]
    · obtain ⟨k, rfl⟩ : ∃ n, k = n + 1 := ⟨k - 1, by omega⟩
      rw [Pl.bands_bad b r cb (k + 1) (by omega)]
      simp [Px.cleanselaw05_SketchBands.j1]
  obtain ⟨m, rfl⟩ : ∃ m : Nat, r = (m : Int) := ⟨r.toNat, by have := ca.2.1; omega⟩
  rw [Pl.bands_spec a m ca k (by omega)]
  simp only [Option.bind_some]
  by_cases cb : Pl.bandsOk b m
  rotate_left
  · rw [Pl.bands_bad b m cb k (by omega)]
    obtain ⟨k, rfl⟩ : ∃ n, k = n + 1 := ⟨k - 1, by omega⟩
    simp [Px.cleanselaw05_SketchBands.j1]
  rw [Pl.bands_spec b m cb k (by omega)]
  obtain ⟨k, rfl⟩ : ∃ n, k = n + 1 := ⟨k - 1, by omega⟩
  simp only [Option.bind_some, Px.cleanselaw05_SketchBands.j1]
  obtain ⟨ra, hm1, hm2, hmod⟩ := ca
  obtain ⟨h1, h64, hs⟩ := (Pl.right_iff a).1 ra
  have hq : 1 ≤ a.length / m := (Nat.one_le_div_iff (by omega)).2 (by omega)
  have hr0 : rd a 0 = a[0] := Pl.rd_at (i := 0) h1
  have h0 : rd a 0 = -1 ∨ 0 ≤ rd a 0 := by
    rcases hs with hs | hs
    · left; rw [hr0]; exact hs _ (List.getElem_mem _)
    · right; rw [hr0]; exact (hs _ (List.getElem_mem _)).1
  have hyy : Pl.bandsS b m = [] ∨ Pl.bandsS b m = Pl.bandsZ b m := by unfold Pl.bandsS; split <;> simp
  have e0 : (if (0 : Int) = 0 then Px.cleanselaw05_SketchBands.j1 (k + 1) a b (m : Int) true (Pl.bandsS a m) 0 (Pl.bandsS b m) (0 != 0) else Px.cleanselaw05_SketchBands.j1 (k + 1) a b (m : Int) true (Pl.bandsS a m) 0 (Pl.bandsS b m) true) = Px.cleanselaw05_SketchBands.j1 (k + 1) a b (m : Int) true (Pl.bandsS a m) 0 (Pl.bandsS b m) false := by rw [if_pos rfl]; rfl
  simp only [if_true, bne_self_eq_false, Bool.false_eq_true, if_false]
  rw [if_neg (by omega), if_neg (by omega)]
  obtain ⟨k, rfl⟩ : ∃ n, k = n + 1 := ⟨k - 1, by omega⟩
  rcases h0 with h0 | h0
  · have ex : Pl.bandsS a m = [] := if_pos h0
    rw [ex]
    obtain ⟨k, rfl⟩ : ∃ n, k = n + 1 := ⟨k - 1, by omega⟩
    simp only [List.length_nil]
    rw [if_pos (by omega), if_pos (by omega), h0]
    simp [Px.cleanselaw05_SketchBands.j2, Px.cleanselaw05_SketchBands.l0]
  · have ex : Pl.bandsS a m = Pl.bandsZ a m := if_neg (by omega)
    have hl := Pl.bandsZ_length a m
    rw [ex, if_neg (by omega), if_neg (by omega), show (a.length : Int) / (m : Int) = ((a.length / m : Nat) : Int) from (Int.natCast_ediv _ _).symm, Pl.wrap_nat _ (by have := Nat.div_le_self a.length m; omega), if_pos (by omega), if_pos (by omega)]
    have e : ((((Pl.bandsZ a m).length : Int) == 0) != decide (rd a 0 < 0)) = false := by
      have e1 : (((Pl.bandsZ a m).length : Int) == 0) = false := beq_eq_false_iff_ne.2 (by omega)
      have e2 : decide (rd a 0 < 0) = false := decide_eq_false (by omega)
      rw [e1, e2]; rfl
    rw [e]
    simp only [Px.cleanselaw05_SketchBands.j2]
    rw [if_neg (by decide)]
    have := Nat.div_le_self a.length m
    exact bands_l0 a b m _ c2 h64 (by omega) (by omega) hyy (a.length / m) 0 k (by omega) (by omega)
end Go.Proofs.YtiobkccmgigmhaaDoor.Pure
