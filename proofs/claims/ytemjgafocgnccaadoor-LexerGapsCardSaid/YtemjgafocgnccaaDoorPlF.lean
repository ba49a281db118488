/- The reference's scan answers as the plain laws of the lexer's: gaps, names, numbers, texts, symbols. -/
import Derived.Test.YtemjgafocgnccaaDoorPlE
import Derived.Test.YtemjgafocgnccaaDoorPx6
set_option linter.unusedVariables false
set_option linter.unusedSimpArgs false
namespace Go.Proofs.YtemjgafocgnccaaDoor.X
open Go.RowKit Go.Proofs.YtemjgafocgnccaaDoorW.PrintWords Go.Proofs.YtemjgafocgnccaaDoorW.PrintMore
theorem byte_nat (t : ByteArray) (i : Int) : ∃ n : Nat, n < 256 ∧ bt t i = (n : Int) := by
  have := bt_range t i
  exact ⟨(bt t i).toNat, by omega, by omega⟩
theorem gap_loop (t : ByteArray) (ht : t.size ≤ 100000) (i : Nat) : ∀ (d n k : Nat) (cm : Bool), i + n + d = t.size → d < k → Px.cleanseref07_Gap.l0 k t (i : Int) (n : Int) cm = some ((n + gapL cm ((bytesOf t).drop (i + n)) : Nat) : Int)
  | 0, n, k, cm, h, hk => by
    obtain ⟨k, rfl⟩ : ∃ m, k = m + 1 := ⟨k - 1, by omega⟩
    simp only [Px.cleanseref07_Gap.l0]
    rw [wrap_id (by omega) (by omega), if_neg (by omega), drop_end t (i + n) (by omega)]
    simp [gapL]
  | d + 1, n, k, cm, h, hk => by
    obtain ⟨k, rfl⟩ : ∃ m, k = m + 1 := ⟨k - 1, by omega⟩
    have ih := fun cm => gap_loop t ht i d (n + 1) k cm (by omega) (by omega)
    simp only [Px.cleanseref07_Gap.l0]
    rw [wrap_id (i := (i : Int) + (n : Int)) (by omega) (by omega), if_pos (by omega), if_pos (by omega), wrap_id (i := (n : Int) + 1) (by omega) (by omega), show ((n : Int) + 1) = ((n + 1 : Nat) : Int) by omega, ih, ih, ih, drop_at t (i + n) (by omega), show ((i + n : Nat) : Int) = (i : Int) + (n : Int) by omega]
    rw [show i + (n + 1) = i + n + 1 by omega]
    generalize bt t ((i : Int) + (n : Int)) = c
    simp only [gapL]
    by_cases e1 : c = 10
    · rw [if_pos e1, if_pos e1]; congr 1; omega
    rw [if_neg e1, if_neg e1]
    by_cases e2 : c = 35
    · rw [if_pos e2, if_pos e2]; congr 1; omega
    rw [if_neg e2, if_neg e2]
    by_cases e3 : cm = true
    · subst e3; rw [if_pos rfl, if_pos rfl]; congr 1; omega
    rw [if_neg e3, if_neg e3]
    have e3' : cm = false := by simpa using e3
    subst e3'
    by_cases e4 : c = 32
    · rw [if_pos e4, if_pos (.inl e4)]; congr 1; omega
    by_cases e5 : c = 9
    · rw [if_neg e4, if_pos e5, if_pos (.inr e5)]; congr 1; omega
    · rw [if_neg e4, if_neg e5, if_neg (by rintro (h | h); exact e4 h; exact e5 h)]; rfl
theorem gap_spec (t : ByteArray) (ht : t.size ≤ 100000) (i : Nat) (hi : i ≤ t.size) (k : Nat) (hk : t.size < k) : Px.cleanseref07_Gap.f k t (i : Int) = some ((gapL false ((bytesOf t).drop i) : Nat) : Int) := by
  have h := gap_loop t ht i (t.size - i) 0 k false (by omega) (by omega)
  unfold Px.cleanseref07_Gap.f
  simpa using h
theorem letter_fin : ∀ n : Nat, n < 256 → Px.cleanseref07_Letter.f (n : Int) = some (letterZ (n : Int)) := by decide +kernel
theorem digit_fin : ∀ n : Nat, n < 256 → Px.cleanseref07_Digit.f (n : Int) = some (digitZ (n : Int)) := by decide +kernel
theorem inner_fin : ∀ n : Nat, n < 256 → Px.cleanseref07_inner.f (n : Int) = some (innerZ (n : Int)) := by decide +kernel
theorem letter_ref (t : ByteArray) (i : Int) : Px.cleanseref07_Letter.f (bt t i) = some (letterZ (bt t i)) := by
  obtain ⟨n, h, e⟩ := byte_nat t i; rw [e]; exact letter_fin n h
theorem digit_ref (t : ByteArray) (i : Int) : Px.cleanseref07_Digit.f (bt t i) = some (digitZ (bt t i)) := by
  obtain ⟨n, h, e⟩ := byte_nat t i; rw [e]; exact digit_fin n h
theorem inner_ref (t : ByteArray) (i : Int) : Px.cleanseref07_inner.f (bt t i) = some (innerZ (bt t i)) := by
  obtain ⟨n, h, e⟩ := byte_nat t i; rw [e]; exact inner_fin n h
theorem run_at (p : Int → Bool) (t : ByteArray) (i : Nat) (h : i < t.size) : run p ((bytesOf t).drop i) = if p (bt t (i : Int)) = true then 1 + run p ((bytesOf t).drop (i + 1)) else 0 := run_step p t i h
theorem run_end (p : Int → Bool) (t : ByteArray) (i : Nat) (h : t.size ≤ i) : run p ((bytesOf t).drop i) = 0 := by rw [drop_end t i h]; rfl
def nameR (t : ByteArray) (i R : Nat) : Int × ByteArray × Int × Int × Int × Int := if 24 < R then (0, ⟨#[]⟩, 0, 0, 0, 3) else (1, t.extract i (i + R), 0, (i : Int), (R : Int), 0)
theorem name_loop (t : ByteArray) (ht : t.size ≤ 100000) (i R : Nat) : ∀ (d n k : Nat), i + n + d = t.size → d < k → n + run innerZ ((bytesOf t).drop (i + n)) = R → Px.cleanseref07_token.l0 k t (i : Int) (n : Int) = some (nameR t i R)
  | d, n, k, h, hk, hR => by
    obtain ⟨k, rfl⟩ : ∃ m, k = m + 1 := ⟨k - 1, by omega⟩
    have fin : R = n → (if ((n : Int) > 24) then some ((0 : Int), (⟨#[]⟩ : ByteArray), (0 : Int), (0 : Int), (0 : Int), (3 : Int)) else if 0 ≤ (i : Int) then (if (i : Int) ≤ (i : Int) + (n : Int) then (if (i : Int) + (n : Int) ≤ (t.size : Int) then some ((1 : Int), t.extract ((i : Int)).toNat ((i : Int) + (n : Int)).toNat, (0 : Int), (i : Int), (n : Int), (0 : Int)) else none) else none) else none) = some (nameR t i R) := by
      rintro rfl
      unfold nameR
      by_cases c : 24 < R
      · rw [if_pos (by omega), if_pos c]
      · rw [if_neg (by omega), if_pos (by omega), if_pos (by omega), if_pos (by omega), if_neg c, Int.toNat_natCast, show ((i : Int) + (R : Int)).toNat = i + R by omega]
    simp only [Px.cleanseref07_token.l0]
    rw [wrap_id (i := (i : Int) + (n : Int)) (by omega) (by omega), wrap_id (i := (n : Int) + 1) (by omega) (by omega)]
    by_cases c : i + n < t.size
    · obtain ⟨d, rfl⟩ : ∃ e, d = e + 1 := ⟨d - 1, by omega⟩
      rw [if_pos (by omega), if_pos (by omega), inner_ref]
      simp only [Option.bind_some]
      have hs := run_at innerZ t (i + n) c
      rw [show ((i + n : Nat) : Int) = (i : Int) + (n : Int) by omega] at hs
      by_cases hi : innerZ (bt t ((i : Int) + (n : Int))) = true
      · rw [if_pos hi] at hs ⊢
        rw [show ((n : Int) + 1) = ((n + 1 : Nat) : Int) by omega]
        exact name_loop t ht i R d (n + 1) k (by omega) (by omega) (by rw [show i + (n + 1) = i + n + 1 by omega]; omega)
      · rw [if_neg hi] at hs ⊢
        exact fin (by omega)
    · rw [if_neg (by omega)]
      have := run_end innerZ t (i + n) (by omega)
      exact fin (by omega)
theorem digit_inner {c : Int} (h : digitZ c = true) : innerZ c = true := by unfold innerZ; rw [h]; simp
theorem run_more (p q : Int → Bool) (hpq : ∀ c, p c = true → q c = true) : ∀ l : List Int, run q l = run p l + run q (l.drop (run p l))
  | [] => rfl
  | c :: l => by
    by_cases h : p c = true
    · have ih := run_more p q hpq l
      unfold run at *
      rw [List.takeWhile_cons_of_pos h, List.takeWhile_cons_of_pos (hpq c h), List.length_cons, List.length_cons, List.drop_succ_cons]
      omega
    · have : run p (c :: l) = 0 := by unfold run; rw [List.takeWhile_cons_of_neg h]; rfl
      rw [this, List.drop_zero, Nat.zero_add]
theorem numV_snoc (l : List Int) (c : Int) : numV (l ++ [c]) = numV l * 10 + (c - 48) := by unfold numV; rw [List.foldl_append]; rfl
theorem numV_bd : ∀ (n : Nat) (l : List Int), l.length ≤ n → (∀ c ∈ l, digitZ c = true) → 0 ≤ numV l ∧ numV l < 10 ^ n := by
  intro n
  induction n with
  | zero => intro l h _; have : l = [] := List.length_eq_zero_iff.1 (by omega); subst this; exact ⟨by decide, by decide⟩
  | succ n ih =>
    intro l h hd
    rcases List.eq_nil_or_concat l with rfl | ⟨m, c, rfl⟩
    · refine ⟨by decide, ?_⟩
      have : (0 : Int) < 10 ^ (n + 1) := Int.pow_pos (by omega)
      exact this
    · rw [List.concat_eq_append] at *
      have hc := hd c (by simp)
      unfold digitZ at hc
      simp only [Bool.and_eq_true, decide_eq_true_eq] at hc
      obtain ⟨h0, h1⟩ := ih m (by rw [List.length_append] at h; simp at h; omega) (fun x hx => hd x (by simp [hx]))
      rw [numV_snoc, Int.pow_succ]
      generalize (10 : Int) ^ n = q at *
      constructor <;> omega
def numR (t : ByteArray) (i D I : Nat) : Int × ByteArray × Int × Int × Int × Int := if 10 < D then (0, ⟨#[]⟩, 0, 0, 0, 6) else if D < I then (0, ⟨#[]⟩, 0, 0, 0, 6) else (2, t.extract i (i + D), numV (((bytesOf t).drop i).take D), (i : Int), (D : Int), 0)
theorem num_loop (t : ByteArray) (ht : t.size ≤ 100000) (i D I : Nat) (hD : run digitZ ((bytesOf t).drop i) = D) (hI : run innerZ ((bytesOf t).drop i) = I) : ∀ (d n k : Nat) (v : Int), i + n + d = t.size → 2 * d + 2 < k → n + run digitZ ((bytesOf t).drop (i + n)) = D → (n ≤ 10 → v = numV (((bytesOf t).drop i).take n)) →
    (v ≥ 0 ∧ v ≤ 10000000000) → Px.cleanseref07_token.l1 k t (i : Int) (n : Int) v = some (numR t i D I)
  | d, n, k, v, h, hk, hR, hv, hvb => by
    obtain ⟨k, rfl⟩ : ∃ m, k = m + 2 := ⟨k - 2, by omega⟩
    have hmore := run_more digitZ innerZ (fun c => digit_inner) ((bytesOf t).drop i)
    rw [hD, hI, List.drop_drop] at hmore
    simp only [Px.cleanseref07_token.l1]
    rw [wrap_id (i := (i : Int) + (n : Int)) (by omega) (by omega)]
    by_cases c : i + n < t.size
    · obtain ⟨d, rfl⟩ : ∃ e, d = e + 1 := ⟨d - 1, by omega⟩
      have hs := run_at digitZ t (i + n) c
      rw [show ((i + n : Nat) : Int) = (i : Int) + (n : Int) by omega] at hs
      rw [if_pos (by omega), if_pos (by omega), digit_ref]
      simp only [Option.bind_some, Px.cleanseref07_token.j2]
      rw [wrap_id (i := (i : Int) + (n : Int)) (by omega) (by omega), wrap_id (i := (n : Int) + 1) (by omega) (by omega)]
      by_cases hd : digitZ (bt t ((i : Int) + (n : Int))) = true
      · have hdd := hd
        unfold digitZ at hdd
        simp only [Bool.and_eq_true, decide_eq_true_eq] at hdd
        rw [if_pos hd] at hs ⊢
        by_cases h10 : n < 10
        · have hvn := hv (by omega)
          have htk : ((bytesOf t).drop i).take (n + 1) = ((bytesOf t).drop i).take n ++ [bt t ((i : Int) + (n : Int))] := by
            have e1 : ((bytesOf t).drop i)[n]? = some (bt t ((i : Int) + (n : Int))) := by
              rw [List.getElem?_drop]
              have := drop_at t (i + n) c
              rw [show ((i + n : Nat) : Int) = (i : Int) + (n : Int) by omega] at this
              rw [← List.head?_drop, this]; rfl
            rw [List.take_add_one, e1]; rfl
          have hall : ∀ c ∈ ((bytesOf t).drop i).take n, digitZ c = true := by
            intro x hx
            have := run_all digitZ ((bytesOf t).drop i)
            rw [hD] at this
            exact this x (List.mem_of_mem_take (i := n) (by rw [List.take_take, Nat.min_eq_left (by omega)]; exact hx))
          have hb := numV_bd 9 (((bytesOf t).drop i).take n) (by rw [List.length_take]; omega) hall
          rw [← hvn] at hb
          rw [if_pos (by omega), if_pos (by omega), if_pos (by omega)]
          have ew : wrap64 (wrap64 (10 * v) + (bt t ((i : Int) + (n : Int)) - 48) % 256) = numV (((bytesOf t).drop i).take (n + 1)) := by
            rw [htk, numV_snoc, ← hvn, wrap_id (i := 10 * v) (by omega) (by omega), wrap_id (by omega) (by omega)]
            omega
          rw [ew, show ((n : Int) + 1) = ((n + 1 : Nat) : Int) by omega]
          have hb2 : 0 ≤ numV (((bytesOf t).drop i).take (n + 1)) ∧ numV (((bytesOf t).drop i).take (n + 1)) ≤ 10000000000 := by
            rw [htk, numV_snoc, ← hvn]; omega
          exact num_loop t ht i D I hD hI d (n + 1) (k + 0) _ (by omega) (by omega) (by rw [show i + (n + 1) = i + n + 1 by omega]; omega) (fun _ => rfl) hb2
        · rw [if_neg (by omega), show ((n : Int) + 1) = ((n + 1 : Nat) : Int) by omega]
          exact num_loop t ht i D I hD hI d (n + 1) (k + 0) v (by omega) (by omega) (by rw [show i + (n + 1) = i + n + 1 by omega]; omega) (fun h => by omega) hvb
      · rw [if_neg hd] at hs ⊢
        have hn : n = D := by omega
        unfold numR
        by_cases h10 : 10 < D
        · rw [if_pos (by omega), if_pos h10]
        · have hs2 := run_at innerZ t (i + n) c
          rw [show ((i + n : Nat) : Int) = (i : Int) + (n : Int) by omega] at hs2
          rw [if_neg (by omega), if_neg h10, if_pos (by omega), if_pos (by omega), inner_ref]
          simp only [Option.bind_some]
          rw [hn] at hs2 hv
          by_cases hin : innerZ (bt t ((i : Int) + (n : Int))) = true
          · rw [hn] at hin
            rw [if_pos hin] at hs2
            rw [hn, if_pos hin, if_pos (by omega)]
          · rw [hn] at hin
            rw [if_neg hin] at hs2
            rw [hn, if_neg hin, if_pos (by omega), if_pos (by omega), if_pos (by omega), if_neg (by omega), Int.toNat_natCast, show ((i : Int) + (D : Int)).toNat = i + D by omega, hv (by omega)]
    · have h0 := run_end digitZ t (i + n) (by omega)
      have h1 := run_end innerZ t (i + n) (by omega)
      have hn : n = D := by omega
      rw [if_neg (by omega)]
      simp only [Px.cleanseref07_token.j2]
      rw [wrap_id (i := (i : Int) + (n : Int)) (by omega) (by omega), if_neg (by simp)]
      unfold numR
      rw [hn] at h1 hv
      by_cases h10 : 10 < D
      · rw [if_pos (by omega), if_pos h10]
      · rw [if_neg (by omega), if_neg h10, if_neg (by omega), hn, if_pos (by omega), if_pos (by omega), if_pos (by omega), if_neg (by omega), Int.toNat_natCast, show ((i : Int) + (D : Int)).toNat = i + D by omega, hv (by omega)]
end Go.Proofs.YtemjgafocgnccaaDoor.X
