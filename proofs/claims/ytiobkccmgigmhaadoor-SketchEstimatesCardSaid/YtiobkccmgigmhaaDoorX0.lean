/- Contracts of the functions of package sketch that use closures, in the form of the printed ones. -/
import Derived.Test.YtiobkccmgigmhaaDoorProg
import Derived.Test.YtiobkccmgigmhaaDoorWWords
import Derived.Test.YtiobkccmgigmhaaDoorWMore
import Derived.Lib.Hide
import Derived.Lib.ConvBytes
set_option linter.unusedVariables false
set_option linter.unusedSimpArgs false
namespace Go.Proofs.YtiobkccmgigmhaaDoor.X
open Go.RowKit Go.Proofs.YtiobkccmgigmhaaDoorW.PrintWords

theorem modp_eq (n : Int) : (wrap64 (n.tmod 2147483647 + 2147483647)).tmod 2147483647 = n % 2147483647 := by
  have h1 : n.tmod 2147483647 < 2147483647 := Int.tmod_lt_of_pos n (by omega)
  have h2 : (-n).tmod 2147483647 < 2147483647 := Int.tmod_lt_of_pos (-n) (by omega)
  rw [Int.neg_tmod] at h2
  rw [show wrap64 (n.tmod 2147483647 + 2147483647) = n.tmod 2147483647 + 2147483647 by unfold wrap64; omega, Int.tmod_eq_emod_of_nonneg (by omega), Int.tmod_eq_emod]
  split <;> omega

theorem ret_int {k : IntKind} {a b : Int} (h : a = b) : Ending.returned (.int k a) = .returned (.int k b) := by rw [h]

theorem mod_any (n : Int) (w : World) : Calls Tryd.prog 34 #[.int .i64 n] w fun e w' => e = .returned (.int .i64 (n % 2147483647)) ∧ w' = w := by
  go_enter Tryd.func34, Tryd.ntmps34
  go_wp2
  go_ret
  exact ⟨ret_int (modp_eq n), rfl⟩

theorem conv_any (s : ByteArray) (w : World) : ∃ w1 c, (convert 9 53 (.string s)).run Tryd.prog w = .ok (.slice (some ⟨w.heap.size, 0, none⟩) s.size c) w1 ∧ Below w.heap.size w w1 ∧ ∀ j, j < s.size → w1.cell? ⟨w.heap.size, j, none⟩ = some (.int .u8 (s.data.toList.getD j 0).toNat) := by
  refine ⟨_, _, Lib.run_convert_string_bytes (P := Tryd.prog) w 9 53 5 s Tryd.underlying9 Tryd.underlying53 Tryd.underlying5, ⟨rfl, rfl, rfl, ?_, ?_⟩, fun j hj => Lib.bytesWorld_cell w 5 s j hj⟩
  · rw [Lib.bytesWorld_size]; omega
  · intro i hi
    exact Lib.bytesWorld_at_old w 5 s i hi

/-- One byte of the hash. -/
def hstep (m h : Int) (b : UInt8) : Int := (h * m + (b.toNat : Int) + 1) % 2147483647
def hfac (s : Int) : Int := 16807 + s % 2147483647 % 1000003
def hrun (s : Int) (l : List UInt8) : Int := l.foldl (hstep (hfac s)) (s % 2147483647)
def hsh (l : List UInt8) (s : Int) : Int := (hrun s l * 48271 + 11) % 2147483647
theorem hfac_bd (s : Int) : 16807 ≤ hfac s ∧ hfac s ≤ 1016809 := by unfold hfac; omega
theorem hstep_bd (m h : Int) (b : UInt8) : 0 ≤ hstep m h b ∧ hstep m h b < 2147483647 := by unfold hstep; omega
theorem foldl_bd (m : Int) : ∀ (l : List UInt8) (h : Int), 0 ≤ h → h < 2147483647 → 0 ≤ l.foldl (hstep m) h ∧ l.foldl (hstep m) h < 2147483647
  | [], _, h0, h1 => ⟨h0, h1⟩
  | b :: l, x, _, _ => foldl_bd m l _ (hstep_bd m x b).1 (hstep_bd m x b).2
theorem hrun_bd (s : Int) (l : List UInt8) : 0 ≤ hrun s l ∧ hrun s l < 2147483647 := foldl_bd _ l _ (by omega) (by omega)
theorem hrun_snoc (s : Int) (a0 : ByteArray) (k : Nat) (hk : k < a0.data.size) : wrap64 (wrap64 (wrap64 (hrun s (a0.data.toList.take k) * (16807 + s % 2147483647 % 1000003)) + wrap64 ((a0.data[k]).toNat : Int)) + 1) % 2147483647 = hrun s (a0.data.toList.take (k + 1)) := by
  have hk' : k < a0.data.toList.length := by simpa using hk
  rw [List.take_succ_eq_append_getElem hk']
  simp only [hrun, List.foldl_append, List.foldl_cons, List.foldl_nil, Array.getElem_toList]
  have h1 := hrun_bd s (a0.data.toList.take k)
  have h2 := hfac_bd s
  simp only [hrun] at h1
  show _ = hstep _ _ _
  generalize ho : List.foldl (hstep (hfac s)) (s % 2147483647) (List.take k a0.data.toList) = x at *
  unfold hstep
  have h3 := (a0.data[k]).toNat_lt
  have h4 : 0 ≤ x * hfac s := Int.mul_nonneg h1.1 (by omega)
  have h5 : x * hfac s ≤ 2147483647 * 1016809 := Int.mul_le_mul (by omega) h2.2 (by omega) (by omega)
  show wrap64 (wrap64 (wrap64 (x * hfac s) + _) + 1) % _ = _
  generalize x * hfac s = y at *
  unfold wrap64
  omega
def sketch_Hash.f (a0 : ByteArray) (a1 : Int) : Option Int := if a0.size ≤ 140737488355328 then some (hsh a0.data.toList a1) else none

set_option maxHeartbeats 400000 in
theorem sketch_Hash.calls (a0 : ByteArray) (a1 : Int) (r : Int) (w : World) (h : sketch_Hash.f a0 a1 = some r) :
    Calls Tryd.prog 20 #[.string a0, .int .i64 a1] w fun e w' => e = .returned (.int .i64 r) ∧ Below w.heap.size w w' := by
  unfold sketch_Hash.f at h
  split at h
  case isFalse => cases h
  rename_i hs
  obtain rfl := Option.some.inj h
  clear h
  obtain ⟨w1, c, hcv, hb1, hc1⟩ := conv_any a0 w
  have HC := Lib.hid hc1
  clear hc1
  have HB := Lib.hid hb1
  clear hb1
  generalize hg : w.heap.size = g at *
  have HG := Lib.hid hg
  clear hg
  go_enter Tryd.func20, Tryd.ntmps20
  go_wp2_with (go_at_call 34; refine (mod_any _ _).mono ?_; rintro e w' ⟨rfl, rfl⟩)
  go_loop [8, 21] (fun h i => ∃ k : Nat, k ≤ a0.size ∧ i = .int .i64 k ∧ h = .int .i64 (hrun a1 (a0.data.toList.take k))) (fun _ i => a0.size - (intOf i).toNat)
  case atStart => exact ⟨0, Nat.zero_le _, rfl, rfl⟩
  case round =>
    obtain ⟨k, hk, rfl, rfl⟩ := hrel
    have hbd := hrun_bd a1 (a0.data.toList.take k)
    have hfb := hfac_bd a1
    by_cases hlt : k < a0.size
    · have hcell := HC.out k hlt
      go_wp2_with fail
      refine (mod_any _ _).mono ?_
      rintro e w' ⟨rfl, rfl⟩
      go_wp2_with fail
      go_round
      case rel =>
        refine ⟨k + 1, by omega, by go_num, ?_⟩
        exact congrArg _ (hrun_snoc a1 a0 k (by simpa using hlt))
      case measure => simp [intOf]; omega
    · go_wp2_with fail
      refine (mod_any _ _).mono ?_
      rintro e w' ⟨rfl, rfl⟩
      go_wp2_with fail
      go_ret
      obtain rfl := HG.out
      refine ⟨ret_int ?_, HB.out⟩
      rw [List.take_of_length_le (by simp; omega)]
      rfl

/-! right -/
def outB (lo hi n : Int) : Bool := decide (n < lo) || decide (hi < n)
theorem outB_low {lo hi n : Int} (h : n < lo) : outB lo hi n = true := by simp [outB, h]
theorem outB_high {lo hi n : Int} (h : ¬ n < lo) : outB lo hi n = decide (hi < n) := by simp [outB, h]
theorem ret_bool {a b : Bool} (h : a = b) : Ending.returned (.bool a) = .returned (.bool b) := by rw [h]
theorem clos_any (n lo hi : Int) (g g2 : Nat) (w : World) (h1 : w.cell? ⟨g, 0, none⟩ = some (.int .i64 lo)) (h2 : w.cell? ⟨g2, 0, none⟩ = some (.int .i64 hi)) :
    Calls Tryd.prog 36 #[.int .i64 n, .pointer (some ⟨g, 0, none⟩), .pointer (some ⟨g2, 0, none⟩)] w fun e w' => e = .returned (.bool (outB lo hi n)) ∧ w' = w := by
  by_cases h : n < lo
  · have h0 := outB_low (hi := hi) h
    have H0 := Lib.hid h0
    clear h0
    go_enter Tryd.func36, Tryd.ntmps36
    go_wp2
    go_ret
    exact ⟨ret_bool H0.out.symm, rfl⟩
  · have h0 := outB_high (hi := hi) h
    have H0 := Lib.hid h0
    clear h0
    go_enter Tryd.func36, Tryd.ntmps36
    go_wp2
    go_ret
    exact ⟨ret_bool H0.out.symm, rfl⟩
theorem any_at (l : List Int) (p : Int → Bool) (k : Nat) (hk : k < l.length) (hp : p (rd l k) = true) : decide (0 ≤ (k : Int)) = l.any p := by
  have h : l.any p = true := List.any_eq_true.2 ⟨l[k], List.getElem_mem hk, by simpa [rd, List.getD_eq_getElem?_getD, hk] using hp⟩
  rw [h]
  simp
theorem any_snoc (l : List Int) (p : Int → Bool) (k : Nat) (hk : k < l.length) (ha : (l.take k).any p = false) (hp : p (rd l k) = false) : (l.take (k + 1)).any p = false := by
  rw [List.take_succ_eq_append_getElem hk, List.any_append, ha]
  simpa [rd, List.getD_eq_getElem?_getD, hk] using hp
/-- The index that a search returns: not negative just where there is one. -/
def IdxOf (p : Int → Bool) (l : List Int) (w : World) (e : Ending) (w' : World) : Prop := ∃ r : Int, e = .returned (.int .i64 r) ∧ decide (0 ≤ r) = l.any p ∧ w' = w
theorem idx_any (A : Option Addr) (c : Nat) (l : List Int) (lo hi : Int) (g g2 : Nat) (w : World) (hr : Kd.C (Kd.int .i64) w A l.length l) (h1 : w.cell? ⟨g, 0, none⟩ = some (.int .i64 lo)) (h2 : w.cell? ⟨g2, 0, none⟩ = some (.int .i64 hi)) :
    Calls Tryd.prog 44 #[.slice A l.length c, .func (.func 36) #[] #[.pointer (some ⟨g, 0, none⟩), .pointer (some ⟨g2, 0, none⟩)]] w (IdxOf (outB lo hi) l w) := by
  have hm : l.length ≤ 9223372036854775807 := hr.2.1
  have H1 := Lib.hid h1
  have H2 := Lib.hid h2
  clear h1 h2
  by_cases hn : 0 < l.length
  · obtain ⟨ad, hA, hcell⟩ : ∃ ad, A = some ad ∧ ∀ k : Nat, k < l.length → w.cell? (ad.add k) = some (.int .i64 (rd l k)) := by
      obtain ⟨ad, hA, _⟩ := Kd.at_int hr 0 (by omega) (by omega)
      refine ⟨ad, hA, fun k hk => ?_⟩
      obtain ⟨ad', hA', h'⟩ := Kd.at_int hr k (by omega) (by omega)
      rw [hA] at hA'
      cases hA'
      exact h'
    subst hA
    have HC := Lib.hid hcell
    clear hcell hr
    go_enter Tryd.func44, Tryd.ntmps44
    go_wp2
    go_loop [8] (fun i => ∃ k : Nat, k ≤ l.length ∧ i = .int .i64 k ∧ (l.take k).any (outB lo hi) = false) (fun i => l.length - (intOf i).toNat)
    case atStart => exact ⟨0, Nat.zero_le _, rfl, rfl⟩
    case round =>
      obtain ⟨k, hk, rfl, hany⟩ := hrel
      have HY := Lib.hid hany
      clear hany
      by_cases hlt : k < l.length
      · have hcell := HC.out k hlt
        go_wp2_with fail
        refine (clos_any _ lo hi g g2 _ H1.out H2.out).mono ?_
        rintro e w' ⟨rfl, rfl⟩
        go_wp2_with fail
        · have hp : outB lo hi (rd l k) = true := by assumption
          go_ret
          exact ⟨k, rfl, any_at l (outB lo hi) k hlt hp, rfl⟩
        · have hp : outB lo hi (rd l k) = false := by assumption
          refine ⟨⟨k + 1, by omega, by go_num, any_snoc l (outB lo hi) k hlt HY.out hp⟩, ?_⟩
          simp [intOf]; omega
      · go_wp2_with fail
        go_ret
        refine ⟨-1, rfl, ?_, rfl⟩
        have h := HY.out
        rw [List.take_of_length_le (by omega)] at h
        rw [h]
        rfl
  · have hl : l = [] := List.eq_nil_of_length_eq_zero (by omega)
    subst hl
    clear hr
    go_enter Tryd.func44, Tryd.ntmps44
    go_wp2
    go_loop [8] (fun i => i = .int .i64 0) (fun _ => 0)
    case atStart => rfl
    case round =>
      subst hrel
      go_wp2
      go_ret
      exact ⟨-1, rfl, rfl, rfl⟩
theorem contains_any (A : Option Addr) (c : Nat) (l : List Int) (lo hi : Int) (g g2 : Nat) (w : World) (hr : Kd.C (Kd.int .i64) w A l.length l) (h1 : w.cell? ⟨g, 0, none⟩ = some (.int .i64 lo)) (h2 : w.cell? ⟨g2, 0, none⟩ = some (.int .i64 hi)) :
    Calls Tryd.prog 35 #[.slice A l.length c, .func (.func 36) #[] #[.pointer (some ⟨g, 0, none⟩), .pointer (some ⟨g2, 0, none⟩)]] w fun e w' => e = .returned (.bool (l.any (outB lo hi))) ∧ w' = w := by
  have HX := Lib.hid (idx_any A c l lo hi g g2 w hr h1 h2)
  clear hr h1 h2
  go_enter Tryd.func35, Tryd.ntmps35
  go_wp2_with fail
  refine HX.out.mono ?_
  rintro e w' ⟨r, rfl, hd, rfl⟩
  have HD := Lib.hid hd
  clear hd
  go_wp2_with fail
  go_ret
  exact ⟨ret_bool HD.out, rfl⟩
theorem empty_any (A : Option Addr) (c : Nat) (l : List Int) (w : World) (hr : Kd.C (Kd.int .i64) w A l.length l) (hn : 0 < l.length) :
    Calls Tryd.prog 27 #[.slice A l.length c] w fun e w' => e = .returned (.bool (rd l 0 == -1)) ∧ w' = w := by
  obtain ⟨ad, hA, hcell⟩ := Kd.at_int hr 0 (by omega) (by omega)
  have hm : l.length ≤ 9223372036854775807 := hr.2.1
  clear hr
  subst hA
  rw [show ((0 : Int)).toNat = 0 from rfl, Addr.add_zero'] at hcell
  go_enter Tryd.func27, Tryd.ntmps27
  go_wp2
  go_ret
  exact ⟨rfl, rfl⟩
theorem two_cells (w : World) (u v : Value) (s t : TypeId) : ((w.alloc (.cells #[u] s)).alloc (.cells #[v] t)).cell? ⟨w.heap.size, 0, none⟩ = some u ∧ ((w.alloc (.cells #[u] s)).alloc (.cells #[v] t)).cell? ⟨w.heap.size + 1, 0, none⟩ = some v := by
  constructor <;> simp
def rightB (l : List Int) : Bool :=
  if l.length = 0 then false else if 64 < l.length then false
  else if rd l 0 = -1 then !(l.any (outB (-1) (-1))) else !(l.any (outB 0 2147483646))
def sketch_right.f (l0 : List Int) : Option Bool := some (rightB l0)
set_option maxHeartbeats 400000 in
theorem sketch_right.calls (A0 : Option Addr) (c0 : Nat) (l0 : List Int) (r : Bool) (w : World) (hr0 : Kd.C (Kd.int .i64) w A0 l0.length l0) (hc0 : l0.length ≤ c0) (h : sketch_right.f l0 = some r) :
    Calls Tryd.prog 25 #[.slice A0 l0.length c0] w fun e w' => e = .returned (.bool r) ∧ Below w.heap.size w w' := by
  obtain rfl := Option.some.inj h
  clear h
  have hm : l0.length ≤ 9223372036854775807 := hr0.2.1
  have HR := Lib.hid hr0
  clear hr0
  by_cases h0 : l0.length = 0
  · have HE := Lib.hid (show rightB l0 = false by unfold rightB; rw [if_pos h0])
    have hq : ((l0.length : Int) == 0) = true := by simp [h0]
    have H0 := Lib.hid h0
    clear h0
    go_enter Tryd.func25, Tryd.ntmps25
    go_wp2
    go_ret
    exact ⟨ret_bool HE.out.symm, Below.refl _ _⟩
  · have hq : ((l0.length : Int) == 0) = false := by simpa using h0
    by_cases h1 : 64 < l0.length
    · have HE := Lib.hid (show rightB l0 = false by unfold rightB; rw [if_neg h0, if_pos h1])
      clear h0
      go_enter Tryd.func25, Tryd.ntmps25
      go_wp2
      go_ret
      exact ⟨ret_bool HE.out.symm, Below.refl _ _⟩
    · by_cases h2 : rd l0 0 = -1
      · have HE := Lib.hid (show rightB l0 = !(l0.any (outB (-1) (-1))) by unfold rightB; rw [if_neg h0, if_neg h1, if_pos h2])
        go_enter Tryd.func25, Tryd.ntmps25
        have hq2 : (rd l0 0 == -1) = true := by simpa using h2
        have HQ := Lib.hid hq2
        clear hq2 h2
        go_wp2_with fail
        refine (empty_any _ _ _ _ (Kd.C_below HR.out (below_alloc (below_alloc (Below.refl _ _) _) _)) (by omega)).mono ?_
        rintro e w' ⟨rfl, rfl⟩
        rw [HQ.out]
        go_wp2_with fail
        refine (contains_any _ _ _ (-1) (-1) _ _ _ (Kd.C_below HR.out (below_alloc (below_alloc (Below.refl _ _) _) _)) (two_cells _ _ _ _ _).1 (two_cells _ _ _ _ _).2).mono ?_
        rintro e w' ⟨rfl, rfl⟩
        go_wp2_with fail
        go_ret
        exact ⟨ret_bool HE.out.symm, below_alloc (below_alloc (Below.refl _ _) _) _⟩
      · have HE := Lib.hid (show rightB l0 = !(l0.any (outB 0 2147483646)) by unfold rightB; rw [if_neg h0, if_neg h1, if_neg h2])
        go_enter Tryd.func25, Tryd.ntmps25
        have hq2 : (rd l0 0 == -1) = false := by simpa using h2
        have HQ := Lib.hid hq2
        clear hq2 h2
        go_wp2_with fail
        refine (empty_any _ _ _ _ (Kd.C_below HR.out (below_alloc (below_alloc (Below.refl _ _) _) _)) (by omega)).mono ?_
        rintro e w' ⟨rfl, rfl⟩
        rw [HQ.out]
        go_wp2_with fail
        refine (contains_any _ _ _ 0 2147483646 _ _ _ (Kd.C_below HR.out (below_alloc (below_alloc (Below.refl _ _) _) _)) (two_cells _ _ _ _ _).1 (two_cells _ _ _ _ _).2).mono ?_
        rintro e w' ⟨rfl, rfl⟩
        go_wp2_with fail
        go_ret
        exact ⟨ret_bool HE.out.symm, below_alloc (below_alloc (Below.refl _ _) _) _⟩
end Go.Proofs.YtiobkccmgigmhaaDoor.X
