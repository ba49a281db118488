/- Contracts of the reference's decimal texts and of package sketch's least, in the form of the printed ones. -/
import Derived.Test.YtiobkccmgigmhaaDoorX0
import Derived.Test.YtiobkccmgigmhaaDoorX1
import Derived.Deep.QuietTactic
import Derived.BigQuiet
import Derived.Lib.ItoaNum
import Derived.Lib.ItoaLen
set_option linter.unusedVariables false
set_option linter.unusedSimpArgs false
namespace Go.Proofs.YtiobkccmgigmhaaDoor.X
open Go.RowKit Go.Proofs.YtiobkccmgigmhaaDoorW.PrintWords Go.Proofs.YtiobkccmgigmhaaDoorW.PrintMore

def U64 (n : Nat) : Prop := n < 18446744073709551616
theorem ret_str {a b : ByteArray} (h : a = b) : Ending.returned (.string a) = .returned (.string b) := by rw [h]
def digs : ByteArray := ⟨#[48, 49, 50, 51, 52, 53, 54, 55, 56, 57]⟩
def digB (n : Nat) : ByteArray := ⟨#[UInt8.ofNat (48 + n)]⟩
theorem digit_at (n : Nat) (hn : n < 10) : digs.extract n (n + 1) = digB n := by
  rcases (by omega : n = 0 ∨ n = 1 ∨ n = 2 ∨ n = 3 ∨ n = 4 ∨ n = 5 ∨ n = 6 ∨ n = 7 ∨ n = 8 ∨ n = 9) with rfl | rfl | rfl | rfl | rfl | rfl | rfl | rfl | rfl | rfl <;> decide +kernel
theorem digit_slice (n : Nat) (hn : n < 10) (W : World) : (Instr.slice 9 (.string ⟨#[48, 49, 50, 51, 52, 53, 54, 55, 56, 57]⟩) (some (.int .u64 n)) (some (.int .u64 ((n : Int) + 1))) none).run Tryd.prog W = .ok (.string (digB n)) W := by
  have h := run_slice_string (P := Tryd.prog) (w := W) 9 digs .u64 .u64 n ((n : Int) + 1) Tryd.underlying9 (by omega) (by omega) (by show (n : Int) + 1 ≤ 10; omega)
  rw [show ((n : Int) + 1).toNat = n + 1 by omega, Int.toNat_natCast, digit_at n hn] at h
  exact h
def decB (n : Nat) : ByteArray := ⟨(Lib.decDigits n).toArray⟩
theorem decB_size (n : Nat) (h : U64 n) : (decB n).size ≤ 20 := by
  show (Lib.decDigits n).toArray.size ≤ 20
  rw [List.size_toArray, Lib.decDigits_length]
  exact Lib.nDigits_le20 _ h
theorem decB_small (n : Nat) (h : n < 10) : digB n = decB n := by
  unfold digB decB
  rw [Lib.decDigits_one h]
theorem decB_big (n : Nat) (h : ¬ n < 10) : decB (n / 10) ++ digB (n % 10) = decB n := by
  unfold digB decB
  rw [Lib.decDigits.eq_1 n, dif_neg h]
  rfl
theorem digits_any : ∀ (n : Nat), U64 n → ∀ w : World, Calls Tryd.prog 43 #[.int .u64 n] w fun e w' => e = .returned (.string (decB n)) ∧ ∃ m, w' = w.drewN m := by
  intro n
  induction n using Nat.strongRecOn with
  | _ n ih =>
  intro hn w
  by_cases hlt : n < 10
  · have HE := Lib.hid (decB_small n hlt)
    have hds := digit_slice n hlt
    clear ih
    have HN := Lib.hid hn
    clear hn
    go_enter Tryd.func43, Tryd.ntmps43
    go_wp2
    go_ret
    exact ⟨ret_str HE.out, 0, rfl⟩
  · have IH := Lib.hid (ih (n / 10) (by omega) (by unfold U64 at *; omega))
    clear ih
    have HN := Lib.hid hn
    clear hn
    have hds := digit_slice (n % 10) (by omega)
    have hw : IntKind.u64.wrap ((n : Int) % 10 + 1) = (n : Int) % 10 + 1 := by rw [IntKind.wrap_u64]; omega
    have hw2 : IntKind.u64.wrap ((n : Int) / 10) = (n : Int) / 10 := by have := HN.out; unfold U64 at this; rw [IntKind.wrap_u64]; omega
    have hw3 : IntKind.u64.wrap ((n : Int) % 10) = (n : Int) % 10 := by rw [IntKind.wrap_u64]; omega
    rw [show ((n % 10 : Nat) : Int) = (n : Int) % 10 by omega] at hds
    have IH' := Lib.hid (show ∀ w : World, Calls Tryd.prog 43 #[.int .u64 ((n : Int) / 10)] w fun e w' => e = .returned (.string (decB (n / 10))) ∧ ∃ m, w' = w.drewN m from fun w => by
      have h := IH.out w
      rw [show ((n / 10 : Nat) : Int) = (n : Int) / 10 by omega] at h
      exact h)
    clear IH
    have htm : (n : Int).tmod 10 = (n : Int) % 10 := Int.tmod_eq_emod_of_nonneg (by omega)
    have hcat : ∀ W : World, (Op.stringOp .add (decB (n / 10)) (digB (n % 10))).run Tryd.prog W = .ok (.string (decB n)) W := fun W => by
      have h1 := decB_size (n / 10) (by have := HN.out; unfold U64 at *; omega)
      have h2 : (digB (n % 10)).size = 1 := rfl
      exact (run_string_add_sum W _ _ (by omega)).trans (by rw [decB_big n hlt])
    go_enter Tryd.func43, Tryd.ntmps43
    go_wp2
    go_quiet ((go_at_call 43; exact Calls.quiet_of (IH'.out _)))
    go_wp2
    go_ret
    exact ⟨rfl, _, rfl⟩

def cleanseref02_Decimal.f (a0 : Int) : Option ByteArray := if -9223372036854775808 ≤ a0 then (if a0 ≤ 9223372036854775807 then some ⟨(Lib.itoa a0).toArray⟩ else none) else none
theorem cleanseref02_Decimal.calls (a0 : Int) (r : ByteArray) (w : World) (h : cleanseref02_Decimal.f a0 = some r) :
    Calls Tryd.prog 33 #[.int .i64 a0] w fun e w' => e = .returned (.string r) ∧ Drawn0 w w' := by
  unfold cleanseref02_Decimal.f at h
  split at h
  case isFalse => cases h
  split at h
  case isFalse => cases h
  rename_i h0 h1
  obtain rfl := Option.some.inj h
  clear h
  by_cases hn : a0 < 0
  · obtain ⟨n, rfl⟩ : ∃ n : Nat, a0 = -(n : Int) := ⟨a0.natAbs, by omega⟩
    have hw : IntKind.u64.wrap (-IntKind.u64.wrap (-(n : Int))) = (n : Int) := by rw [IntKind.wrap_u64, IntKind.wrap_u64]; omega
    have hcat : ∀ W : World, (Op.stringOp .add ⟨#[45]⟩ (decB n)).run Tryd.prog W = .ok (.string ⟨(Lib.itoa (-(n : Int))).toArray⟩) W := fun W => by
      have h1 := decB_size n (by unfold U64; omega)
      have h2 : (⟨#[45]⟩ : ByteArray).size = 1 := rfl
      refine (run_string_add_sum W _ _ (by omega)).trans ?_
      unfold Lib.itoa decB
      rw [if_pos hn, Int.natAbs_neg, Int.natAbs_natCast]
      rfl
    have HD := Lib.hid (digits_any n (by unfold U64; omega))
    clear h0 h1
    go_enter Tryd.func33, Tryd.ntmps33
    go_wp2_with fail
    refine (HD.out _).mono ?_
    rintro e w' ⟨rfl, m, rfl⟩
    go_wp2_with fail
    go_ret
    exact ⟨rfl, ⟨m, rfl⟩⟩
  · obtain ⟨n, rfl⟩ : ∃ n : Nat, a0 = (n : Int) := ⟨a0.toNat, by omega⟩
    have HE := Lib.hid (show (⟨(Lib.itoa (n : Int)).toArray⟩ : ByteArray) = decB n by unfold Lib.itoa decB; rw [if_neg hn]; rfl)
    have hw : IntKind.u64.wrap (n : Int) = (n : Int) := by rw [IntKind.wrap_u64]; omega
    have HD := Lib.hid (digits_any n (by unfold U64; omega))
    clear h0 h1
    go_enter Tryd.func33, Tryd.ntmps33
    go_wp2_with fail
    refine (HD.out _).mono ?_
    rintro e w' ⟨rfl, m, rfl⟩
    go_wp2_with fail
    go_ret
    exact ⟨ret_str HE.out.symm, ⟨m, rfl⟩⟩

/-! least -/
def lstep (s b : Int) (t : ByteArray) : Int := if hsh t.data.toList s < b then hsh t.data.toList s else b
def leastZ (s : Int) : List ByteArray → Int
  | [] => -1
  | t :: ts => ts.foldl (lstep s) (hsh t.data.toList s)
theorem least_snoc (s : Int) (t : ByteArray) (ts : List ByteArray) (k : Nat) (hk : k < ts.length) : leastZ s ((t :: ts).take (k + 1 + 1)) = if hsh (ts[k]).data.toList s < leastZ s (t :: ts.take k) then hsh (ts[k]).data.toList s else leastZ s (t :: ts.take k) := by
  rw [List.take_succ_cons, List.take_succ_eq_append_getElem hk]
  simp only [leastZ, List.foldl_append, List.foldl_cons, List.foldl_nil]
  rfl
def okLens (l : List ByteArray) : Bool := l.all fun t => decide (t.size ≤ 140737488355328)
def sketch_least.f (a0 : Int) (l1 : List ByteArray) : Option Int := if okLens l1 = true then some (leastZ a0 l1) else none
theorem hash_any (a0 : ByteArray) (a1 : Int) (w : World) (h : a0.size ≤ 140737488355328) :
    Calls Tryd.prog 20 #[.string a0, .int .i64 a1] w fun e w' => e = .returned (.int .i64 (hsh a0.data.toList a1)) ∧ Below w.heap.size w w' :=
  sketch_Hash.calls a0 a1 _ w (by unfold sketch_Hash.f; rw [if_pos h])
attribute [local go_sem] min2_int min_two
set_option maxHeartbeats 400000 in
theorem sketch_least.calls (a0 : Int) (A1 : Option Addr) (c1 : Nat) (l1 : List ByteArray) (r : Int) (w : World) (hr1 : Kd.C Kd.string w A1 l1.length l1) (hc1 : l1.length ≤ c1) (h : sketch_least.f a0 l1 = some r) :
    Calls Tryd.prog 24 #[.int .i64 a0, .slice A1 l1.length c1] w fun e w' => e = .returned (.int .i64 r) ∧ Below w.heap.size w w' := by
  unfold sketch_least.f at h
  split at h
  case isFalse => cases h
  rename_i hok
  obtain rfl := Option.some.inj h
  clear h
  cases l1 with
  | nil =>
    go_enter Tryd.func24, Tryd.ntmps24
    go_wp2
    go_ret
    exact ⟨rfl, Below.refl _ _⟩
  | cons t ts =>
    obtain ⟨b, o, rfl, hb⟩ := plain_of (by decide) hr1 (by simp)
    have hm : (t :: ts).length ≤ 9223372036854775807 := hr1.2.1
    have HL := Lib.hid (show ∀ j, (hj : j < (t :: ts).length) → ((t :: ts)[j]).size ≤ 140737488355328 from fun j hj => by simpa using List.all_eq_true.1 hok _ (List.getElem_mem hj))
    have HC := Lib.hid (show ∀ j, (hj : j < (t :: ts).length) → w.cell? ⟨b, o + j, none⟩ = some (.string ((t :: ts)[j])) from fun j hj => by
      obtain ⟨ad, hA, hc⟩ := Kd.at_string hr1 j (by omega) (by omega)
      cases hA
      rw [add_at] at hc
      rw [rdOf, Int.toNat_natCast, List.getD_eq_getElem?_getD, List.getElem?_eq_getElem hj] at hc
      exact hc)
    clear hr1 hok
    have hc0 := HC.out 0 (by simp)
    rw [Nat.add_zero] at hc0
    rw [List.length_cons] at hm hc1
    simp only [List.length_cons]
    by_cases hcap : c1 = 1
    · obtain rfl := List.eq_nil_of_length_eq_zero (show ts.length = 0 by omega)
      subst hcap
      go_enter Tryd.func24, Tryd.ntmps24
      go_wp2_with fail
      refine (hash_any _ _ _ (HL.out 0 (by simp))).mono ?_
      rintro e w1 ⟨rfl, hb1⟩
      have HB := Lib.hid hb1
      clear hb1
      go_wp2_with fail
      go_loop [5, 19] (fun v i => i = .int .i64 0 ∧ v = .int .i64 (hsh t.data.toList a0)) (fun _ _ => 0)
      case atStart => exact ⟨rfl, rfl⟩
      case round =>
        obtain ⟨rfl, rfl⟩ := hrel
        go_wp2
        go_ret
        exact ⟨rfl, HB.out⟩
    · go_enter Tryd.func24, Tryd.ntmps24
      go_wp2_with fail
      refine (hash_any _ _ _ (HL.out 0 (by simp))).mono ?_
      rintro e w1 ⟨rfl, hb1⟩
      have HB := Lib.hid hb1
      clear hb1
      go_wp2_with fail
      go_loopw [5, 19] (fun v i wr => ∃ k : Nat, k ≤ ts.length ∧ i = .int .i64 k ∧ v = .int .i64 (leastZ a0 ((t :: ts).take (k + 1))) ∧ Below w.heap.size w wr) (fun _ i _ => ts.length - (intOf i).toNat)
      case atStart => exact ⟨0, Nat.zero_le _, rfl, rfl, HB.out⟩
      case round =>
        obtain ⟨k, hk, rfl, rfl, hbr⟩ := hrel
        by_cases hlt : k < ts.length
        · have hcell := (hbr.cell (p := ⟨b, o + (k + 1), none⟩) hb).trans (HC.out (k + 1) (by simpa using hlt))
          rw [show o + (k + 1) = o + 1 + k by omega] at hcell
          have HR := Lib.hid hbr
          clear hbr
          go_wp2_with fail
          refine (hash_any _ _ _ (HL.out (k + 1) (by simpa using hlt))).mono ?_
          rintro e w2 ⟨rfl, hb2⟩
          have HB2 := Lib.hid (HR.out.trans ⟨hb2.os, hb2.tape, hb2.output, hb2.size, fun i hi => hb2.block i (Nat.lt_of_lt_of_le hi HR.out.size)⟩)
          clear hb2
          go_wp2_with fail
          refine ⟨⟨k + 1, by omega, by go_num, ?_, HB2.out⟩, by simp [intOf]; omega⟩
          rw [least_snoc a0 t ts k hlt]
        · have HR := Lib.hid hbr
          clear hbr
          go_wp2_with fail
          go_ret
          refine ⟨ret_int ?_, HR.out⟩
          rw [List.take_of_length_le (by simp; omega)]
end Go.Proofs.YtiobkccmgigmhaaDoor.X
