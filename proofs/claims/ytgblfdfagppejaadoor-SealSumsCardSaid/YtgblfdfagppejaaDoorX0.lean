/- Contracts of library functions (strconv.Itoa, strings.Join, strings.Cut at one byte; the reference's Decimal), in the form of the printed ones. -/
import Derived.Test.YtgblfdfagppejaaDoorShelf
import Derived.Test.YtgblfdfagppejaaDoorWWords
import Derived.Test.YtgblfdfagppejaaDoorWMore
import Derived.Lib.SmallJoins
import Derived.Lib.AppendIntMem
import Derived.Deep.QuietTactic
import Derived.OwnWalk
import Derived.Laws.MakeOwn
import Derived.Below
import Derived.BigQuiet
import Derived.Lib.ItoaNum
import Derived.Lib.ItoaLen
import Derived.Lib.Hide
set_option linter.unusedVariables false
set_option linter.unusedSimpArgs false
namespace Go.Proofs.YtgblfdfagppejaaDoor.X
open Go.RowKit Go.Proofs.YtgblfdfagppejaaDoorW.PrintWords

/-- The table of powers of ten lies where the program's text lays it. -/
def GT (w : World) : Prop := Lib.TabIs Tryd.prog w "internal/strconv.uint64pow10" .u64 Lib.pow10Tab
theorem GT.below {w w1 : World} (h : GT w) (hb : Below w.heap.size w w1) : GT w1 := by
  exact Joins.tab_stays (g := 1) (by kernel_rfl) h hb (Nat.le_refl _)

def strconv_Itoa.f (a0 : Int) : Option ByteArray := if -9223372036854775808 ≤ a0 then (if a0 ≤ 9223372036854775807 then some ⟨(Lib.itoa a0).toArray⟩ else none) else none
theorem strconv_Itoa.calls (a0 : Int) (r : ByteArray) (w : World) (hG : GT w) (h : strconv_Itoa.f a0 = some r) :
    Calls Tryd.prog 38 #[.int .i64 a0] w fun e w' => e = .returned (.string r) ∧ Below w.heap.size w w' := by
  unfold strconv_Itoa.f at h
  split at h
  case isFalse => cases h
  split at h
  case isFalse => cases h
  rename_i h0 h1
  obtain rfl := Option.some.inj h
  refine (Tryd.strconv_Itoa a0 h0 h1 w hG).mono ?_
  rintro e w' ⟨rfl, k, os, rfl⟩
  exact ⟨rfl, Lib.below_grow _ _ (Nat.le_refl _) _ _⟩

/-- Where a row has an element, it lies at a plain address. -/
theorem plain_of {α : Type} {d : Kd α} {w : World} {A : Option Addr} {l : List α} (hs : 0 < d.sz) (h : Kd.C d w A l.length l) (hn : 0 < l.length) : ∃ b o, A = some ⟨b, o, none⟩ ∧ b < w.heap.size := by
  obtain ⟨ad, hA, hc⟩ := h.2.2 hn
  obtain ⟨c, hc1, hc2, hc3⟩ := hc 0 l[0] (by simp [hn])
  have h1 := hc3 0 c[0] (by simp [hc1, hs])
  rw [Nat.zero_mul, Nat.add_zero, show ad.add 0 = ad from by simp [Addr.add]] at h1
  obtain ⟨b, o, s⟩ := ad
  cases s with
  | none => exact ⟨b, o, hA, World.block_lt_of_cell? w _ h1⟩
  | some s =>
    exfalso
    unfold World.cell? at h1
    split at h1
    · simp at h1
    · cases h1
theorem add_at (b o j : Nat) : (⟨b, o, none⟩ : Addr).add j = ⟨b, o + j, none⟩ := by
  unfold Addr.add
  split <;> simp_all

def strings_Join.f (l0 : List ByteArray) (a1 : ByteArray) : Option ByteArray :=
  if l0.length ≤ 140737488355328 then (if (Lib.join (l0.map (·.data.toList)) a1.data.toList).length ≤ 140737488355328 then some ⟨(Lib.join (l0.map (·.data.toList)) a1.data.toList).toArray⟩ else none) else none
theorem strings_Join.calls (A0 : Option Addr) (c0 : Nat) (l0 : List ByteArray) (a1 : ByteArray) (r : ByteArray) (w : World) (hr0 : Kd.C Kd.string w A0 l0.length l0) (hc0 : l0.length ≤ c0) (h : strings_Join.f l0 a1 = some r) :
    Calls Tryd.prog 29 #[.slice A0 l0.length c0, .string a1] w fun e w' => e = .returned (.string r) ∧ Below w.heap.size w w' := by
  unfold strings_Join.f at h
  split at h
  case isFalse => cases h
  split at h
  case isFalse => cases h
  rename_i h0 h1
  obtain rfl := Option.some.inj h
  rcases Nat.eq_zero_or_pos l0.length with hz | hn
  · obtain rfl := List.eq_nil_of_length_eq_zero hz
    refine (Tryd.strings_Join_none _ _ _ _).mono ?_
    rintro e w' ⟨rfl, rfl⟩
    exact ⟨rfl, Below.refl _ _⟩
  · obtain ⟨b, o, rfl, hb⟩ := plain_of (by decide) hr0 hn
    refine Tryd.strings_Join b o c0 l0 a1 w ?_ hb h0 hc0 h1
    intro j x hx
    obtain ⟨hj, hx⟩ := List.getElem?_eq_some_iff.1 hx
    obtain ⟨ad, hA, hc⟩ := Kd.at_string hr0 j (by omega) (by omega)
    cases hA
    rw [add_at] at hc
    simpa [rdOf, List.getD_eq_getElem?_getD, hj, hx] using hc


/-! ### strings.Cut at a separator of one byte -/
def cutAt (s : ByteArray) (c : UInt8) : ByteArray × ByteArray × Bool :=
  if 0 ≤ Lib.indexByte s.data.toList c then (s.extract 0 (Lib.indexByte s.data.toList c).toNat, s.extract ((Lib.indexByte s.data.toList c).toNat + 1) s.size, true) else (s, ⟨#[]⟩, false)
theorem indexByte_lt (c : UInt8) : ∀ (l : List UInt8), -1 ≤ Lib.indexByte l c ∧ Lib.indexByte l c < l.length := by
  intro l
  induction l with
  | nil => simp [Lib.indexByte]
  | cons x l ih =>
    simp only [Lib.indexByte, List.length_cons]
    split
    · omega
    · split <;> omega
theorem index_any (s : ByteArray) (c : UInt8) (w : World) : Calls Tryd.prog 40 #[.string s, .string ⟨#[c]⟩] w fun e w' => e = .returned (.int .i64 (Lib.indexByte s.data.toList c)) ∧ w' = w := Tryd.stringslite_Index_one s c w
theorem cut_any (s : ByteArray) (c : UInt8) (hs : s.size ≤ 140737488355328) (w : World) : Calls Tryd.prog 33 #[.string s, .string ⟨#[c]⟩] w fun e w' => e = .returned (.tuple #[.string (cutAt s c).1, .string (cutAt s c).2.1, .bool (cutAt s c).2.2]) ∧ ∃ m, w' = w.drewN m := by
  have HB := Lib.hid (indexByte_lt c s.data.toList)
  have HI := Lib.hid (index_any s c)
  have HC := Lib.hid (show cutAt s c = if 0 ≤ Lib.indexByte s.data.toList c then (s.extract 0 (Lib.indexByte s.data.toList c).toNat, s.extract ((Lib.indexByte s.data.toList c).toNat + 1) s.size, true) else (s, ⟨#[]⟩, false) from rfl)
  have hsz : s.data.toList.length = s.size := by rw [Array.length_toList]; rfl
  generalize Lib.indexByte s.data.toList c = i at *
  rcases Classical.em (0 ≤ i) with h0 | h0
  · have h1 : i ≤ (s.size : Int) := by have := HB.out.2; omega
    have h2 : wrap64 (i + 1) = i + 1 := by have := HB.out.2; unfold wrap64; omega
    have h3 : 0 ≤ i + 1 := by omega
    have h4 : i + 1 ≤ (s.size : Int) := by have := HB.out.2; omega
    have h5 : decide (0 ≤ i) = true := decide_eq_true h0
    have h6 : (⟨#[c]⟩ : ByteArray).size = 1 := rfl
    have HT : (i + 1).toNat = i.toNat + 1 := by omega
    have HT := Lib.hid HT
    rw [if_pos h0] at HC
    go_enter Tryd.func33, Tryd.ntmps33
    go_wp2_with fail
    refine (HI.out _).mono ?_
    rintro e w' ⟨rfl, rfl⟩
    go_wp2_with fail
    go_quiet (fail)
    go_wp2_with fail
    go_ret3
    refine ⟨?_, _, rfl⟩
    rw [HC.out]
    rfl
  · have h5 : decide (0 ≤ i) = false := decide_eq_false h0
    rw [if_neg h0] at HC
    go_enter Tryd.func33, Tryd.ntmps33
    go_wp2_with fail
    refine (HI.out _).mono ?_
    rintro e w' ⟨rfl, rfl⟩
    go_wp2_with fail
    go_ret3
    refine ⟨?_, 0, rfl⟩
    rw [HC.out]
    rfl
def strings_Cut.f (a0 a1 : ByteArray) : Option (ByteArray × ByteArray × Bool) := if a0.size ≤ 140737488355328 then (if a1 = ⟨#[58]⟩ then some (cutAt a0 58) else none) else none
theorem strings_Cut.calls (a0 a1 : ByteArray) (r1 : ByteArray) (r2 : ByteArray) (r3 : Bool) (w : World) (h : strings_Cut.f a0 a1 = some (r1, r2, r3)) :
    Calls Tryd.prog 28 #[.string a0, .string a1] w fun e w' => e = .returned (.tuple #[.string r1, .string r2, .bool r3]) ∧ Drawn0 w w' := by
  unfold strings_Cut.f at h
  split at h
  case isFalse => cases h
  split at h
  case isFalse => cases h
  rename_i h0 h1
  subst h1
  have HC := Lib.hid (cut_any a0 58 h0)
  have HE := Lib.hid (Option.some.inj h)
  clear h h0
  go_enter Tryd.func28, Tryd.ntmps28
  go_wp2_with fail
  refine (HC.out _).mono ?_
  rintro e w' ⟨rfl, m, rfl⟩
  have h1 : (cutAt a0 58).1 = r1 := by rw [HE.out]
  have h2 : (cutAt a0 58).2.1 = r2 := by rw [HE.out]
  have h3 : (cutAt a0 58).2.2 = r3 := by rw [HE.out]
  rw [h1, h2, h3]
  go_wp2_with fail
  go_ret3
  exact ⟨rfl, ⟨m, rfl⟩⟩

/-! ### the reference's Decimal -/
def U64 (n : Nat) : Prop := n ≤ 9223372036854775807
theorem ret_str {a b : ByteArray} (h : a = b) : Ending.returned (.string a) = .returned (.string b) := by rw [h]
def digs : ByteArray := ⟨#[48, 49, 50, 51, 52, 53, 54, 55, 56, 57]⟩
def digB (n : Nat) : ByteArray := ⟨#[UInt8.ofNat (48 + n)]⟩
theorem digit_at (n : Nat) (hn : n < 10) : digs.extract n (n + 1) = digB n := by
  rcases (by omega : n = 0 ∨ n = 1 ∨ n = 2 ∨ n = 3 ∨ n = 4 ∨ n = 5 ∨ n = 6 ∨ n = 7 ∨ n = 8 ∨ n = 9) with rfl | rfl | rfl | rfl | rfl | rfl | rfl | rfl | rfl | rfl <;> decide +kernel
theorem digit_slice (n : Nat) (hn : n < 10) (W : World) : (Instr.slice 9 (.string ⟨#[48, 49, 50, 51, 52, 53, 54, 55, 56, 57]⟩) (some (.int .i64 n)) (some (.int .i64 ((n : Int) + 1))) none).run Tryd.prog W = .ok (.string (digB n)) W := by
  have h := run_slice_string (P := Tryd.prog) (w := W) 9 digs .i64 .i64 n ((n : Int) + 1) Tryd.underlying9 (by omega) (by omega) (by show (n : Int) + 1 ≤ 10; omega)
  rw [show ((n : Int) + 1).toNat = n + 1 by omega, Int.toNat_natCast, digit_at n hn] at h
  exact h
def decB (n : Nat) : ByteArray := ⟨(Lib.decDigits n).toArray⟩
theorem decB_size (n : Nat) (h : U64 n) : (decB n).size ≤ 20 := by
  show (Lib.decDigits n).toArray.size ≤ 20
  rw [List.size_toArray, Lib.decDigits_length]
  exact Lib.nDigits_le20 _ (by unfold U64 at h; omega)
theorem decB_small (n : Nat) (h : n < 10) : digB n = decB n := by
  unfold digB decB
  rw [Lib.decDigits_one h]
theorem decB_big (n : Nat) (h : ¬ n < 10) : decB (n / 10) ++ digB (n % 10) = decB n := by
  unfold digB decB
  rw [Lib.decDigits.eq_1 n, dif_neg h]
  rfl

/-- The digits of a number; none of 0. -/
def digsB (n : Nat) : ByteArray := if n = 0 then ⟨#[]⟩ else decB n
theorem digsB_size (n : Nat) (h : U64 n) : (digsB n).size ≤ 20 := by
  unfold digsB
  split
  · exact Nat.zero_le _
  · exact decB_size n h
theorem dec_step (n : Nat) : digsB (n / 10) ++ digB (n % 10) = decB n := by
  unfold digsB
  by_cases h : n < 10
  · rw [if_pos (by omega), Nat.mod_eq_of_lt h, ← decB_small n h]
    show ByteArray.empty ++ _ = _
    rw [ByteArray.empty_append]
  · rw [if_neg (by omega), decB_big n h]
theorem digits_any : ∀ (n : Nat), U64 n → ∀ w : World, Calls Tryd.prog 39 #[.int .i64 n] w fun e w' => e = .returned (.string (digsB n)) ∧ ∃ m, w' = w.drewN m := by
  intro n
  induction n using Nat.strongRecOn with
  | _ n ih =>
  intro hn w
  by_cases hz : n = 0
  · subst hz
    clear ih hn
    go_enter Tryd.func39, Tryd.ntmps39
    go_wp2
    go_ret
    exact ⟨rfl, 0, rfl⟩
  · have IH := Lib.hid (ih (n / 10) (by omega) (by unfold U64 at *; omega))
    clear ih
    have HN := Lib.hid hn
    have hds := digit_slice (n % 10) (by omega)
    have hz1 : ((n : Int) == 0) = false := beq_eq_false_iff_ne.2 (by omega)
    have hz2 : ¬ (n : Int) = 0 := by omega
    have hw : wrap64 ((n : Int) % 10 + 1) = (n : Int) % 10 + 1 := by unfold wrap64; omega
    have hw2 : wrap64 ((n : Int) / 10) = (n : Int) / 10 := by unfold U64 at hn; unfold wrap64; omega
    rw [show ((n % 10 : Nat) : Int) = (n : Int) % 10 by omega] at hds
    have IH' := Lib.hid (show ∀ w : World, Calls Tryd.prog 39 #[.int .i64 ((n : Int) / 10)] w fun e w' => e = .returned (.string (digsB (n / 10))) ∧ ∃ m, w' = w.drewN m from fun w => by
      have h := IH.out w
      rw [show ((n / 10 : Nat) : Int) = (n : Int) / 10 by omega] at h
      exact h)
    clear IH hn
    have htm : (n : Int).tmod 10 = (n : Int) % 10 := Int.tmod_eq_emod_of_nonneg (by omega)
    have htd : (n : Int).tdiv 10 = (n : Int) / 10 := Int.tdiv_eq_ediv_of_nonneg (by omega)
    have hcat : ∀ W : World, (Op.stringOp .add (digsB (n / 10)) (digB (n % 10))).run Tryd.prog W = .ok (.string (decB n)) W := fun W => by
      have h1 := digsB_size (n / 10) (by have := HN.out; unfold U64 at *; omega)
      have h2 : (digB (n % 10)).size = 1 := rfl
      exact (run_string_add_sum W _ _ (by omega)).trans (by rw [dec_step n])
    have HE := Lib.hid (show decB n = digsB n from (if_neg hz).symm)
    go_enter Tryd.func39, Tryd.ntmps39
    go_wp2
    go_quiet ((go_at_call 39; exact Calls.quiet_of (IH'.out _)))
    go_wp2
    go_ret
    exact ⟨ret_str HE.out, _, rfl⟩
def cleanseref15_Decimal.f (a0 : Int) : Option ByteArray := if 0 ≤ a0 then (if a0 ≤ 9223372036854775807 then some ⟨(Lib.itoa a0).toArray⟩ else none) else none
theorem cleanseref15_Decimal.calls (a0 : Int) (r : ByteArray) (w : World) (h : cleanseref15_Decimal.f a0 = some r) :
    Calls Tryd.prog 32 #[.int .i64 a0] w fun e w' => e = .returned (.string r) ∧ Drawn0 w w' := by
  unfold cleanseref15_Decimal.f at h
  split at h
  case isFalse => cases h
  split at h
  case isFalse => cases h
  rename_i h0 h1
  obtain rfl := Option.some.inj h
  clear h
  obtain ⟨n, rfl⟩ : ∃ n : Nat, a0 = (n : Int) := ⟨a0.toNat, by omega⟩
  have HE := Lib.hid (show (⟨(Lib.itoa (n : Int)).toArray⟩ : ByteArray) = decB n by unfold Lib.itoa decB; rw [if_neg (by omega)]; rfl)
  have hds := digit_slice (n % 10) (by omega)
  have hlt : decide ((n : Int) < 0) = false := decide_eq_false (by omega)
  have hw : wrap64 ((n : Int) % 10 + 1) = (n : Int) % 10 + 1 := by unfold wrap64; omega
  have hw2 : wrap64 ((n : Int) / 10) = (n : Int) / 10 := by unfold wrap64; omega
  rw [show ((n % 10 : Nat) : Int) = (n : Int) % 10 by omega] at hds
  have IH' := Lib.hid (show ∀ w : World, Calls Tryd.prog 39 #[.int .i64 ((n : Int) / 10)] w fun e w' => e = .returned (.string (digsB (n / 10))) ∧ ∃ m, w' = w.drewN m from fun w => by
    have h := digits_any (n / 10) (by unfold U64; omega) w
    rw [show ((n / 10 : Nat) : Int) = (n : Int) / 10 by omega] at h
    exact h)
  have htm : (n : Int).tmod 10 = (n : Int) % 10 := Int.tmod_eq_emod_of_nonneg (by omega)
  have htd : (n : Int).tdiv 10 = (n : Int) / 10 := Int.tdiv_eq_ediv_of_nonneg (by omega)
  have hcat : ∀ W : World, (Op.stringOp .add (digsB (n / 10)) (digB (n % 10))).run Tryd.prog W = .ok (.string (decB n)) W := fun W => by
    have h1 := digsB_size (n / 10) (by unfold U64; omega)
    have h2 : (digB (n % 10)).size = 1 := rfl
    exact (run_string_add_sum W _ _ (by omega)).trans (by rw [dec_step n])
  clear h0 h1
  go_enter Tryd.func32, Tryd.ntmps32
  go_wp2
  go_quiet ((go_at_call 39; exact Calls.quiet_of (IH'.out _)))
  go_wp2
  go_ret
  exact ⟨ret_str HE.out.symm, by repeat (first | exact Drawn0.refl _ | apply Drawn0.step | exact ⟨_, rfl⟩)⟩
/-! ### make with a capacity -/
section
variable {P : Program} {ops : Array Oper} {Q : Exit → Act → World → Prop} {rest : List Oper} {a : Act} {o : Oper}
theorem R_makecap {α : Type} (d : Kd α) {w0 W : World} (base e : Nat) (hgd : o.guard = none) {N : Tmp} (_hd : o.dst = some N) (t : TypeId) (x y : Operand) (ho : o.op = .makeSlice t x y) (c : Nat) (hx : a.eval x = .int .i64 0) (hy : a.eval y = .int .i64 (c : Int))
    (ht : P.underlying t = some (.slice e)) (z : Value) (bytes : Nat) (hinfo : (P.info? e).map (fun i => (i.zero, i.size, i.bytes)) = some (some z, d.sz, bytes))
    (z0 : α) {ok okp : Nat → Prop} (hok : ∀ k, okp k → ok k) (hfresh : ok W.heap.size) (hl : c * bytes ≤ 281474976710656) (hm : c ≤ maxLen) (HB : Below base w0 W) (hbase : base ≤ W.heap.size)
    (h : ∀ v1 w1, d.R e w1 base ok v1 (List.replicate 0 z0) → Below base w0 w1 → W.grownBy w1 none → (∃ b, v1.ownBlock = some b ∧ W.heap.size ≤ b) → wpList P ops Q rest (a.put o.dst v1) w1) : wpList P ops Q (o :: rest) a W := by
  obtain ⟨i0, hi, hzz⟩ := Option.map_eq_some_iff.1 hinfo
  simp only [Prod.mk.injEq] at hzz
  obtain ⟨hz0, hz1, hz2⟩ := hzz
  obtain ⟨w1, hr, hown, hg⟩ := run_make_own (P := P) W base t e i0 z d.sz ht hi hz0 hz1 .i64 .i64 c (by rw [hz2, Nat.mul_comm]; exact hl) hm hbase
  refine Kd.event_run hgd (w1 := w1) (v := .slice (some ⟨W.heap.size, 0, none⟩) 0 c) ?_ (h _ _ ⟨fun k hk => ?_, [], hown, Reps.none _ _⟩ (HB.grown hg hbase (fun k e => by cases e)) hg ⟨W.heap.size, by simp [Value.ownBlock], Nat.le_refl _⟩)
  · simp [execOp, ho, hx, hy, hr]
  · have : W.heap.size = k := by simpa [Value.ownBlock] using hk
    subst this
    exact hfresh
end
end Go.Proofs.YtgblfdfagppejaaDoor.X
