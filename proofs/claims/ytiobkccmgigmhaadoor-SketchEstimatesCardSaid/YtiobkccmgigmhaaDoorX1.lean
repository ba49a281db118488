/- Contracts of library functions (strconv.Itoa, strings.Join, slices.Clone), in the form of the printed ones. -/
import Derived.Test.YtiobkccmgigmhaaDoorShelf
import Derived.Test.YtiobkccmgigmhaaDoorWWords
import Derived.Test.YtiobkccmgigmhaaDoorWMore
import Derived.Lib.SmallJoins
import Derived.Lib.AppendIntMem
set_option linter.unusedVariables false
set_option linter.unusedSimpArgs false
namespace Go.Proofs.YtiobkccmgigmhaaDoor.X
open Go.RowKit Go.Proofs.YtiobkccmgigmhaaDoorW.PrintWords

/-- The table of powers of ten lies where the program's text lays it. -/
def GT (w : World) : Prop := Lib.TabIs Tryd.prog w "internal/strconv.uint64pow10" .u64 Lib.pow10Tab
theorem GT.below {w w1 : World} (h : GT w) (hb : Below w.heap.size w w1) : GT w1 := by
  exact Joins.tab_stays (g := 0) (by kernel_rfl) h hb (Nat.le_refl _)

def strconv_Itoa.f (a0 : Int) : Option ByteArray := if -9223372036854775808 ≤ a0 then (if a0 ≤ 9223372036854775807 then some ⟨(Lib.itoa a0).toArray⟩ else none) else none
theorem strconv_Itoa.calls (a0 : Int) (r : ByteArray) (w : World) (hG : GT w) (h : strconv_Itoa.f a0 = some r) :
    Calls Tryd.prog 31 #[.int .i64 a0] w fun e w' => e = .returned (.string r) ∧ Below w.heap.size w w' := by
  unfold strconv_Itoa.f at h
  split at h
  case isFalse => cases h
  split at h
  case isFalse => cases h
  rename_i h0 h1
  obtain rfl := Option.some.inj h
  refine (Tryd.strconv_Itoa a0 h0 h1 w hG).mono ?_
  rintro e w' ⟨rfl, k, os, rfl⟩
  exact ⟨rfl, Lib.below_grow _ _ (Nat.le_refl _) _ _⟩

/-- Where a row has an element, it lies at a plain address. -/
theorem plain_of {α : Type} {d : Kd α} {w : World} {A : Option Addr} {l : List α} (hs : 0 < d.sz) (h : Kd.C d w A l.length l) (hn : 0 < l.length) : ∃ b o, A = some ⟨b, o, none⟩ ∧ b < w.heap.size := by
  obtain ⟨ad, hA, hc⟩ := h.2.2 hn
  obtain ⟨c, hc1, hc2, hc3⟩ := hc 0 l[0] (by simp [hn])
  have h1 := hc3 0 c[0] (by simp [hc1, hs])
  rw [Nat.zero_mul, Nat.add_zero, show ad.add 0 = ad from by simp [Addr.add]] at h1
  obtain ⟨b, o, s⟩ := ad
  cases s with
  | none => exact ⟨b, o, hA, World.block_lt_of_cell? w _ h1⟩
  | some s =>
    exfalso
    unfold World.cell? at h1
    split at h1
    · simp at h1
    · cases h1
theorem add_at (b o j : Nat) : (⟨b, o, none⟩ : Addr).add j = ⟨b, o + j, none⟩ := by
  unfold Addr.add
  split <;> simp_all

def strings_Join.f (l0 : List ByteArray) (a1 : ByteArray) : Option ByteArray :=
  if l0.length ≤ 140737488355328 then (if (Lib.join (l0.map (·.data.toList)) a1.data.toList).length ≤ 140737488355328 then some ⟨(Lib.join (l0.map (·.data.toList)) a1.data.toList).toArray⟩ else none) else none
theorem strings_Join.calls (A0 : Option Addr) (c0 : Nat) (l0 : List ByteArray) (a1 : ByteArray) (r : ByteArray) (w : World) (hr0 : Kd.C Kd.string w A0 l0.length l0) (hc0 : l0.length ≤ c0) (h : strings_Join.f l0 a1 = some r) :
    Calls Tryd.prog 32 #[.slice A0 l0.length c0, .string a1] w fun e w' => e = .returned (.string r) ∧ Below w.heap.size w w' := by
  unfold strings_Join.f at h
  split at h
  case isFalse => cases h
  split at h
  case isFalse => cases h
  rename_i h0 h1
  obtain rfl := Option.some.inj h
  rcases Nat.eq_zero_or_pos l0.length with hz | hn
  · obtain rfl := List.eq_nil_of_length_eq_zero hz
    refine (Tryd.strings_Join_none _ _ _ _).mono ?_
    rintro e w' ⟨rfl, rfl⟩
    exact ⟨rfl, Below.refl _ _⟩
  · obtain ⟨b, o, rfl, hb⟩ := plain_of (by decide) hr0 hn
    refine Tryd.strings_Join b o c0 l0 a1 w ?_ hb h0 hc0 h1
    intro j x hx
    obtain ⟨hj, hx⟩ := List.getElem?_eq_some_iff.1 hx
    obtain ⟨ad, hA, hc⟩ := Kd.at_string hr0 j (by omega) (by omega)
    cases hA
    rw [add_at] at hc
    simpa [rdOf, List.getD_eq_getElem?_getD, hj, hx] using hc

def slices_Clone_int_int.f (l0 : List Int) : Option (List Int) := if l0.length * 8 ≤ 140737488355328 then some l0 else none
theorem slices_Clone_int_int.calls (A0 : Option Addr) (c0 : Nat) (l0 : List Int) (r0 : List Int) (w : World) (hr0 : Kd.C (Kd.int .i64) w A0 l0.length l0) (hc0 : l0.length ≤ c0) (h : slices_Clone_int_int.f l0 = some r0) :
    Calls Tryd.prog 26 #[.slice A0 l0.length c0] w fun e w' => ∃ v0_ : Value, e = .returned (v0_) ∧ Kd.R (Kd.int .i64) 3 w' w.heap.size (fun _ => True) v0_ r0 ∧ Below w.heap.size w w' := by
  unfold slices_Clone_int_int.f at h
  split at h
  case isFalse => cases h
  rename_i h0
  obtain rfl := Option.some.inj h
  rcases Nat.eq_zero_or_pos l0.length with hz | hn
  · obtain rfl := List.eq_nil_of_length_eq_zero hz
    cases A0 with
    | none =>
      refine (Tryd.slices_Clone_int_nil _ _ _).mono ?_
      rintro e w' ⟨rfl, rfl⟩
      exact ⟨_, rfl, Kd.R_nil _ _ _ _ _, Below.refl _ _⟩
    | some a =>
      refine (Tryd.slices_Clone_int_zero a _ _).mono ?_
      rintro e w' ⟨v, rfl, ho, _, hb⟩
      exact ⟨_, rfl, Kd.R_of_own (enc := Value.int .i64) (xs := []) ho (fun _ _ => trivial), hb⟩
  · obtain ⟨b, o, rfl, hb⟩ := plain_of (by decide) hr0 hn
    refine (Tryd.slices_Clone_int b o l0.length c0 l0 w (Nat.le_refl _) h0 ?_).mono ?_
    · intro j hj
      obtain ⟨ad, hA, hc⟩ := Kd.at_int hr0 j (by omega) (by omega)
      cases hA
      rw [add_at] at hc
      exact hc
    · rintro e w' ⟨v, rfl, ho, _, hb⟩
      rw [List.take_length] at ho
      exact ⟨_, rfl, Kd.R_of_own (enc := Value.int .i64) (xs := l0) ho (fun _ _ => trivial), hb⟩
end Go.Proofs.YtiobkccmgigmhaaDoor.X
