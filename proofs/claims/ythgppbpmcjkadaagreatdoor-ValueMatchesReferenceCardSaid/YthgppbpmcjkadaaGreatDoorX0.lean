/- The laid variables (a table of powers of ten, two errors); strconv.Itoa in the form of the printed contracts. -/
import Derived.Test.YthgppbpmcjkadaaGreatDoorShelf
import Derived.Test.YthgppbpmcjkadaaGreatDoorWWords
import Derived.Test.YthgppbpmcjkadaaGreatDoorWMore
import Derived.Lib.SmallJoins
import Derived.Lib.AppendIntMem
import Derived.Below
import Derived.Lib.ItoaNum
import Derived.Lib.ItoaLen
import Derived.Lib.Hide
set_option linter.unusedVariables false
set_option linter.unusedSimpArgs false
namespace Go.Proofs.YthgppbpmcjkadaaGreatDoor.X
open Go.RowKit Go.Proofs.YthgppbpmcjkadaaGreatDoorW.PrintWords
/-- The table of powers of ten and the two errors lie where the program's text lays them. -/
def GT (w : World) : Prop := Lib.TabIs Tryz.prog w "internal/strconv.uint64pow10" .u64 Lib.pow10Tab ∧ (∃ tp p, w.var? Tryz.prog "strconv.ErrSyntax" = some #[.iface tp p]) ∧ ∃ tp p, w.var? Tryz.prog "strconv.ErrRange" = some #[.iface tp p]
theorem GT.below {w w1 : World} (h : GT w) (hb : Below w.heap.size w w1) : GT w1 := by
  obtain ⟨h1, ⟨t2, p2, h2⟩, t3, p3, h3⟩ := h
  exact ⟨Joins.tab_stays (g := 2) (by kernel_rfl) h1 hb (Nat.le_refl _), ⟨t2, p2, Joins.var_stays (g := 0) (by kernel_rfl) h2 hb (Nat.le_refl _)⟩, t3, p3, Joins.var_stays (g := 1) (by kernel_rfl) h3 hb (Nat.le_refl _)⟩
def strconv_Itoa.f (a0 : Int) : Option ByteArray := if -9223372036854775808 ≤ a0 then (if a0 ≤ 9223372036854775807 then some ⟨(Lib.itoa a0).toArray⟩ else none) else none
theorem strconv_Itoa.calls (a0 : Int) (r : ByteArray) (w : World) (hG : GT w) (h : strconv_Itoa.f a0 = some r) :
    Calls Tryz.prog 40 #[.int .i64 a0] w fun e w' => e = .returned (.string r) ∧ Below w.heap.size w w' := by
  unfold strconv_Itoa.f at h
  split at h
  case isFalse => cases h
  split at h
  case isFalse => cases h
  rename_i h0 h1
  obtain rfl := Option.some.inj h
  refine (Tryz.strconv_Itoa a0 h0 h1 w hG.1).mono ?_
  rintro e w' ⟨rfl, k, os, rfl⟩
  exact ⟨rfl, Lib.below_grow _ _ (Nat.le_refl _) _ _⟩
end Go.Proofs.YthgppbpmcjkadaaGreatDoor.X
