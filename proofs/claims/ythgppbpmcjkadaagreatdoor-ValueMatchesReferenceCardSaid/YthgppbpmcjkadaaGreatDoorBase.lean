/- What the rows of this seat share: how arguments read, the laid tables, a world for the witness. -/
import Derived.Test.YthgppbpmcjkadaaGreatDoorCards
import Derived.Test.YthgppbpmcjkadaaGreatDoorTie
import Derived.Test.YthgppbpmcjkadaaGreatDoorX0
import Derived.Test.YthgppbpmcjkadaaGreatDoorPx0
import Derived.WalkKit
import Derived.ProofKit
import Derived.OpenShut
import Derived.ShutString
import Derived.ChangeOld
import Derived.Below
import Derived.SizedLaws
import Derived.Deep.DeepHandedRow
import Derived.Deep.Slices
import Derived.Deep.Fields
import Derived.ChangeSame
import Derived.Lib.LaidTab
import Derived.Lib.SmallJoins
import Derived.Stop.LaidErr
import Derived.SliceStrings
set_option linter.unusedVariables false
set_option linter.unusedSimpArgs false
namespace Go.Proofs.YthgppbpmcjkadaaGreatDoor.Base
open Go.ChangeShapes Go.WideShapes Go.ChangeAt Go.RowKit Go.Deep
open Go.Proofs.YthgppbpmcjkadaaGreatDoorW.PrintWords

theorem own : ownKnob Tryz.prog.godebug = none := by kernel_rfl
theorem laidOut : laidOutB Tryz.prog = true := by kernel_rfl
theorem gTab : Tryz.prog.globalNamed "internal/strconv.uint64pow10" = some 2 := by kernel_rfl
theorem gTabType : (Tryz.prog.globals[2]?).map (·.type) = some 149 := by kernel_rfl
theorem cells149 : Tryz.prog.cellsOf 149 = 20 := by kernel_rfl
theorem cells74 : Tryz.prog.cellsOf 74 = 1 := by kernel_rfl
theorem gE : Tryz.prog.globalNamed "strconv.ErrSyntax" = some 0 := by kernel_rfl
theorem gEType : (Tryz.prog.globals[0]?).map (·.type) = some 65 := by kernel_rfl
theorem gF : Tryz.prog.globalNamed "strconv.ErrRange" = some 1 := by kernel_rfl
theorem gFType : (Tryz.prog.globals[1]?).map (·.type) = some 65 := by kernel_rfl
theorem cells156 : Tryz.prog.cellsOf 156 = 1 := by kernel_rfl
theorem cells9 : Tryz.prog.cellsOf 9 = 1 := by kernel_rfl
theorem cells3 : Tryz.prog.cellsOf 3 = 1 := by kernel_rfl
theorem cells23 : Tryz.prog.cellsOf 23 = 3 := by kernel_rfl
theorem rowE (u : TypeId) (h : Tryz.prog.typeName? 3 u = some "*errors.errorString") : u = 154 :=
  typeName_ptr_named (nm := "errors.errorString") (tp := 154) (by kernel_rfl) (by kernel_rfl) (by decide +kernel) u h
theorem gt {W : World} (h : laidMetH Tryz.prog [("math/bits.deBruijn32tab", Rows.laid_math_bits_deBruijn32tab), ("math/bits.deBruijn64tab", Rows.laid_math_bits_deBruijn64tab), ("internal/strconv.uint64pow10", Rows.laid_internal_strconv_uint64pow10), ("strconv.ErrRange", Rows.laid_strconv_ErrRange), ("strconv.ErrSyntax", Rows.laid_strconv_ErrSyntax)] W) : X.GT W := by
  have h3 := laidMet.tail (laidMet.tail h)
  have h4 := laidMet.tail h3
  have h5 := laidMet.tail h4
  obtain ⟨a0, s0, hv0, _⟩ := laid_sentinel h4 gF gFType Tryz.underlying65 rowE Tryz.underlying154 Tryz.underlying156 rfl rfl Tryz.underlying9 cells156 cells9
  obtain ⟨a1, s1, hv1, _⟩ := laid_sentinel h5 gE gEType Tryz.underlying65 rowE Tryz.underlying154 Tryz.underlying156 rfl rfl Tryz.underlying9 cells156 cells9
  exact ⟨Lib.tabIs_of_head (rest := _) gTab gTabType Tryz.underlying149 Tryz.underlying74 cells74 cells149 h3, ⟨_, _, hv1⟩, ⟨_, _, hv0⟩⟩
section
variable {H : Type} {enc : TypeId × Value → H} {W : World}
theorem list3 {α : Type} {l : List α} (h : l.length = 3) : ∃ a b c, l = [a, b, c] := by
  match l, h with
  | [a, b, c], _ => exact ⟨a, b, c, rfl⟩
theorem row_vals {t e fuel : Nat} {a : Option Addr} {len cap : Nat} {sp : Nat → Bool} {held : Bool} {x : DataW H × List MemPlace} (ht : Tryz.prog.underlying t = some (.slice e)) (he : e = 23)
    (h : DataW.trod enc Tryz.prog W 0 sp held fuel t (Value.slice a len cap).cells.toList = some x) : ∃ l : List Px.S23, len = l.length ∧ Kd.C Px.k23 W a l.length l ∧ l.length ≤ cap ∧ ∀ s ∈ l, -9223372036854775808 ≤ s.f0 ∧ s.f0 ≤ 9223372036854775807 ∧ -9223372036854775808 ≤ s.f1 ∧ s.f1 ≤ 9223372036854775807 := by
  subst he
  rcases open_slice ht h with ⟨hcs, _⟩ | ⟨b, len', cap', m, n, D, Pl, hcs, _, hl, hm, hmm, _, hi⟩
  · simp [Value.cells] at hcs
    obtain ⟨rfl, rfl, rfl⟩ := hcs
    exact ⟨[], rfl, ⟨rfl, by simp, fun h => absurd h (by simp)⟩, Nat.le_refl _, by simp⟩
  · simp [Value.cells] at hcs
    obtain ⟨rfl, rfl, rfl⟩ := hcs
    have hle : len ≤ m := by rw [hmm]; split <;> omega
    have hone : oneCellFields Tryz.prog #[Field.mk "Kind" 3 0 false "" "" 0, Field.mk "N" 3 1 false "" "" 8, Field.mk "Text" 9 2 false "" "" 16] = true := by kernel_rfl
    have key : ∀ i, i < m → ∃ s : Px.S23, (W.cell? (b.add (i * 3)) = some (.int .i64 s.f0) ∧ W.cell? (b.add (i * 3 + 1)) = some (.int .i64 s.f1) ∧ W.cell? (b.add (i * 3 + 2)) = some (.string s.f2)) ∧ -9223372036854775808 ≤ s.f0 ∧ s.f0 ≤ 9223372036854775807 ∧ -9223372036854775808 ≤ s.f1 ∧ s.f1 ≤ 9223372036854775807 := by
      intro i him
      obtain ⟨cs', hc, ht'⟩ := hi i him
      rw [cells23] at hc
      obtain ⟨ys, n', _, _, hlen, hyl, hf⟩ := DataW.trod_struct Tryz.underlying23 ht'
      obtain ⟨_, hcl, hat⟩ := World.cells?_some hc
      obtain ⟨c0, c1, c2, rfl⟩ := list3 hcl
      obtain ⟨y0, y1, y2, rfl⟩ := list3 hyl
      have hf0 : DataW.trod enc Tryz.prog W 0 sp held n' 3 [c0] = some y0 := by
        have h : DataW.trod enc Tryz.prog W 0 sp held n' 3 (([c0, c1, c2].drop 0).take (Tryz.prog.cellsOf 3)) = some y0 := hf 0 ⟨"Kind", 3, 0, false, "", "", 0⟩ rfl
        rw [cells3] at h
        exact h
      have hf1 : DataW.trod enc Tryz.prog W 0 sp held n' 3 [c1] = some y1 := by
        have h : DataW.trod enc Tryz.prog W 0 sp held n' 3 (([c0, c1, c2].drop 1).take (Tryz.prog.cellsOf 3)) = some y1 := hf 1 ⟨"N", 3, 1, false, "", "", 8⟩ rfl
        rw [cells3] at h
        exact h
      have hf2 : DataW.trod enc Tryz.prog W 0 sp held n' 9 [c2] = some y2 := by
        have h : DataW.trod enc Tryz.prog W 0 sp held n' 9 (([c0, c1, c2].drop 2).take (Tryz.prog.cellsOf 9)) = some y2 := hf 2 ⟨"Text", 9, 2, false, "", "", 16⟩ rfl
        rw [cells9] at h
        exact h
      obtain ⟨x0, e0, _, w0⟩ := DataW.trod_int Tryz.underlying3 hf0
      obtain ⟨x1, e1, _, w1⟩ := DataW.trod_int Tryz.underlying3 hf1
      obtain ⟨x2, e2, _, w2⟩ := DataW.trod_string Tryz.underlying9 hf2
      obtain rfl : c0 = _ := by simpa using e0
      obtain rfl : c1 = _ := by simpa using e1
      obtain rfl : c2 = _ := by simpa using e2
      have b0 := bounds_i64 w0
      have b1 := bounds_i64 w1
      have ea : ∀ j, (b.add (i * 3)).add j = b.add (i * 3 + j) := fun j => (Deep.add_add b (i * 3) j)
      refine ⟨⟨x0, x1, x2⟩, ⟨?_, ?_, ?_⟩, b0.1, b0.2, b1.1, b1.2⟩
      · have h := hat 0 (by omega); rw [ea] at h; exact h
      · have h := hat 1 (by omega); rw [ea] at h; exact h
      · have h := hat 2 (by omega); rw [ea] at h; exact h
    let l : List Px.S23 := (List.range len).attach.map fun i => (key i.1 (by have := List.mem_range.1 i.2; omega)).choose
    have hll : l.length = len := by simp [l]
    have hget : ∀ j (hj : j < len), ∃ s : Px.S23, l[j]? = some s ∧ (W.cell? (b.add (j * 3)) = some (.int .i64 s.f0) ∧ W.cell? (b.add (j * 3 + 1)) = some (.int .i64 s.f1) ∧ W.cell? (b.add (j * 3 + 2)) = some (.string s.f2)) ∧ -9223372036854775808 ≤ s.f0 ∧ s.f0 ≤ 9223372036854775807 ∧ -9223372036854775808 ≤ s.f1 ∧ s.f1 ≤ 9223372036854775807 := by
      intro j hj
      refine ⟨(key j (by omega)).choose, ?_, (key j (by omega)).choose_spec⟩
      simp [l, hj]
    refine ⟨l, hll.symm, ⟨rfl, by unfold maxLen at hm; omega, fun _ => ⟨b, rfl, fun j s hj => ?_⟩⟩, by omega, fun s hs => ?_⟩
    · have hjl : j < len := by
        have := (List.getElem?_eq_some_iff.1 hj).1
        omega
      obtain ⟨s', hs', hc, _⟩ := hget j hjl
      obtain rfl : s' = s := Option.some.inj (hs'.symm.trans hj)
      refine ⟨[.int .i64 s'.f0, .int .i64 s'.f1, .string s'.f2], rfl, Px.k23_mk W s', fun i u hi => ?_⟩
      match i, hi with
      | 0, hi => obtain rfl := Option.some.inj hi; exact hc.1
      | 1, hi => obtain rfl := Option.some.inj hi; exact hc.2.1
      | 2, hi => obtain rfl := Option.some.inj hi; exact hc.2.2
      | i + 3, hi => simp at hi
    · obtain ⟨j, hj, e⟩ := List.mem_iff_getElem.1 hs
      obtain ⟨s', hs', _, hb⟩ := hget j (by omega)
      rw [List.getElem?_eq_getElem hj] at hs'
      rw [← e, Option.some.inj hs']
      exact hb
end
/-- A world for the witness: the settled one, the tables holding what their initialisers lay. -/
noncomputable def laidWorld (os : Os) : World :=
  let w0 := World.holding Tryz.prog os ⟨#[], #[], []⟩
  let lay (o : Obj) (cs : Array Value) : Obj := match o with
    | .cells _ t frozen => .cells cs t frozen
    | o => o
  { w0 with heap := ((((((w0.heap.modify 2 fun o => lay o (#[1, 10, 100, 1000, 10000, 100000, 1000000, 10000000, 100000000, 1000000000, 10000000000, 100000000000, 1000000000000, 10000000000000, 100000000000000, 1000000000000000, 10000000000000000, 100000000000000000, 1000000000000000000, 10000000000000000000].map (Value.int .u64))).modify 3 fun o => lay o (#[0, 1, 28, 2, 29, 14, 24, 3, 30, 22, 20, 15, 25, 17, 4, 8, 31, 27, 13, 23, 21, 19, 16, 7, 26, 12, 18, 6, 11, 5, 10, 9].map (Value.int .u8))).modify 4 fun o => lay o (#[0, 1, 56, 2, 57, 49, 28, 3, 61, 58, 42, 50, 38, 29, 17, 4, 62, 47, 59, 36, 45, 43, 51, 22, 53, 39, 33, 30, 24, 18, 12, 5, 63, 55, 48, 27, 60, 41, 37, 16, 46, 35, 44, 21, 52, 32, 23, 11, 54, 26, 40, 15, 34, 20, 31, 10, 25, 14, 19, 9, 13, 8, 7, 6].map (Value.int .u8))).modify 0 fun o => lay o #[.iface 154 (.pointer (some ⟨w0.heap.size, 0, none⟩))]).modify 1 fun o => lay o #[.iface 154 (.pointer (some ⟨w0.heap.size + 1, 0, none⟩))]).push (.cells #[.string ⟨#[105, 110, 118, 97, 108, 105, 100, 32, 115, 121, 110, 116, 97, 120]⟩] 156 (0, 0))).push (.cells #[.string ⟨#[118, 97, 108, 117, 101, 32, 111, 117, 116, 32, 111, 102, 32, 114, 97, 110, 103, 101]⟩] 156 (0, 0)) }
end Go.Proofs.YthgppbpmcjkadaaGreatDoor.Base
