/- strings.Replacer's build for the three pairs of value.Text: a replacer of bytes by texts. -/
import Derived.Test.YthgppbpmcjkadaaGreatDoorX2
import Derived.Test.YthgppbpmcjkadaaGreatDoorWLast
import Derived.ControlIn
import Derived.Deep.RegionHeld3
import Derived.Deep.QuietTactic
import Derived.BigQuiet
import Derived.WalkKit
import Derived.OwnWalk
import Derived.LoopTactic
import Derived.WalkLawsBesides
import Derived.Sort.Row
import Derived.Maps.AppendAt
import Derived.Laws.MakeOwn
import Derived.Laws.OwnMore
import Derived.Laws.IdiomStrings
import Derived.Deep.WholeRow
import Derived.Lib.ConvBytes
import Derived.Laws.Cover3
set_option linter.unusedVariables false
set_option linter.unusedSimpArgs false
namespace Go.Proofs.YthgppbpmcjkadaaGreatDoor.X
open Go.RowKit Go.Proofs.YthgppbpmcjkadaaGreatDoorW.PrintWords Go.Proofs.YthgppbpmcjkadaaGreatDoorW.PrintLast Go.Proofs.YthgppbpmcjkadaaGreatDoorW.PrintMore
/-- The pairs, from the last to the first: the byte and what stands for it. -/
def oldB : Nat → UInt8
  | 0 => 10
  | 1 => 92
  | _ => 34
def newB : Nat → ByteArray
  | 0 => ⟨#[92, 110]⟩
  | 1 => ⟨#[92, 92]⟩
  | _ => ⟨#[92, 34]⟩
def rep (k b : Nat) : Option ByteArray := if b = 10 ∧ 1 ≤ k then some ⟨#[92, 110]⟩ else if b = 92 ∧ 2 ≤ k then some ⟨#[92, 92]⟩ else if b = 34 ∧ 3 ≤ k then some ⟨#[92, 34]⟩ else none
def tabZ (Z : Array Value) (v : Value) : Array Value := Z.setIfInBounds 256 v
theorem zc_size : Tryz.zeroCells120.size = 257 := by kernel_rfl
theorem zc_one : Tryz.zeroCells120.all (·.oneCell') = true := by decide +kernel
def isNil : Option Value → Bool
  | some (.slice none 0 0) => true
  | _ => false
theorem isNil_eq {x : Option Value} (h : isNil x = true) : x = some (.slice none 0 0) := by
  unfold isNil at h
  split at h
  · rfl
  · cases h
theorem zc_at : ∀ b, b < 256 → Tryz.zeroCells120[b]? = some (Value.slice none 0 0) := by
  have h : (List.range 256).all (fun b => isNil Tryz.zeroCells120[b]?) = true := by decide +kernel
  intro b hb
  exact isNil_eq (List.all_eq_true.1 h b (List.mem_range.2 hb))
theorem tabZ_size (v : Value) : (tabZ Tryz.zeroCells120 v).size = 257 := by unfold tabZ; rw [Array.size_setIfInBounds, zc_size]
theorem tabZ_256 (v : Value) : (tabZ Tryz.zeroCells120 v)[256]? = some v := by unfold tabZ; rw [Array.getElem?_setIfInBounds]; simp [zc_size]
theorem tabZ_at (v : Value) (b : Nat) (h : b < 256) : (tabZ Tryz.zeroCells120 v)[b]? = some (.slice none 0 0) := by unfold tabZ; rw [Array.getElem?_setIfInBounds, if_neg (by omega), zc_at b h]
theorem tabZ_one (A : Option Addr) (n c : Nat) : (tabZ Tryz.zeroCells120 (.slice A n c)).all (·.oneCell') = true := by
  rw [Array.all_eq_true]
  intro i hi
  have h1 := tabZ_size (.slice A n c)
  by_cases e : i = 256
  · have := tabZ_256 (.slice A n c)
    subst e
    rw [Array.getElem?_eq_getElem hi] at this
    rw [Option.some.inj this]; rfl
  · have := tabZ_at (.slice A n c) i (by omega)
    rw [Array.getElem?_eq_getElem hi] at this
    rw [Option.some.inj this]; rfl
def Slot (w : World) (N : Nat) (v : Value) : Option ByteArray → Prop
  | none => v = .slice none 0 0
  | some s => ∃ X c, v = .slice (some ⟨X, 0, none⟩) s.size c ∧ N + 1 < X ∧ ∀ j (h : j < s.size), w.cell? ⟨X, j, none⟩ = some (.int .u8 (s[j].toNat : Int))
/-- The table, k pairs laid: block N holds the bytes to replace, block N + 1 the table. -/
def St (w : World) (N k : Nat) : Prop := ∃ cs : Array Value, w.heap[N + 1]? = some (.cells cs 120 (0, 0)) ∧ cs.size = 257 ∧ cs[256]? = some (.slice (some ⟨N, 0, none⟩) k 3) ∧
  (∃ cur : Array Value, w.heap[N]? = some (.cells cur 9 (0, 0)) ∧ cur.size = 3 ∧ ∀ j, j < k → cur[j]? = some (.string ⟨#[oldB j]⟩)) ∧ ∀ b, b < 256 → ∃ v, cs[b]? = some v ∧ Slot w N v (rep k b)
def OldAt (w : World) (O : Nat) : Prop := ∀ k, k < 3 → w.cell? ⟨O, 4 - 2 * k, none⟩ = some (.string ⟨#[oldB k]⟩) ∧ w.cell? ⟨O, 5 - 2 * k, none⟩ = some (.string (newB k))
theorem info9 : (Tryz.prog.info? 9).map (fun i => (i.zero, i.size, i.bytes)) = some (some (.string ⟨#[]⟩), 1, 16) := by kernel_rfl
theorem info120 : (Tryz.prog.info? 120).map (·.size) = some 257 := by kernel_rfl
theorem heap_new (w : World) (o : Obj) : (w.alloc o).heap[w.heap.size]? = some o := heap_alloc_last w o
theorem rep_none {k : Nat} (hk : k < 3) : rep k (oldB k).toNat = none := by
  rcases k with _ | _ | _ | k
  · rfl
  · rfl
  · rfl
  · omega
theorem rep_next {k b : Nat} (hk : k < 3) : rep (k + 1) b = if b = (oldB k).toNat then some (newB k) else rep k b := by
  rcases k with _ | _ | _ | k
  · unfold rep; simp [oldB, newB]
  · unfold rep; simp [oldB, newB]
    by_cases h : b = 92
    · subst h; simp
    · simp [h]
  · unfold rep; simp [oldB, newB]
    by_cases h : b = 34
    · subst h; simp
    · simp [h]
  · omega
theorem neq_nil (W : World) (A : Option Addr) (n c : Nat) : (binOp .neq 69 (.slice A n c) (.slice none 0 0)).run Tryz.prog W = .ok (.bool (!A.isNone)) W := run_neq_slice_nil W 69 5 A n c Tryz.underlying69
theorem eql_nil (W : World) : (binOp .eql 69 (.slice none 0 0) (.slice none 0 0)).run Tryz.prog W = .ok (.bool true) W := by
  have h := run_equal_slice_nil (P := Tryz.prog) W 69 5 none 0 0 Tryz.underlying69
  simp [binOp, go_sem, h]
theorem heap_set {w : World} {b : Nat} {cs : Array Value} {t : TypeId} {fz : Nat × Nat} (h : w.heap[b]? = some (.cells cs t fz)) (o : Nat) (v : Value) : (w.setCell ⟨b, o, none⟩ v).heap[b]? = some (.cells (cs.setIfInBounds o v) t fz) := by
  rw [Sort.setCell_eq]
  unfold Sort.mapBlock
  simp [Array.getElem?_modify, h, Sort.onCells]
theorem below_bytes {B : Nat} {a w : World} (h : Below B a w) (hB : B ≤ w.heap.size) (e : TypeId) (s : ByteArray) : Below B a (Lib.bytesWorld w e s) :=
  h.trans ⟨rfl, rfl, rfl, by rw [Lib.bytesWorld_size]; omega, fun k hk => Lib.bytesWorld_at_old w e s k (by omega)⟩
theorem st_step {w0 wr w5 : World} {N k Z : Nat} {x : UInt8} {y : ByteArray} {cs : Array Value} (hN : N + 1 < wr.heap.size) (hcs : cs.size = 257) (hslots : ∀ b, b < 256 → ∃ v, cs[b]? = some v ∧ Slot wr N v (rep k b))
    (HRX : ∀ b, rep (k + 1) b = if b = x.toNat then some y else rep k b)
    (q5 : w5.heap[N + 1]? = some (.cells (cs.setIfInBounds 256 (.slice (some ⟨N, 0, none⟩) (k + 1) 3)) 120 (0, 0)))
    (hown : ∃ cur : Array Value, w5.heap[N]? = some (.cells cur 9 (0, 0)) ∧ cur.size = 3 ∧ ∀ j, j < k + 1 → cur[j]? = some (.string ⟨#[oldB j]⟩))
    (hold : ∀ b, b < wr.heap.size → b ≠ N → b ≠ N + 1 → w5.heap[b]? = wr.heap[b]?) (z5 : w5.heap.size = Z) (hsz : wr.heap.size ≤ Z) (hB : Below N w0 w5) (C : Nat) :
    St ((Lib.bytesWorld w5 5 y).setCell ⟨N + 1, x.toNat, none⟩ (.slice (some ⟨Z, 0, none⟩) y.size C)) N (k + 1) ∧
      Below N w0 ((Lib.bytesWorld w5 5 y).setCell ⟨N + 1, x.toNat, none⟩ (.slice (some ⟨Z, 0, none⟩) y.size C)) := by
  have q6 := (Lib.bytesWorld_at_old w5 5 y (N + 1) (by omega)).trans q5
  have q7 := heap_set q6 x.toNat (.slice (some ⟨Z, 0, none⟩) y.size C)
  have o7 : ∀ b, b ≠ N + 1 → b < Z → ((Lib.bytesWorld w5 5 y).setCell ⟨N + 1, x.toNat, none⟩ (.slice (some ⟨Z, 0, none⟩) y.size C)).heap[b]? = w5.heap[b]? := fun b hb hlt => by
    rw [Below.heap_setCell _ _ _ b hb, Lib.bytesWorld_at_old w5 5 y b (by omega)]
  have hxl := x.toNat_lt
  refine ⟨⟨_, q7, by simp [hcs], ?_, ?_, ?_⟩, ?_⟩
  · rw [Array.getElem?_setIfInBounds, if_neg (by omega), Array.getElem?_setIfInBounds, if_pos rfl, if_pos (by simp [hcs])]
  · obtain ⟨cur, hg, hr⟩ := hown
    exact ⟨cur, (o7 N (by omega) (by omega)).trans hg, hr⟩
  · intro b hb
    rw [HRX b]
    by_cases e : b = x.toNat
    · subst e
      rw [if_pos rfl]
      refine ⟨_, by rw [Array.getElem?_setIfInBounds, if_pos rfl, if_pos (by simp [hcs]; omega)], Z, C, rfl, by omega, fun j hj => ?_⟩
      have hc := Lib.bytesWorld_cell w5 5 y j hj
      rw [z5] at hc
      rw [World.cell?_of_block (w := Lib.bytesWorld w5 5 y) (Below.heap_setCell _ _ _ _ (by show Z ≠ N + 1; omega)), hc]
      congr 2
      rw [List.getD_eq_getElem?_getD, List.getElem?_eq_getElem (by rw [Array.length_toList]; exact hj)]
      rfl
    · rw [if_neg e]
      obtain ⟨v, hv, hs⟩ := hslots b hb
      refine ⟨v, by rw [Array.getElem?_setIfInBounds, if_neg (fun h => e h.symm), Array.getElem?_setIfInBounds, if_neg (by omega)]; exact hv, ?_⟩
      cases hr : rep k b with
      | none => rw [hr] at hs; exact hs
      | some s =>
        rw [hr] at hs
        obtain ⟨X, c, rfl, hX, hcell⟩ := hs
        refine ⟨X, c, rfl, hX, fun j hj => ?_⟩
        have hlt : X < wr.heap.size := World.block_lt_of_cell? wr ⟨X, j, none⟩ (hcell j hj)
        rw [World.cell?_of_block (w := w5) (o7 X (by omega) (by omega)), World.cell?_of_block (w := wr) (hold X hlt (by omega) (by omega))]
        exact hcell j hj
  · exact (below_bytes hB (by omega) _ _).setCell (by show N ≤ N + 1; omega) _
set_option maxRecDepth 100000 in
set_option maxHeartbeats 8000000 in
theorem build_any (B O c : Nat) (w : World) (hB : w.cell? ⟨B, 4, none⟩ = some (.slice (some ⟨O, 0, none⟩) 6 c)) (hO : OldAt w O) :
    Calls Tryz.prog 63 #[.pointer (some ⟨B, 0, none⟩)] w fun e w' => e = .returned (.iface 121 (.pointer (some ⟨w.heap.size + 1, 0, none⟩))) ∧ St w' w.heap.size 3 ∧ Below w.heap.size w w' := by
  obtain ⟨i9, hinfo, hz0, hz1, hz2⟩ := info_parts info9
  have e0 : w.cell? ⟨O, 0, none⟩ = some (.string ⟨#[34]⟩) := (hO 2 (by omega)).1
  have e1 : w.cell? ⟨O, 1, none⟩ = some (.string ⟨#[92, 34]⟩) := (hO 2 (by omega)).2
  have e2 : w.cell? ⟨O, 2, none⟩ = some (.string ⟨#[92]⟩) := (hO 1 (by omega)).1
  have e3 : w.cell? ⟨O, 3, none⟩ = some (.string ⟨#[92, 92]⟩) := (hO 1 (by omega)).2
  have e4 : w.cell? ⟨O, 4, none⟩ = some (.string ⟨#[10]⟩) := (hO 0 (by omega)).1
  have e5 : w.cell? ⟨O, 5, none⟩ = some (.string ⟨#[92, 110]⟩) := (hO 0 (by omega)).2
  have s0 : (⟨#[34]⟩ : ByteArray).size = 1 := rfl
  have s1 : (⟨#[92, 34]⟩ : ByteArray).size = 2 := rfl
  have s2 : (⟨#[92]⟩ : ByteArray).size = 1 := rfl
  have s3 : (⟨#[92, 92]⟩ : ByteArray).size = 2 := rfl
  have s4 : (⟨#[10]⟩ : ByteArray).size = 1 := rfl
  have s5 : (⟨#[92, 110]⟩ : ByteArray).size = 2 := rfl
  have HO := Lib.hid hO
  clear hO
  have hmk : ∀ W : World, (Instr.makeSlice 75 (.int .i64 0) (.int .i64 3)).run Tryz.prog W = .ok (.slice (some ⟨W.heap.size, 0, none⟩) 0 3) (W.alloc (.cells (madeCells (Value.string ⟨#[]⟩).cells 3) 9)) := fun W => by
    have h := run_makeSlice (P := Tryz.prog) (w := W) 75 9 i9 (.string ⟨#[]⟩) Tryz.underlying75 hinfo hz0 .i64 .i64 0 3 (by omega) (by omega) (by rw [hz1]; decide) (by rw [hz2]; decide) (by omega)
    rw [hz1] at h
    exact h
  have hsc : (storeCells ⟨w.heap.size + 1, 0, none⟩ (Tryz.zeroCells120.toList.set 256 (.slice (some ⟨w.heap.size, 0, none⟩) 0 3)) 0).run Tryz.prog ((w.alloc (.cells (madeCells #[Value.string ⟨#[]⟩] 3) 9)).alloc (.cells Tryz.zeroCells120 120)) =
      .ok () ((w.alloc (.cells (madeCells #[Value.string ⟨#[]⟩] 3) 9)).alloc (.cells (tabZ Tryz.zeroCells120 (.slice (some ⟨w.heap.size, 0, none⟩) 0 3)) 120)) := by
    have h := run_storeCells_new (P := Tryz.prog) (w.alloc (.cells (madeCells #[Value.string ⟨#[]⟩] 3) 9)) 120 Tryz.zeroCells120 (tabZ Tryz.zeroCells120 (.slice (some ⟨w.heap.size, 0, none⟩) 0 3)) (by rw [tabZ_size]; exact info120) (by rw [tabZ_size]; exact zc_size) (tabZ_one _ _ _)
    simpa [tabZ] using h
  go_enter Tryz.func63, Tryz.ntmps63
  go_wp2
  go_loopw [4, 5] (fun p q wr => wr = w ∧ ((p = .bool true ∧ q = .int .i64 0) ∨ (p = .bool false ∧ (q = .int .i64 2 ∨ q = .int .i64 4 ∨ q = .int .i64 6)))) (fun p q _ => 6 - (intOf q).toNat)
  case atStart => exact ⟨rfl, Or.inl ⟨rfl, rfl⟩⟩
  case round =>
    obtain ⟨rfl, ⟨rfl, rfl⟩ | ⟨rfl, rfl | rfl | rfl⟩⟩ := hrel
    · go_wp2
      go_roundw
      case rel => exact ⟨by simp, Or.inr ⟨rfl, Or.inl rfl⟩⟩
      case measure => simp [intOf]
    · go_wp2
      go_roundw
      case rel => exact ⟨by simp, Or.inr ⟨rfl, Or.inr (Or.inl rfl)⟩⟩
      case measure => simp [intOf]
    · go_wp2
      go_roundw
      case rel => exact ⟨by simp, Or.inr ⟨rfl, Or.inr (Or.inr rfl)⟩⟩
      case measure => simp [intOf]
    · go_wp2
      have HSC := hsc
      clear hsc
      generalize hW1 : (wr.alloc (.cells (madeCells #[Value.string ⟨#[]⟩] 3) 9)).alloc (.cells (tabZ Tryz.zeroCells120 (.slice (some ⟨wr.heap.size, 0, none⟩) 0 3)) 120) = W1 at *
      have hSt0 : St W1 wr.heap.size 0 := by
        rw [← hW1]
        refine ⟨tabZ Tryz.zeroCells120 (.slice (some ⟨wr.heap.size, 0, none⟩) 0 3), ?_, tabZ_size _, tabZ_256 _, ?_, ?_⟩
        · have := heap_new (wr.alloc (.cells (madeCells #[Value.string ⟨#[]⟩] 3) 9)) (.cells (tabZ Tryz.zeroCells120 (.slice (some ⟨wr.heap.size, 0, none⟩) 0 3)) 120)
          simpa using this
        · refine ⟨_, (Below.heap_alloc _ _ _ (by simp)).trans (heap_new wr _), by simp [madeCells], fun j hj => absurd hj (by omega)⟩
        · intro b hb
          refine ⟨_, tabZ_at _ b hb, ?_⟩
          have : rep 0 b = none := by unfold rep; simp
          rw [this]; rfl
      have hB1 : Below wr.heap.size wr W1 := by rw [← hW1]; exact ((Below.refl _ _).alloc (Nat.le_refl _) _).alloc (by simp) _
      clear hW1 HSC hmk e0 e1 e2 e3 e4 e5
      have HST := Lib.hid hSt0
      have HB1 := Lib.hid hB1
      have hOl : O < wr.heap.size := World.block_lt_of_cell? wr ⟨O, 0, none⟩ (HO.out 2 (by omega)).1
      clear hSt0 hB1
      generalize hN : wr.heap.size = N at *
      go_loopw [12] (fun q wx => ∃ k : Nat, k ≤ 3 ∧ q = .int .i64 (4 - 2 * (k : Int)) ∧ St wx N k ∧ Below N wr wx) (fun q _ => (intOf q + 2).toNat)
      case atStart => exact ⟨0, by omega, rfl, HST.out, HB1.out⟩
      case round =>
        obtain ⟨k, hk, rfl, hSt, hBx⟩ := hrel
        rcases Classical.em (k < 3) with c3 | c3
        · have hO4 : OldAt wr O := fun j hj => by
            have := HO.out j hj
            exact ⟨(hBx.cell hOl).trans this.1, (hBx.cell hOl).trans this.2⟩
          have ei := (hO4 k c3).1
          have ei1 := (hO4 k c3).2
          have hrn := rep_none c3
          have HRX := Lib.hid (fun b => rep_next (b := b) c3)
          clear hO4
          generalize hx : oldB k = x at *
          generalize hy : newB k = y at *
          have hi : 4 - 2 * (k : Int) = ((4 - 2 * k : Nat) : Int) := by omega
          rw [hi]
          have hi5 : 5 - 2 * k = 4 - 2 * k + 1 := by omega
          rw [hi5] at ei1
          have hki : 4 - 2 * k < 5 := by omega
          have HKI := Lib.hid (show (((4 - 2 * k : Nat) : Int) - 2 = 4 - 2 * ((k + 1 : Nat) : Int)) by omega)
          generalize hii : 4 - 2 * k = i at *
          have hd : decide (0 ≤ ((i : Nat) : Int)) = true := decide_eq_true (by omega)
          have p0 : (0 ≤ ((i : Nat) : Int)) = True := eq_true (by omega)
          have q0 : (((i : Nat) : Int) < 6) = True := eq_true (by omega)
          have p1 : (0 ≤ ((i : Nat) : Int) + 1) = True := eq_true (by omega)
          have q1 : (((i : Nat) : Int) + 1 < 6) = True := eq_true (by omega)
          have hw1 : IntKind.i64.wrap (((i : Nat) : Int) + 1) = ((i : Nat) : Int) + 1 := by rw [i64_w]; unfold wrap64; omega
          have hw2 : IntKind.i64.wrap (((i : Nat) : Int) - 2) = ((i : Nat) : Int) - 2 := by rw [i64_w]; unfold wrap64; omega
          have ht1 : (((i : Nat) : Int) + 1).toNat = i + 1 := by omega
          have hsx : (⟨#[x]⟩ : ByteArray).size = 1 := rfl
          have hx0 : (⟨#[x]⟩ : ByteArray)[0]'(Nat.zero_lt_one) = x := rfl
          have hxl := x.toNat_lt
          have px : (0 ≤ ((x.toNat : Nat) : Int)) = True := eq_true (by omega)
          have qx : (((x.toNat : Nat) : Int) < 256) = True := eq_true (by omega)
          obtain ⟨cs, hQ, hcs, h256, ⟨cur, hN0, hcur, hcurs⟩, hslots⟩ := hSt
          have cNk : wr.cell? ⟨N, k, none⟩ = some (cur[k]'(by omega)) := by simp [World.cell?, hN0]
          have fNk : wr.frozen? ⟨N, k, none⟩ = false := by simp [World.frozen?, hN0]
          have fQ : ∀ o, wr.frozen? ⟨N + 1, o, none⟩ = false := fun o => by simp [World.frozen?, hQ]
          obtain ⟨v0, hv0, hs0⟩ := hslots x.toNat (by omega)
          rw [hrn] at hs0
          unfold Slot at hs0
          subst hs0
          have cx : wr.cell? ⟨N + 1, x.toNat, none⟩ = some (.slice none 0 0) := by simp [World.cell?, hQ, hv0]
          have c256 : wr.cell? ⟨N + 1, 256, none⟩ = some (.slice (some ⟨N, 0, none⟩) k 3) := by simp [World.cell?, hQ, h256]
          have HQ := Lib.hid hQ
          have HN0 := Lib.hid hN0
          have HCS := Lib.hid hcurs
          have HSL := Lib.hid hslots
          have HBX := Lib.hid hBx
          clear hQ hN0 hcurs hslots hBx
          have hen := eql_nil
          have hQl : N + 1 < wr.heap.size := World.block_lt_of_cell? wr ⟨N + 1, 256, none⟩ c256
          have hcv : (convert 69 9 (.slice (some ⟨wr.heap.size, 0, none⟩) 1 1)).run Tryz.prog (wr.alloc (.cells #[.int .u8 (x.toNat : Int)] 5)) = .ok (.string ⟨#[x]⟩) (wr.alloc (.cells #[.int .u8 (x.toNat : Int)] 5)) := by
            refine run_convert_bytes_back (P := Tryz.prog) _ 69 9 5 ⟨wr.heap.size, 0, none⟩ 1 [x] Tryz.underlying69 Tryz.underlying5 Tryz.underlying9 fun j hj => ?_
            obtain rfl : j = 0 := by simpa using hj
            simp [Addr.add]
          have HCV := Lib.hid (fun W => Lib.run_convert_string_bytes (P := Tryz.prog) W 9 69 5 y Tryz.underlying9 Tryz.underlying69 Tryz.underlying5)
          have hlN : N < wr.heap.size := by omega
          have hmax : ¬ 3 < k + 1 := by omega
          go_wp2
          have hXQ : x.toNat ≠ 256 := by omega
          generalize hW5 : (((wr.setCell ⟨N, k, none⟩ (.string ⟨#[x]⟩)).setCell ⟨N + 1, 256, none⟩ (.slice (some ⟨N, 0, none⟩) (k + 1) 3)).alloc (.cells #[.int .u8 (x.toNat : Int)] 5)).alloc (.cells #[.string ⟨#[x]⟩] 9) = W5
          have hz5 : W5.heap.size = wr.heap.size + 2 := by rw [← hW5]; simp
          have hc5 : W5.cell? ⟨N + 1, x.toNat, none⟩ = some (.slice none 0 0) := by
            rw [← hW5]
            rw [World.cell?_alloc_past _ _ _ (by simp; omega), World.cell?_alloc_past _ _ _ (by simp; omega), World.cell?_setCell_other _ _ _ _ (fun h => hXQ (by injection h with _ h; omega)), World.cell?_setCell_other _ _ _ _ (by simp)]
            exact cx
          have hf5 : W5.frozen? ⟨N + 1, x.toNat, none⟩ = false := by
            rw [← hW5]
            rw [World.frozen?_alloc_past _ _ _ (by simp; omega), World.frozen?_alloc_past _ _ _ (by simp; omega), World.frozen?_setCell, World.frozen?_setCell]
            exact fQ _
          have hcv5 := HCV.out W5
          have hc6 : (Lib.bytesWorld W5 5 y).cell? ⟨N + 1, x.toNat, none⟩ = some (.slice none 0 0) := (Lib.bytesWorld_old W5 5 y _ (by show N + 1 < _; omega)).trans hc5
          have hf6 : (Lib.bytesWorld W5 5 y).frozen? ⟨N + 1, x.toNat, none⟩ = false := (World.frozen?_of_block (w := W5) (Lib.bytesWorld_at_old W5 5 y (N + 1) (by omega))).trans hf5
          have HW5 := Lib.hid hW5
          clear hW5
          rw [hcv5]
          go_wp2
          go_roundw
          case rel =>
            refine ⟨k + 1, by omega, by rw [← HKI.out], ?_⟩
            refine st_step (wr := wr) (cs := cs) hQl hcs HSL.out HRX.out ?_ ⟨cur.setIfInBounds k (.string ⟨#[x]⟩), ?_, by simp [hcur], ?_⟩ ?_ hz5 (by omega) ?_ _
            · rw [← HW5.out, Below.heap_alloc _ _ _ (by simp; omega), Below.heap_alloc _ _ _ (by simp; omega)]
              exact heap_set ((Below.heap_setCell _ _ _ _ (by show N + 1 ≠ N; omega)).trans HQ.out) _ _
            · rw [← HW5.out, Below.heap_alloc _ _ _ (by simp; omega), Below.heap_alloc _ _ _ (by simp; omega), Below.heap_setCell _ _ _ _ (by show N ≠ N + 1; omega)]
              exact heap_set HN0.out _ _
            · intro j hj
              rw [Array.getElem?_setIfInBounds]
              by_cases e : k = j
              · subst e; rw [if_pos rfl, if_pos (by omega), hx]
              · rw [if_neg e]; exact HCS.out j (by omega)
            · intro b hb h1 h2
              rw [← HW5.out, Below.heap_alloc _ _ _ (by simp; omega), Below.heap_alloc _ _ _ (by simp; omega), Below.heap_setCell _ _ _ _ h2, Below.heap_setCell _ _ _ _ h1]
            · rw [← HW5.out]
              exact (((HBX.out.setCell (Nat.le_refl N) _).setCell (by show N ≤ N + 1; omega) _).alloc (by simp; omega) _).alloc (by simp; omega) _
          case measure => simp [intOf]; omega
        · obtain rfl : k = 3 := by omega
          have HSt := Lib.hid hSt
          have HBx := Lib.hid hBx
          clear hSt hBx
          go_wp2
          go_ret
          subst hN
          exact ⟨rfl, HSt.out, HBx.out⟩
end Go.Proofs.YthgppbpmcjkadaaGreatDoor.X
