/- (*strings.Builder).WriteByte at a builder that the call has made. -/
import Derived.Test.YthgppbpmcjkadaaGreatDoorX0
import Derived.Test.YthgppbpmcjkadaaGreatDoorX3
import Derived.Maps.AppendAt
import Derived.Lib.Builder
import Derived.Lib.Walk
import Derived.Lib.UnsafeStr
import Derived.Laws.Externs
import Derived.WalkKit
set_option linter.unusedVariables false
set_option linter.unusedSimpArgs false
namespace Go.Proofs.YthgppbpmcjkadaaGreatDoor.X
open Go.RowKit
theorem sizeB : (Tryz.prog.info? 71).map (·.size) = some 2 := by kernel_rfl
theorem infoB : (Tryz.prog.info? 5).map (fun i => (i.zero, i.size, i.bytes)) = some (some (.int .u8 0), 1, 1) := by kernel_rfl
set_option maxRecDepth 100000 in
theorem copyCheck_used (b : Nat) (w : World) (h0 : w.cell? ⟨b, 0, none⟩ = some (.pointer (some ⟨b, 0, none⟩))) :
    Calls Tryz.prog 60 #[.pointer (some ⟨b, 0, none⟩)] w fun e w' => e = .returned (.tuple #[]) ∧ w' = w := by
  obtain ⟨j, hj, _⟩ := Option.map_eq_some_iff.1 sizeB
  go_enter Tryz.func60, Tryz.ntmps60
  go_wp2
  rw [Lib.run_neq_ptr_same w _ Tryz.underlying68 hj]
  go_wp2
  go_end0
  exact ⟨rfl, rfl⟩
set_option maxRecDepth 100000 in
theorem copyCheck_fresh (b : Nat) (w : World) (h0 : w.cell? ⟨b, 0, none⟩ = some (.pointer none)) (hsh : w.shape? b = some (71, 2)) (hfz : w.frozen? ⟨b, 0, none⟩ = false) :
    Calls Tryz.prog 60 #[.pointer (some ⟨b, 0, none⟩)] w fun e w' => e = .returned (.tuple #[]) ∧ w' = w.setCell ⟨b, 0, none⟩ (.pointer (some ⟨b, 0, none⟩)) := by
  obtain ⟨j, hj, hjs⟩ := Option.map_eq_some_iff.1 sizeB
  go_enter Tryz.func60, Tryz.ntmps60
  go_wp2
  rw [Lib.run_to_unsafe w ⟨b, 0, none⟩ Tryz.underlying68 Tryz.underlying105 hj (by rw [hjs]; decide) hsh (Nat.zero_lt_succ 1)]
  simp only [Result.andThen]
  rw [Oper.upon_value]
  go_wp2
  rw [run_callFunc_extern Tryz.func70 (by kernel_rfl) (by kernel_rfl) (by kernel_rfl) (e := Extern.AbiNoEscape.same) (by kernel_rfl)]
  rw [Lib.run_noEscape]
  simp only [Result.andThen]
  rw [Oper.upon_value]
  go_wp2
  rw [Lib.run_from_unsafe w ⟨b, 0, none⟩ Tryz.underlying105 Tryz.underlying68 hj hsh (by kernel_rfl)]
  simp only [Result.andThen]
  rw [Oper.upon_value]
  go_wp2
  go_end0
  exact ⟨rfl, rfl⟩
/-- A builder in block b, of the call's own, that holds the bytes acc; its row lies elsewhere than block C. -/
def Bd (w : World) (B b C : Nat) (acc : List UInt8) : Prop :=
  B ≤ b ∧ ∃ p v, (p = .pointer none ∨ p = .pointer (some ⟨b, 0, none⟩)) ∧ w.heap[b]? = some (.cells #[p, v] 71 (0, 0)) ∧ w.ownsRow B 5 1 v acc.length (Lib.byteCells acc) ∧ v.ownBlock ≠ some b ∧ v.ownBlock ≠ some C
theorem Bd.is {w : World} {B b C : Nat} {acc : List UInt8} (h : Bd w B b C acc) : Lib.IsBuilder 71 5 B b (Lib.byteCells acc) w := by
  obtain ⟨hB, p, v, hp, hb, ho, h1, h2⟩ := h
  have ho' : w.ownsRow B 5 1 v (Lib.byteCells acc).length (Lib.byteCells acc) := by rw [Lib.byteCells_length]; exact ho
  rcases hp with rfl | rfl
  · exact .inl ⟨hB, v, hb, ho', h1⟩
  · exact .inr ⟨hB, v, hb, ho', h1⟩
theorem Bd.drewN {w : World} {B b C : Nat} {acc : List UInt8} (h : Bd w B b C acc) (m : Nat) : Bd (w.drewN m) B b C acc := h
theorem copyCheck_far (B b C : Nat) (acc : List UInt8) (w : World) (h : Bd w B b C acc) (hC : C ≠ b) :
    Calls Tryz.prog 60 #[.pointer (some ⟨b, 0, none⟩)] w fun e w' => e = .returned (.tuple #[]) ∧ w'.heap.size = w.heap.size ∧ (∃ v, w'.heap[b]? = some (.cells #[.pointer (some ⟨b, 0, none⟩), v] 71 (0, 0)) ∧ w'.ownsRow B 5 1 v acc.length (Lib.byteCells acc) ∧ v.ownBlock ≠ some b ∧ v.ownBlock ≠ some C) ∧ w'.heap[C]? = w.heap[C]? ∧ Below B w w' := by
  obtain ⟨hB, p, v, hp, hb, ho, h1, h2⟩ := h
  rcases hp with rfl | rfl
  · have hbu : Lib.BuilderAt 71 5 B b (.pointer none) (Lib.byteCells acc) w := ⟨hB, v, hb, by rw [Lib.byteCells_length]; exact ho, h1⟩
    refine (copyCheck_fresh b w hbu.cell0 hbu.shape hbu.frozen0).mono ?_
    rintro e w' ⟨rfl, rfl⟩
    obtain ⟨_, v2, hb2, ho2, h3⟩ := hbu.used (.pointer (some ⟨b, 0, none⟩))
    have hv : v2 = v := by
      have h5 := heap_set hb 0 (.pointer (some ⟨b, 0, none⟩))
      rw [h5] at hb2
      simpa using hb2.symm
    subst hv
    refine ⟨rfl, by simp, ⟨v2, hb2, by rw [Lib.byteCells_length] at ho2; exact ho2, h3, h2⟩, Below.heap_setCell _ _ _ _ hC, (Below.refl B w).setCell (p := ⟨b, 0, none⟩) hB _⟩
  · have hbu : Lib.BuilderAt 71 5 B b (.pointer (some ⟨b, 0, none⟩)) (Lib.byteCells acc) w := ⟨hB, v, hb, by rw [Lib.byteCells_length]; exact ho, h1⟩
    refine (copyCheck_used b w hbu.cell0).mono ?_
    rintro e w' ⟨rfl, rfl⟩
    exact ⟨rfl, rfl, ⟨v, hb, ho, h1, h2⟩, rfl, Below.refl B _⟩
set_option maxRecDepth 100000 in
set_option maxHeartbeats 1000000 in
theorem writeByte_any (B b C : Nat) (acc : List UInt8) (c : UInt8) (w : World) (h : Bd w B b C acc) (hC : C ≠ b) (hCw : C < w.heap.size) (hlen : acc.length + 1 ≤ 140737488355328) (hBw : B ≤ w.heap.size) :
    Calls Tryz.prog 47 #[.pointer (some ⟨b, 0, none⟩), .int .u8 (c.toNat : Int)] w fun e w' => e = .returned .nilIface ∧ (Bd w' B b C (acc ++ [c]) ∧ w'.heap[C]? = w.heap[C]? ∧ Below B w w') := by
  obtain ⟨i0, hi, hz0, hz1, hz2⟩ := info_parts infoB
  have hB : B ≤ b := h.1
  go_enter Tryz.func47, Tryz.ntmps47
  go_wp2_with (go_at_call 60; refine (copyCheck_far B b C acc _ h hC).mono ?_)
  rintro e w1 ⟨rfl, hz, ⟨v, hbk, hown, hne, hnC⟩, hC1, hb1⟩
  have c0 : w1.cell? ⟨b, 0, none⟩ = some (.pointer (some ⟨b, 0, none⟩)) := by rw [Lib.cell_of_heap hbk]; rfl
  have c1 : w1.cell? ⟨b, 1, none⟩ = some v := by rw [Lib.cell_of_heap hbk]; rfl
  have hlt : b < w1.heap.size := by
    rcases Nat.lt_or_ge b w1.heap.size with h' | h'
    · exact h'
    · simp [Array.getElem?_eq_none h'] at hbk
  have hZ := Lib.hid hz
  clear hz
  have hC1' := Lib.hid hC1
  clear hC1
  go_wp2_with (at_builtin; refine wpList_append_own_at _ rfl _ _ 69 rfl B 5 i0 (.int .u8 0) 1 1 Tryz.underlying69 hi hz0 hz1 hz2 rfl (by decide) _ _ _ rfl (hown.alloc _) ⟨w1.heap.size, 0, none⟩ 1 1 [.int .u8 (c.toNat : Int)] rfl rfl ?c1 ?c2 ?c3 ?c4 ?c5 ?_)
  case c1 =>
    intro j u hj
    match j, hj with
    | 0, hj => simp at hj; subst hj; simp [Addr.add]
  case c2 => intro u hu; simp at hu; subst hu; rfl
  case c3 => unfold maxLen; omega
  case c4 => omega
  case c5 => have := hb1.size; simp; omega
  intro v' w2 hown' hgrow _ hat
  have hb2 : w2.heap[b]? = some (.cells #[.pointer (some ⟨b, 0, none⟩), v] 71 (0, 0)) := by
    rw [hgrow.block b (by simp; omega) (fun e => hne e.symm), Lib.alloc_old w1 _ b hlt]
    exact hbk
  have hCC : w2.heap[C]? = w1.heap[C]? := by
    rw [hgrow.block C (by simp; have := hZ.out; omega) (fun e => hnC e.symm), Lib.alloc_old w1 _ C (by have := hZ.out; omega)]
  have d0 : w2.cell? ⟨b, 0, none⟩ = some (.pointer (some ⟨b, 0, none⟩)) := by rw [Lib.cell_of_heap hb2]; rfl
  have d1 : w2.cell? ⟨b, 1, none⟩ = some v := by rw [Lib.cell_of_heap hb2]; rfl
  have f1 : w2.frozen? ⟨b, 1, none⟩ = false := Lib.frozen_of_heap hb2 1
  have hvC : v'.ownBlock ≠ some C := by
    rcases hat with h' | h'
    · rw [h']; exact hnC
    · rw [h']; intro e; simp at e; have := hZ.out; omega
  obtain ⟨g, cap, rfl⟩ : ∃ g cap, v' = .slice (some ⟨g, 0, none⟩) (acc.length + 1) cap := by
    rcases hown'.2 with ⟨_, h0⟩ | ⟨g, cap, cur, hv, _⟩
    · omega
    · exact ⟨g, cap, hv⟩
  have HCC := Lib.hid hCC
  clear hCC hat
  go_wp2
  go_ret
  have hput := Lib.BuilderAt.put (T := 71) (e := 5) hB hb2 (bs' := Lib.byteCells (acc ++ [c])) (by simpa [Lib.byteCells] using hown') (by decide)
  obtain ⟨_, v3, h4, h5, h6⟩ := hput
  have hv : v3 = .slice (some ⟨g, 0, none⟩) (acc.length + 1) cap := by
    have h7 := heap_set hb2 1 (.slice (some ⟨g, 0, none⟩) (acc.length + 1) cap)
    rw [h7] at h4
    simpa using h4.symm
  subst hv
  refine ⟨rfl, ⟨hB, _, _, .inr rfl, h4, by rw [Lib.byteCells_length] at h5; exact h5, h6, hvC⟩, ?_, ?_⟩
  · rw [Below.heap_setCell _ _ _ _ hC, HCC.out]; exact hC1'.out
  · exact ((hb1.alloc (by have := hb1.size; omega) _).grown hgrow (by have := hb1.size; simp; omega) (fun k hk => (hown.lt k hk).1)).setCell (p := ⟨b, 1, none⟩) hB _
end Go.Proofs.YthgppbpmcjkadaaGreatDoor.X
