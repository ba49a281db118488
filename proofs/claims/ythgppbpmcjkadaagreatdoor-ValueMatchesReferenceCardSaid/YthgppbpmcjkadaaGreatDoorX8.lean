/- (*strings.Builder).WriteByte at a builder that the call has made. value.content in the form of the printed contracts. -/
import Derived.Test.YthgppbpmcjkadaaGreatDoorX0
import Derived.Test.YthgppbpmcjkadaaGreatDoorX3
import Derived.Maps.AppendAt
import Derived.Lib.Builder
import Derived.Lib.Walk
import Derived.Lib.UnsafeStr
import Derived.Laws.Externs
import Derived.WalkKit
import Derived.Test.YthgppbpmcjkadaaGreatDoorPlA
import Derived.Laws.IdiomStrings
import Derived.Lib.ConvBytes
set_option linter.unusedVariables false
set_option linter.unusedSimpArgs false
namespace Go.Proofs.YthgppbpmcjkadaaGreatDoor.X
open Go.RowKit
theorem sizeB : (Tryz.prog.info? 71).map (·.size) = some 2 := by kernel_rfl
theorem infoB : (Tryz.prog.info? 5).map (fun i => (i.zero, i.size, i.bytes)) = some (some (.int .u8 0), 1, 1) := by kernel_rfl
set_option maxRecDepth 100000 in
theorem copyCheck_used (b : Nat) (w : World) (h0 : w.cell? ⟨b, 0, none⟩ = some (.pointer (some ⟨b, 0, none⟩))) :
    Calls Tryz.prog 60 #[.pointer (some ⟨b, 0, none⟩)] w fun e w' => e = .returned (.tuple #[]) ∧ w' = w := by
  obtain ⟨j, hj, _⟩ := Option.map_eq_some_iff.1 sizeB
  go_enter Tryz.func60, Tryz.ntmps60
  go_wp2
  rw [Lib.run_neq_ptr_same w _ Tryz.underlying68 hj]
  go_wp2
  go_end0
  exact ⟨rfl, rfl⟩
set_option maxRecDepth 100000 in
theorem copyCheck_fresh (b : Nat) (w : World) (h0 : w.cell? ⟨b, 0, none⟩ = some (.pointer none)) (hsh : w.shape? b = some (71, 2)) (hfz : w.frozen? ⟨b, 0, none⟩ = false) :
    Calls Tryz.prog 60 #[.pointer (some ⟨b, 0, none⟩)] w fun e w' => e = .returned (.tuple #[]) ∧ w' = w.setCell ⟨b, 0, none⟩ (.pointer (some ⟨b, 0, none⟩)) := by
  obtain ⟨j, hj, hjs⟩ := Option.map_eq_some_iff.1 sizeB
  go_enter Tryz.func60, Tryz.ntmps60
  go_wp2
  rw [Lib.run_to_unsafe w ⟨b, 0, none⟩ Tryz.underlying68 Tryz.underlying105 hj (by rw [hjs]; decide) hsh (Nat.zero_lt_succ 1)]
  simp only [Result.andThen]
  rw [Oper.upon_value]
  go_wp2
  rw [run_callFunc_extern Tryz.func70 (by kernel_rfl) (by kernel_rfl) (by kernel_rfl) (e := Extern.AbiNoEscape.same) (by kernel_rfl)]
  rw [Lib.run_noEscape]
  simp only [Result.andThen]
  rw [Oper.upon_value]
  go_wp2
  rw [Lib.run_from_unsafe w ⟨b, 0, none⟩ Tryz.underlying105 Tryz.underlying68 hj hsh (by kernel_rfl)]
  simp only [Result.andThen]
  rw [Oper.upon_value]
  go_wp2
  go_end0
  exact ⟨rfl, rfl⟩
/-- A builder in block b, of the call's own, that holds the bytes acc; its row lies elsewhere than block C. -/
def Bd (w : World) (B b C : Nat) (acc : List UInt8) : Prop :=
  B ≤ b ∧ ∃ p v, (p = .pointer none ∨ p = .pointer (some ⟨b, 0, none⟩)) ∧ w.heap[b]? = some (.cells #[p, v] 71 (0, 0)) ∧ w.ownsRow B 5 1 v acc.length (Lib.byteCells acc) ∧ v.ownBlock ≠ some b ∧ v.ownBlock ≠ some C
theorem Bd.is {w : World} {B b C : Nat} {acc : List UInt8} (h : Bd w B b C acc) : Lib.IsBuilder 71 5 B b (Lib.byteCells acc) w := by
  obtain ⟨hB, p, v, hp, hb, ho, h1, h2⟩ := h
  have ho' : w.ownsRow B 5 1 v (Lib.byteCells acc).length (Lib.byteCells acc) := by rw [Lib.byteCells_length]; exact ho
  rcases hp with rfl | rfl
  · exact .inl ⟨hB, v, hb, ho', h1⟩
  · exact .inr ⟨hB, v, hb, ho', h1⟩
theorem Bd.drewN {w : World} {B b C : Nat} {acc : List UInt8} (h : Bd w B b C acc) (m : Nat) : Bd (w.drewN m) B b C acc := h
theorem copyCheck_far (B b C : Nat) (acc : List UInt8) (w : World) (h : Bd w B b C acc) (hC : C ≠ b) :
    Calls Tryz.prog 60 #[.pointer (some ⟨b, 0, none⟩)] w fun e w' => e = .returned (.tuple #[]) ∧ w'.heap.size = w.heap.size ∧ (∃ v, w'.heap[b]? = some (.cells #[.pointer (some ⟨b, 0, none⟩), v] 71 (0, 0)) ∧ w'.ownsRow B 5 1 v acc.length (Lib.byteCells acc) ∧ v.ownBlock ≠ some b ∧ v.ownBlock ≠ some C) ∧ w'.heap[C]? = w.heap[C]? ∧ Below B w w' := by
  obtain ⟨hB, p, v, hp, hb, ho, h1, h2⟩ := h
  rcases hp with rfl | rfl
  · have hbu : Lib.BuilderAt 71 5 B b (.pointer none) (Lib.byteCells acc) w := ⟨hB, v, hb, by rw [Lib.byteCells_length]; exact ho, h1⟩
    refine (copyCheck_fresh b w hbu.cell0 hbu.shape hbu.frozen0).mono ?_
    rintro e w' ⟨rfl, rfl⟩
    obtain ⟨_, v2, hb2, ho2, h3⟩ := hbu.used (.pointer (some ⟨b, 0, none⟩))
    have hv : v2 = v := by
      have h5 := heap_set hb 0 (.pointer (some ⟨b, 0, none⟩))
      rw [h5] at hb2
      simpa using hb2.symm
    subst hv
    refine ⟨rfl, by simp, ⟨v2, hb2, by rw [Lib.byteCells_length] at ho2; exact ho2, h3, h2⟩, Below.heap_setCell _ _ _ _ hC, (Below.refl B w).setCell (p := ⟨b, 0, none⟩) hB _⟩
  · have hbu : Lib.BuilderAt 71 5 B b (.pointer (some ⟨b, 0, none⟩)) (Lib.byteCells acc) w := ⟨hB, v, hb, by rw [Lib.byteCells_length]; exact ho, h1⟩
    refine (copyCheck_used b w hbu.cell0).mono ?_
    rintro e w' ⟨rfl, rfl⟩
    exact ⟨rfl, rfl, ⟨v, hb, ho, h1, h2⟩, rfl, Below.refl B _⟩
set_option maxRecDepth 100000 in
set_option maxHeartbeats 1000000 in
theorem writeByte_any (B b C : Nat) (acc : List UInt8) (c : UInt8) (w : World) (h : Bd w B b C acc) (hC : C ≠ b) (hCw : C < w.heap.size) (hlen : acc.length + 1 ≤ 140737488355328) (hBw : B ≤ w.heap.size) :
    Calls Tryz.prog 47 #[.pointer (some ⟨b, 0, none⟩), .int .u8 (c.toNat : Int)] w fun e w' => e = .returned .nilIface ∧ (Bd w' B b C (acc ++ [c]) ∧ w'.heap[C]? = w.heap[C]? ∧ Below B w w') := by
  obtain ⟨i0, hi, hz0, hz1, hz2⟩ := info_parts infoB
  have hB : B ≤ b := h.1
  go_enter Tryz.func47, Tryz.ntmps47
  go_wp2_with (go_at_call 60; refine (copyCheck_far B b C acc _ h hC).mono ?_)
  rintro e w1 ⟨rfl, hz, ⟨v, hbk, hown, hne, hnC⟩, hC1, hb1⟩
  have c0 : w1.cell? ⟨b, 0, none⟩ = some (.pointer (some ⟨b, 0, none⟩)) := by rw [Lib.cell_of_heap hbk]; rfl
  have c1 : w1.cell? ⟨b, 1, none⟩ = some v := by rw [Lib.cell_of_heap hbk]; rfl
  have hlt : b < w1.heap.size := by
    rcases Nat.lt_or_ge b w1.heap.size with h' | h'
    · exact h'
    · simp [Array.getElem?_eq_none h'] at hbk
  have hZ := Lib.hid hz
  clear hz
  have hC1' := Lib.hid hC1
  clear hC1
  go_wp2_with (at_builtin; refine wpList_append_own_at _ rfl _ _ 69 rfl B 5 i0 (.int .u8 0) 1 1 Tryz.underlying69 hi hz0 hz1 hz2 rfl (by decide) _ _ _ rfl (hown.alloc _) ⟨w1.heap.size, 0, none⟩ 1 1 [.int .u8 (c.toNat : Int)] rfl rfl ?c1 ?c2 ?c3 ?c4 ?c5 ?_)
  case c1 =>
    intro j u hj
    match j, hj with
    | 0, hj => simp at hj; subst hj; simp [Addr.add]
  case c2 => intro u hu; simp at hu; subst hu; rfl
  case c3 => unfold maxLen; omega
  case c4 => omega
  case c5 => have := hb1.size; simp; omega
  intro v' w2 hown' hgrow _ hat
  have hb2 : w2.heap[b]? = some (.cells #[.pointer (some ⟨b, 0, none⟩), v] 71 (0, 0)) := by
    rw [hgrow.block b (by simp; omega) (fun e => hne e.symm), Lib.alloc_old w1 _ b hlt]
    exact hbk
  have hCC : w2.heap[C]? = w1.heap[C]? := by
    rw [hgrow.block C (by simp; have := hZ.out; omega) (fun e => hnC e.symm), Lib.alloc_old w1 _ C (by have := hZ.out; omega)]
  have d0 : w2.cell? ⟨b, 0, none⟩ = some (.pointer (some ⟨b, 0, none⟩)) := by rw [Lib.cell_of_heap hb2]; rfl
  have d1 : w2.cell? ⟨b, 1, none⟩ = some v := by rw [Lib.cell_of_heap hb2]; rfl
  have f1 : w2.frozen? ⟨b, 1, none⟩ = false := Lib.frozen_of_heap hb2 1
  have hvC : v'.ownBlock ≠ some C := by
    rcases hat with h' | h'
    · rw [h']; exact hnC
    · rw [h']; intro e; simp at e; have := hZ.out; omega
  obtain ⟨g, cap, rfl⟩ : ∃ g cap, v' = .slice (some ⟨g, 0, none⟩) (acc.length + 1) cap := by
    rcases hown'.2 with ⟨_, h0⟩ | ⟨g, cap, cur, hv, _⟩
    · omega
    · exact ⟨g, cap, hv⟩
  have HCC := Lib.hid hCC
  clear hCC hat
  go_wp2
  go_ret
  have hput := Lib.BuilderAt.put (T := 71) (e := 5) hB hb2 (bs' := Lib.byteCells (acc ++ [c])) (by simpa [Lib.byteCells] using hown') (by decide)
  obtain ⟨_, v3, h4, h5, h6⟩ := hput
  have hv : v3 = .slice (some ⟨g, 0, none⟩) (acc.length + 1) cap := by
    have h7 := heap_set hb2 1 (.slice (some ⟨g, 0, none⟩) (acc.length + 1) cap)
    rw [h7] at h4
    simpa using h4.symm
  subst hv
  refine ⟨rfl, ⟨hB, _, _, .inr rfl, h4, by rw [Lib.byteCells_length] at h5; exact h5, h6, hvC⟩, ?_, ?_⟩
  · rw [Below.heap_setCell _ _ _ _ hC, HCC.out]; exact hC1'.out
  · exact ((hb1.alloc (by have := hb1.size; omega) _).grown hgrow (by have := hb1.size; simp; omega) (fun k hk => (hown.lt k hk).1)).setCell (p := ⟨b, 1, none⟩) hB _
end Go.Proofs.YthgppbpmcjkadaaGreatDoor.X
set_option linter.unusedVariables false
set_option linter.unusedSimpArgs false
namespace Go.Proofs.YthgppbpmcjkadaaGreatDoor.X
open Go.RowKit Go.Proofs.YthgppbpmcjkadaaGreatDoorW.PrintWords Go.Proofs.YthgppbpmcjkadaaGreatDoorW.PrintLast Go.Proofs.YthgppbpmcjkadaaGreatDoorW.PrintMore
def ContPost (s : ByteArray) (w : World) (e : Ending) (w' : World) : Prop := e = .returned (.tuple #[.string ⟨(contZ s.data.toList).1.toArray⟩, .bool (contZ s.data.toList).2]) ∧ Below w.heap.size w w'
set_option maxRecDepth 100000 in
set_option maxHeartbeats 1000000 in
theorem cont_short (s : ByteArray) (w : World) (h : s.size < 2) : Calls Tryz.prog 32 #[.string s] w fun e w' => ContPost s w e w' := by
  have hz : contZ s.data.toList = ([], false) := by unfold contZ; rw [if_pos (by rw [Array.length_toList]; exact h)]
  have HZ := Lib.hid hz
  clear hz
  have hd : decide ((s.size : Int) < 2) = true := decide_eq_true (by omega)
  go_enter Tryz.func32, Tryz.ntmps32
  go_wp2_with fail
  go_ret2
  refine ⟨?_, Below.refl _ _⟩
  rw [HZ.out]
  rfl
theorem byte_ne {x c : UInt8} {n : Int} (hn : ((c.toNat : Nat) : Int) = n) (h : x ≠ c) : (((x.toNat : Nat) : Int) != n) = true ∧ (((x.toNat : Nat) : Int) == n) = false := by
  have : ¬ ((x.toNat : Nat) : Int) = n := fun e => h (by rw [← UInt8.toNat_inj]; omega)
  exact ⟨bne_iff_ne.2 this, beq_eq_false_iff_ne.2 this⟩
theorem getD_at {l : List UInt8} {k : Nat} (h : k < l.length) : l.getD k 0 = l[k] := by rw [List.getD_eq_getElem?_getD, List.getElem?_eq_getElem h]; rfl
set_option maxRecDepth 100000 in
set_option maxHeartbeats 1000000 in
theorem cont_head (s : ByteArray) (w : World) (hs : s.size ≤ 140737488351232) (h : 2 ≤ s.size) (h0 : s[0]'(by omega) ≠ 34) : Calls Tryz.prog 32 #[.string s] w fun e w' => ContPost s w e w' := by
  have hl : s.data.toList.length = s.size := Array.length_toList
  have hz : contZ s.data.toList = ([], false) := by
    unfold contZ
    rw [if_neg (by omega), if_neg]
    rw [getD_at (by omega)]
    exact h0
  have HZ := Lib.hid hz
  clear hz hl
  have hd : decide ((s.size : Int) < 2) = false := decide_eq_false (by omega)
  have p0 : (0 < s.size) = True := eq_true (by omega)
  obtain ⟨hn1, hn2⟩ := byte_ne (n := 34) rfl h0
  generalize hx : s[0]'(by omega) = x at *
  go_enter Tryz.func32, Tryz.ntmps32
  go_wp2_with fail
  go_ret2
  refine ⟨?_, Below.refl _ _⟩
  rw [HZ.out]
  rfl
set_option maxRecDepth 100000 in
set_option maxHeartbeats 1000000 in
theorem cont_last (s : ByteArray) (w : World) (hs : s.size ≤ 140737488351232) (h : 2 ≤ s.size) (h0 : s[0]'(by omega) = 34) (h1 : s[s.size - 1]'(by omega) ≠ 34) : Calls Tryz.prog 32 #[.string s] w fun e w' => ContPost s w e w' := by
  have hl : s.data.toList.length = s.size := Array.length_toList
  have hz : contZ s.data.toList = ([], false) := by
    unfold contZ
    rw [if_neg (by omega), if_pos, if_neg]
    · rw [getD_at (by omega)]
      simp only [hl]
      exact h1
    · rw [getD_at (by omega)]
      exact h0
  have HZ := Lib.hid hz
  clear hz hl
  have hd : decide ((s.size : Int) < 2) = false := decide_eq_false (by omega)
  have p0 : (0 < s.size) = True := eq_true (by omega)
  have p1 : (0 ≤ (s.size : Int) - 1) = True := eq_true (by omega)
  have p1' : (1 ≤ s.size) = True := eq_true (by omega)
  have p2 : ((s.size : Int) - 1 < (s.size : Int)) = True := eq_true (by omega)
  have ht : ((s.size : Int) - 1).toNat = s.size - 1 := by omega
  obtain ⟨hn1, hn2⟩ := byte_ne (n := 34) rfl h1
  generalize hx : s[s.size - 1]'(by omega) = x at *
  go_enter Tryz.func32, Tryz.ntmps32
  go_wp2_with fail
  go_ret2
  refine ⟨?_, Below.refl _ _⟩
  rw [HZ.out]
  rfl
theorem inner_list (s : ByteArray) (h : 2 ≤ s.size) : (s.extract 1 (s.size - 1)).data.toList = (s.data.toList.drop 1).take (s.size - 2) := by
  simp [Array.toList_extract, List.extract]
  omega
/-- How the world of the loop stands: the builder in block b, the bytes in block C. -/
structure CS (w W0 wr : World) (b C k : Nat) (acc : List UInt8) : Prop where
  bd : Bd wr b b C acc
  cc : wr.heap[C]? = W0.heap[C]?
  bel : Below b w wr
  len : acc.length ≤ k
  lt : C < wr.heap.size
theorem CS.put {w W0 wr w' : World} {b C k : Nat} {acc : List UInt8} (h : CS w W0 wr b C k acc) {x : UInt8} (h1 : Bd w' b b C (acc ++ [x])) (h2 : w'.heap[C]? = wr.heap[C]?) (h3 : Below b wr w') : CS w W0 w' b C (k + 1) (acc ++ [x]) :=
  ⟨h1, h2.trans h.cc, h.bel.trans h3, by rw [List.length_append]; exact Nat.succ_le_succ h.len, Nat.lt_of_lt_of_le h.lt h3.size⟩
set_option maxRecDepth 100000 in
set_option maxHeartbeats 4000000 in
theorem cont_main (s : ByteArray) (w : World) (hs : s.size ≤ 140737488351232) (h : 2 ≤ s.size) (h0 : s[0]'(by omega) = 34) (h1 : s[s.size - 1]'(by omega) = 34) : Calls Tryz.prog 32 #[.string s] w fun e w' => ContPost s w e w' := by
  have hl : s.data.toList.length = s.size := Array.length_toList
  have hz : contZ s.data.toList = contL false (s.extract 1 (s.size - 1)).data.toList [] := by
    unfold contZ
    rw [if_neg (by omega), if_pos, if_pos, inner_list s h, hl]
    · rw [getD_at (by omega)]
      simp only [hl]
      exact h1
    · rw [getD_at (by omega)]
      exact h0
  have hti : (s.extract 1 (s.size - 1)).size = s.size - 2 := by rw [ByteArray.size_extract]; omega
  have HZ := Lib.hid hz
  clear hz hl
  have hd : decide ((s.size : Int) < 2) = false := decide_eq_false (by omega)
  have p0 : (0 < s.size) = True := eq_true (by omega)
  have p1 : (0 ≤ (s.size : Int) - 1) = True := eq_true (by omega)
  have p1' : (1 ≤ s.size) = True := eq_true (by omega)
  have p2 : ((s.size : Int) - 1 < (s.size : Int)) = True := eq_true (by omega)
  have p3 : (1 ≤ (s.size : Int) - 1) = True := eq_true (by omega)
  have p4 : ((s.size : Int) - 1 ≤ (s.size : Int)) = True := eq_true (by omega)
  have ht : ((s.size : Int) - 1).toNat = s.size - 1 := by omega
  have hcv := fun W => Lib.run_convert_string_bytes (P := Tryz.prog) W 9 69 5 (s.extract 1 (s.size - 1)) Tryz.underlying9 Tryz.underlying69 Tryz.underlying5
  rw [hti] at hcv
  go_enter Tryz.func32, Tryz.ntmps32
  go_wp2_with fail
  have hlen : (s.extract 1 (s.size - 1)).data.toList.length = s.size - 2 := by rw [Array.length_toList]; exact hti
  have hcell0 := fun (j : Nat) hj => Lib.bytesWorld_cell (w.alloc (Obj.cells #[Value.pointer none, Value.slice none 0 0] 71)) 5 (s.extract 1 (s.size - 1)) j hj
  rw [hti] at hcell0
  generalize hW0 : Lib.bytesWorld (w.alloc (Obj.cells #[Value.pointer none, Value.slice none 0 0] 71)) 5 (s.extract 1 (s.size - 1)) = W0 at *
  have hst0 : CS w W0 W0 w.heap.size (w.heap.size + 1) 0 [] := by
    have e1 : W0.heap[w.heap.size]? = some (.cells #[.pointer none, .slice none 0 0] 71 (0, 0)) := by
      rw [← hW0, Lib.bytesWorld_at_old _ _ _ _ (by simp)]
      exact heap_new w _
    refine ⟨⟨Nat.le_refl _, _, _, .inl rfl, e1, World.ownsRow_nil _ _ _ _, by simp [Value.ownBlock], by simp [Value.ownBlock]⟩, rfl, ?_, Nat.le_refl _, ?_⟩
    · rw [← hW0]
      exact below_bytes ((Below.refl _ _).alloc (Nat.le_refl _) _) (by simp) _ _
    · rw [← hW0, Lib.bytesWorld_size]; simp
  have hcl : ∀ (wr : World) (k : Nat) (acc : List UInt8) (hk : k < s.size - 2), CS w W0 wr w.heap.size (w.heap.size + 1) k acc → wr.cell? ⟨w.heap.size + 1, k, none⟩ = some (.int .u8 (((s.extract 1 (s.size - 1)).data.toList.getD k 0).toNat : Int)) := by
    intro wr k acc hk hcs
    rw [World.cell?_of_block (w := W0) hcs.cc]
    have := hcell0 k hk
    simpa using this
  have HCL := Lib.hid hcl
  have HS0 := Lib.hid hst0
  clear hW0 hcell0 hcl hst0 hcv p1 p1' p2 p3 p4 ht hti h0 h1
  generalize (s.extract 1 (s.size - 1)).data.toList = L at *
  generalize hb : w.heap.size = b at *
  generalize grownCap (w.alloc (Obj.cells #[Value.pointer none, Value.slice none 0 0] 71)) (s.size - 2) 0 5 = cp
  have hns : s.size - 2 ≤ 140737488351232 := by omega
  generalize s.size - 2 = n at *
  subst hlen
  have HBB := Lib.hid hb
  clear hb
  go_loopw [6, 33] (fun a q wr => ∃ (esc : Bool) (k : Nat) (acc : List UInt8), k ≤ L.length ∧ a = .bool esc ∧ q = .int .i64 (k : Int) ∧ contL esc (L.drop k) acc = contL false L [] ∧ CS w W0 wr b (b + 1) k acc) (fun _ q _ => L.length - (intOf q).toNat)
  case atStart => exact ⟨false, 0, [], Nat.zero_le _, rfl, rfl, rfl, HS0.out⟩
  case round =>
    obtain ⟨esc, k, acc, hk, rfl, rfl, hcont, hcs⟩ := hrel
    have HCS := Lib.hid hcs
    have hlw := hcs.lt
    have hla := hcs.len
    clear hcs
    rcases Classical.em (k < L.length) with c3 | c3
    · have hd2 : decide (((k : Nat) : Int) < (L.length : Int)) = true := decide_eq_true (by omega)
      have pk : (0 ≤ ((k : Nat) : Int)) = True := eq_true (by omega)
      have qk : (((k : Nat) : Int) < (L.length : Int)) = True := eq_true (by omega)
      have hwk : IntKind.i64.wrap ((k : Int) + 1) = ((k + 1 : Nat) : Int) := by rw [i64_w]; unfold wrap64; omega
      have ck := HCL.out wr k acc c3 HCS.out
      rw [getD_at c3] at ck
      rw [List.drop_eq_getElem_cons c3] at hcont
      generalize hx : L[k] = x at *
      have HX := Lib.hid hx
      clear hx
      have HW := Lib.hid (fun c => writeByte_any b b (b + 1) acc c wr HCS.out.bd (by omega) hlw (by omega) (by omega))
      cases esc with
      | true =>
        simp only [contL] at hcont
        by_cases e1 : x = 110
        · subst e1
          have HC := Lib.hid hcont
          clear hcont
          have hw := HW.out 10
          simp only [show (((10 : UInt8).toNat : Nat) : Int) = 10 from rfl] at hw
          have HW2 := Lib.hid hw
          clear hw
          go_wp2_with fail
          refine HW2.out.mono ?_
          rintro e w2 ⟨rfl, hb1, hb2, hb3⟩
          have HS2 := Lib.hid (HCS.out.put hb1 hb2 hb3)
          clear hb1 hb2 hb3
          go_wp2_with fail
          go_roundw
          case rel => exact ⟨false, k + 1, _, by omega, rfl, congrArg (Value.int .i64) (by omega), HC.out, HS2.out⟩
          case measure => simp [intOf]; omega
        · obtain ⟨m1, m2⟩ := byte_ne (n := 110) rfl e1
          rw [if_neg e1] at hcont
          by_cases e2 : x = 34
          · subst e2
            rw [if_pos (.inl rfl)] at hcont
            have HC := Lib.hid hcont
            clear hcont
            have hw := HW.out 34
            simp only [show (((34 : UInt8).toNat : Nat) : Int) = 34 from rfl] at hw
            have HW2 := Lib.hid hw
            clear hw
            go_wp2_with fail
            refine HW2.out.mono ?_
            rintro e w2 ⟨rfl, hb1, hb2, hb3⟩
            have HS2 := Lib.hid (HCS.out.put hb1 hb2 hb3)
            clear hb1 hb2 hb3
            go_wp2_with fail
            go_roundw
            case rel => exact ⟨false, k + 1, _, by omega, rfl, congrArg (Value.int .i64) (by omega), HC.out, HS2.out⟩
            case measure => simp [intOf]; omega
          · obtain ⟨m3, m4⟩ := byte_ne (n := 34) rfl e2
            by_cases e3 : x = 92
            · subst e3
              rw [if_pos (.inr rfl)] at hcont
              have HC := Lib.hid hcont
              clear hcont
              have hw := HW.out 92
              simp only [show (((92 : UInt8).toNat : Nat) : Int) = 92 from rfl] at hw
              have HW2 := Lib.hid hw
              clear hw
              go_wp2_with fail
              refine HW2.out.mono ?_
              rintro e w2 ⟨rfl, hb1, hb2, hb3⟩
              have HS2 := Lib.hid (HCS.out.put hb1 hb2 hb3)
              clear hb1 hb2 hb3
              go_wp2_with fail
              go_roundw
              case rel => exact ⟨false, k + 1, _, by omega, rfl, congrArg (Value.int .i64) (by omega), HC.out, HS2.out⟩
              case measure => simp [intOf]; omega
            · obtain ⟨m5, m6⟩ := byte_ne (n := 92) rfl e3
              rw [if_neg (fun h => h.elim e2 e3)] at hcont
              have HC := Lib.hid (HZ.out.trans hcont.symm)
              clear hcont
              go_wp2_with fail
              go_ret2
              have hbb := HBB.out
              rw [← hbb] at HCS
              refine ⟨?_, HCS.out.bel⟩
              rw [HC.out]
              rfl
      | false =>
        simp only [contL] at hcont
        by_cases e1 : x = 92
        · subst e1
          rw [if_pos rfl] at hcont
          have HC := Lib.hid hcont
          clear hcont
          go_wp2_with fail
          go_roundw
          case rel => exact ⟨true, k + 1, acc, by omega, rfl, congrArg (Value.int .i64) (by omega), HC.out, ⟨HCS.out.bd, HCS.out.cc, HCS.out.bel, by omega, hlw⟩⟩
          case measure => simp [intOf]; omega
        · obtain ⟨m1, m2⟩ := byte_ne (n := 92) rfl e1
          rw [if_neg e1] at hcont
          by_cases e2 : x = 34
          · subst e2
            rw [if_pos (.inl rfl)] at hcont
            have HC := Lib.hid (HZ.out.trans hcont.symm)
            clear hcont
            go_wp2_with fail
            go_ret2
            have hbb := HBB.out
            rw [← hbb] at HCS
            refine ⟨?_, HCS.out.bel⟩
            rw [HC.out]
            rfl
          · obtain ⟨m3, m4⟩ := byte_ne (n := 34) rfl e2
            by_cases e3 : x = 10
            · subst e3
              rw [if_pos (.inr rfl)] at hcont
              have HC := Lib.hid (HZ.out.trans hcont.symm)
              clear hcont
              go_wp2_with fail
              go_ret2
              have hbb := HBB.out
              rw [← hbb] at HCS
              refine ⟨?_, HCS.out.bel⟩
              rw [HC.out]
              rfl
            · obtain ⟨m5, m6⟩ := byte_ne (n := 10) rfl e3
              rw [if_neg (fun h => h.elim e2 e3)] at hcont
              have HC := Lib.hid hcont
              clear hcont
              have hw := HW.out x
              have HW2 := Lib.hid hw
              clear hw
              go_wp2_with fail
              refine HW2.out.mono ?_
              rintro e w2 ⟨rfl, hb1, hb2, hb3⟩
              have HS2 := Lib.hid (HCS.out.put hb1 hb2 hb3)
              clear hb1 hb2 hb3
              go_wp2_with fail
              go_roundw
              case rel => exact ⟨false, k + 1, _, by omega, rfl, congrArg (Value.int .i64) (by omega), HC.out, HS2.out⟩
              case measure => simp [intOf]; omega
    · obtain rfl : k = L.length := by omega
      have hd2 : decide (((L.length : Nat) : Int) < (L.length : Int)) = false := decide_eq_false (by omega)
      rw [List.drop_length] at hcont
      simp only [contL] at hcont
      have HC := Lib.hid (HZ.out.trans hcont.symm)
      have HB := Lib.hid (Tryz.Builder_String_any b b acc wr HCS.out.bd.is (by omega))
      clear hcont
      go_wp2_with fail
      refine HB.out.mono ?_
      rintro e w2 ⟨rfl, hb3⟩
      have HB3 := Lib.hid hb3
      clear hb3
      go_wp2_with fail
      go_ret2
      have hbb := HBB.out
      rw [← hbb] at HCS HB3
      refine ⟨?_, HCS.out.bel.trans HB3.out⟩
      rw [HC.out]
      rfl
theorem cont_all (s : ByteArray) (w : World) (hs : s.size ≤ 140737488351232) : Calls Tryz.prog 32 #[.string s] w fun e w' => ContPost s w e w' := by
  by_cases h : s.size < 2
  · exact cont_short s w h
  by_cases h0 : s[0]'(by omega) = 34
  · by_cases h1 : s[s.size - 1]'(by omega) = 34
    · exact cont_main s w hs (by omega) h0 h1
    · exact cont_last s w hs (by omega) h0 h1
  · exact cont_head s w hs (by omega) h0
def value_content.f (a0 : ByteArray) : Option (ByteArray × Bool) := if a0.size ≤ 140737488351232 then some (⟨(contZ a0.data.toList).1.toArray⟩, (contZ a0.data.toList).2) else none
theorem value_content.calls (a0 : ByteArray) (r1 : ByteArray) (r2 : Bool) (w : World) (h : value_content.f a0 = some (r1, r2)) :
    Calls Tryz.prog 32 #[.string a0] w fun e w' => e = .returned (.tuple #[.string r1, .bool r2]) ∧ Below w.heap.size w w' := by
  unfold value_content.f at h
  split at h
  case isFalse => cases h
  rename_i hs
  obtain ⟨h1, h2⟩ := Prod.mk.inj (Option.some.inj h)
  subst h1 h2
  exact cont_all a0 w hs
end Go.Proofs.YthgppbpmcjkadaaGreatDoor.X
