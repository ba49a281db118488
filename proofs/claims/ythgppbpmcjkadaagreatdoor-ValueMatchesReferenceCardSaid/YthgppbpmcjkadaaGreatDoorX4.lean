/- Blocks of three cells (a value's), as the walks of this seat know them. strings.Replacer: buildOnce, and the first call of Replace. strings.NewReplacer over the three pairs of value.Text, and the replacer's Replace: the text with each special byte written as two. -/
import Derived.Test.YthgppbpmcjkadaaGreatDoorX3
import Derived.Deep.AppendLies
set_option linter.unusedVariables false
set_option linter.unusedSimpArgs false
namespace Go.Proofs.YthgppbpmcjkadaaGreatDoor.X
open Go.RowKit
theorem h_two (w : World) (o1 o2 : Obj) : ((w.alloc o1).alloc o2).heap[w.heap.size]? = some o1 ∧ ((w.alloc o1).alloc o2).heap[w.heap.size + 1]? = some o2 := by
  have h2 := heap_new (w.alloc o1) o2
  have e : (w.alloc o1).heap.size = w.heap.size + 1 := World.size_alloc _ _
  rw [e] at h2
  refine ⟨?_, h2⟩
  rw [Below.heap_alloc _ _ _ (show w.heap.size < (w.alloc o1).heap.size by rw [e]; omega)]
  exact heap_new w o1
theorem h_lt {W : World} {k : Nat} {o : Obj} (h : W.heap[k]? = some o) : k < W.heap.size := (Array.getElem?_eq_some_iff.1 h).1
theorem h_keep {W w1 : World} (hb : Below W.heap.size W w1) {N : Nat} {o1 o2 : Obj} (h1 : W.heap[N]? = some o1) (h2 : W.heap[N + 1]? = some o2) : w1.heap[N]? = some o1 ∧ w1.heap[N + 1]? = some o2 :=
  ⟨(hb.block N (h_lt h1)).trans h1, (hb.block (N + 1) (h_lt h2)).trans h2⟩
theorem h_cells {W : World} {N : Nat} {a b c : Value} (h : W.heap[N]? = some (.cells #[a, b, c] 23 (0, 0))) : (W.cell? ⟨N, 0, none⟩ = some a ∧ W.cell? ⟨N, 1, none⟩ = some b ∧ W.cell? ⟨N, 2, none⟩ = some c) ∧ (W.frozen? ⟨N, 0, none⟩ = false ∧ W.frozen? ⟨N, 1, none⟩ = false ∧ W.frozen? ⟨N, 2, none⟩ = false) := by
  simp [World.cell?, World.frozen?, h]
theorem h_set3 {W : World} {N : Nat} {a b c : Value} (h : W.heap[N]? = some (.cells #[a, b, c] 23 (0, 0))) (x y z : Value) : (((W.setCell ⟨N, 0, none⟩ x).setCell ⟨N, 1, none⟩ y).setCell ⟨N, 2, none⟩ z).heap[N]? = some (.cells #[x, y, z] 23 (0, 0)) := by
  have := heap_set (heap_set (heap_set h 0 x) 1 y) 2 z
  simpa using this
theorem h_set0 {W : World} {N : Nat} {a b c : Value} (h : W.heap[N]? = some (.cells #[a, b, c] 23 (0, 0))) (x : Value) : (W.setCell ⟨N, 0, none⟩ x).heap[N]? = some (.cells #[x, b, c] 23 (0, 0)) := by
  have := heap_set h 0 x
  simpa using this
theorem h_set1 {W : World} {N : Nat} {a b c : Value} (h : W.heap[N]? = some (.cells #[a, b, c] 23 (0, 0))) (x : Value) : (W.setCell ⟨N, 1, none⟩ x).heap[N]? = some (.cells #[a, x, c] 23 (0, 0)) := by
  have := heap_set h 1 x
  simpa using this
theorem h_set2 {W : World} {N : Nat} {a b c : Value} (h : W.heap[N]? = some (.cells #[a, b, c] 23 (0, 0))) (x : Value) : (W.setCell ⟨N, 2, none⟩ x).heap[N]? = some (.cells #[a, b, x] 23 (0, 0)) := by
  have := heap_set h 2 x
  simpa using this
theorem h_far {W : World} {N M o : Nat} {x : Value} {z : Option Obj} (h : W.heap[N]? = z) (hM : N ≠ M) : (W.setCell ⟨M, o, none⟩ x).heap[N]? = z := (Below.heap_setCell _ _ _ _ hM).trans h
theorem h_below3 {w W : World} {B : Nat} (h : Below B w W) {N : Nat} (hN : B ≤ N) (x y z : Value) : Below B w (((W.setCell ⟨N, 0, none⟩ x).setCell ⟨N, 1, none⟩ y).setCell ⟨N, 2, none⟩ z) :=
  ((h.setCell (by simpa using hN) _).setCell (by simpa using hN) _).setCell (by simpa using hN) _
end Go.Proofs.YthgppbpmcjkadaaGreatDoor.X
set_option linter.unusedVariables false
set_option linter.unusedSimpArgs false
namespace Go.Proofs.YthgppbpmcjkadaaGreatDoor.X
open Go.RowKit Go.Proofs.YthgppbpmcjkadaaGreatDoorW.PrintWords Go.Proofs.YthgppbpmcjkadaaGreatDoorW.PrintLast Go.Proofs.YthgppbpmcjkadaaGreatDoorW.PrintMore
/-- The replacer at block B. -/
def RepAt (w : World) (B : Nat) (d m : Int) (r s : Value) : Prop := w.heap[B]? = some (.cells #[.int .u32 d, .int .i32 m, .int .u32 0, r, s] 91 (0, 0))
theorem RepAt.cell {w : World} {B : Nat} {d m : Int} {r s : Value} (h : RepAt w B d m r s) : w.cell? ⟨B, 0, none⟩ = some (.int .u32 d) ∧ w.cell? ⟨B, 1, none⟩ = some (.int .i32 m) ∧ w.cell? ⟨B, 3, none⟩ = some r ∧ w.cell? ⟨B, 4, none⟩ = some s := by
  unfold RepAt at h
  simp [World.cell?, h]
theorem RepAt.frozen {w : World} {B : Nat} {d m : Int} {r s : Value} (h : RepAt w B d m r s) (o : Nat) : w.frozen? ⟨B, o, none⟩ = false := by
  unfold RepAt at h
  simp [World.frozen?, h]
theorem RepAt.set0 {w : World} {B : Nat} {d m : Int} {r s : Value} (h : RepAt w B d m r s) (d' : Int) : RepAt (w.setCell ⟨B, 0, none⟩ (.int .u32 d')) B d' m r s := by
  have := heap_set h 0 (.int .u32 d')
  simpa [RepAt] using this
theorem RepAt.set1 {w : World} {B : Nat} {d m : Int} {r s : Value} (h : RepAt w B d m r s) (m' : Int) : RepAt (w.setCell ⟨B, 1, none⟩ (.int .i32 m')) B d m' r s := by
  have := heap_set h 1 (.int .i32 m')
  simpa [RepAt] using this
theorem RepAt.set3 {w : World} {B : Nat} {d m : Int} {r s : Value} (h : RepAt w B d m r s) (r' : Value) : RepAt (w.setCell ⟨B, 3, none⟩ r') B d m r' s := by
  have := heap_set h 3 r'
  simpa [RepAt] using this
theorem RepAt.set4 {w : World} {B : Nat} {d m : Int} {r s : Value} (h : RepAt w B d m r s) (s' : Value) : RepAt (w.setCell ⟨B, 4, none⟩ s') B d m r s' := by
  have := heap_set h 4 s'
  simpa [RepAt] using this
/-- Blocks N and above lie as before: the table stands. -/
theorem St.keep {w w' : World} {N k : Nat} (h : St w N k) (hk : ∀ b, N ≤ b → b < w.heap.size → w'.heap[b]? = w.heap[b]?) : St w' N k := by
  obtain ⟨cs, h1, h2, h3, ⟨cur, c1, c2⟩, h4⟩ := h
  have hlt : N + 1 < w.heap.size := by
    rcases Nat.lt_or_ge (N + 1) w.heap.size with h | h
    · exact h
    · rw [Array.getElem?_eq_none h] at h1; cases h1
  refine ⟨cs, (hk _ (by omega) hlt).trans h1, h2, h3, ⟨cur, (hk N (Nat.le_refl _) (by omega)).trans c1, c2⟩, fun b hb => ?_⟩
  obtain ⟨v, hv, hs⟩ := h4 b hb
  refine ⟨v, hv, ?_⟩
  cases hr : rep k b with
  | none => rw [hr] at hs; exact hs
  | some s =>
    rw [hr] at hs
    obtain ⟨X, c, rfl, hX, hcell⟩ := hs
    refine ⟨X, c, rfl, hX, fun j hj => ?_⟩
    rw [World.cell?_of_block (w := w) (hk X (by omega) (World.block_lt_of_cell? w ⟨X, j, none⟩ (hcell j hj)))]
    exact hcell j hj
set_option maxRecDepth 100000 in
theorem buildOnce_any (B O c : Nat) (w : World) (hB : RepAt w B 0 1 .nilIface (.slice (some ⟨O, 0, none⟩) 6 c)) (hO : OldAt w O) :
    Calls Tryz.prog 50 #[.pointer (some ⟨B, 0, none⟩)] w fun e w' => e = .returned (.tuple #[]) ∧ RepAt w' B 0 1 (.iface 121 (.pointer (some ⟨w.heap.size + 1, 0, none⟩))) (.slice none 0 0) ∧ St w' w.heap.size 3 ∧ Below B w w' := by
  have HB := Lib.hid (build_any B O c w hB.cell.2.2.2 hO)
  have hlt : B < w.heap.size := World.block_lt_of_cell? w ⟨B, 0, none⟩ hB.cell.1
  have HR := Lib.hid hB
  clear hB hO
  go_enter Tryz.func50, Tryz.ntmps50
  go_wp2_with fail
  refine HB.out.mono ?_
  rintro e w1 ⟨rfl, hst, hbel⟩
  have hr1 : RepAt w1 B 0 1 .nilIface (.slice (some ⟨O, 0, none⟩) 6 c) := (hbel.block B hlt).trans HR.out
  have c3 := hr1.cell.2.2.1
  have c4 := hr1.cell.2.2.2
  have f3 := hr1.frozen 3
  have f4 := hr1.frozen 4
  have HR1 := Lib.hid hr1
  have HST := Lib.hid hst
  have HBL := Lib.hid hbel
  clear hr1 hst hbel
  go_wp2_with fail
  go_end0
  have hb2 : Below B w w1 := HBL.out.mono (by omega)
  refine ⟨rfl, ((HR1.out.set3 _).set4 _), HST.out.keep fun b hb hb2 => ?_, (hb2.setCell (Nat.le_refl B) _).setCell (Nat.le_refl B) _⟩
  rw [Below.heap_setCell _ _ _ _ (by show b ≠ B; omega), Below.heap_setCell _ _ _ _ (by show b ≠ B; omega)]
/-- What Do leaves. -/
theorem do_any (B O c : Nat) (w : World) (hB : RepAt w B 0 0 .nilIface (.slice (some ⟨O, 0, none⟩) 6 c)) (hOB : O ≠ B) (hO : OldAt w O) :
    Calls Tryz.prog 49 #[.pointer (some ⟨B, 0, none⟩), .func (.func 50) #[.pointer (some ⟨B, 0, none⟩)] #[]] w fun e w' => e = .returned (.tuple #[]) ∧
      RepAt w' B 1 0 (.iface 121 (.pointer (some ⟨w.heap.size + 1, 0, none⟩))) (.slice none 0 0) ∧ St w' w.heap.size 3 ∧ Below B w w' := by
  have hlt : B < w.heap.size := World.block_lt_of_cell? w ⟨B, 0, none⟩ hB.cell.1
  have hO1 : OldAt (w.setCell ⟨B, 1, none⟩ (.int .i32 1)) O := fun k hk => by
    have h := hO k hk
    rw [World.cell?_setCell_other _ _ _ _ (fun h => hOB (by injection h with h1 h2; exact h1.symm)), World.cell?_setCell_other _ _ _ _ (fun h => hOB (by injection h with h1 h2; exact h1.symm))]
    exact h
  have hF := buildOnce_any B O c _ (hB.set1 1) hO1
  rw [World.size_setCell] at hF
  refine (do_first B w (fun w1 => RepAt w1 B 0 1 (.iface 121 (.pointer (some ⟨w.heap.size + 1, 0, none⟩))) (.slice none 0 0) ∧ St w1 w.heap.size 3 ∧ Below B w w1) hB.cell.1 hB.cell.2.1 (hB.frozen 0) (hB.frozen 1) (hF.mono ?_)).mono ?_
  · rintro e w1 ⟨rfl, h1, h2, h3⟩
    exact ⟨rfl, ⟨h1, h2, ((Below.refl B w).setCell (Nat.le_refl _) _).trans h3⟩, h1.cell.1, h1.cell.2.1, h1.frozen 0, h1.frozen 1⟩
  · rintro e w' ⟨rfl, w1, ⟨h1, h2, h3⟩, rfl⟩
    have h1' : RepAt w1.drew B 0 1 (.iface 121 (.pointer (some ⟨w.heap.size + 1, 0, none⟩))) (.slice none 0 0) := h1
    refine ⟨rfl, (h1'.set0 1).set1 0, h2.keep fun b hb hb2 => ?_, (h3.drew.setCell (Nat.le_refl _) _).setCell (Nat.le_refl _) _⟩
    rw [Below.heap_setCell _ _ _ _ (by show b ≠ B; omega), Below.heap_setCell _ _ _ _ (by show b ≠ B; omega)]
    rfl
end Go.Proofs.YthgppbpmcjkadaaGreatDoor.X
set_option linter.unusedVariables false
set_option linter.unusedSimpArgs false
namespace Go.Proofs.YthgppbpmcjkadaaGreatDoor.X
open Go.RowKit Go.Proofs.YthgppbpmcjkadaaGreatDoorW.PrintWords Go.Proofs.YthgppbpmcjkadaaGreatDoorW.PrintLast Go.Proofs.YthgppbpmcjkadaaGreatDoorW.PrintMore
def pairL : List Value := [.string ⟨#[34]⟩, .string ⟨#[92, 34]⟩, .string ⟨#[92]⟩, .string ⟨#[92, 92]⟩, .string ⟨#[10]⟩, .string ⟨#[92, 110]⟩]
theorem old_pair {w : World} {O : Nat} (h : ∀ j v, pairL[j]? = some v → w.cell? ⟨O, j, none⟩ = some v) : OldAt w O := by
  intro k hk
  rcases k with _ | _ | _ | k
  · exact ⟨h 4 _ rfl, h 5 _ rfl⟩
  · exact ⟨h 2 _ rfl, h 3 _ rfl⟩
  · exact ⟨h 0 _ rfl, h 1 _ rfl⟩
  · omega
def NewPost (w : World) (e : Ending) (w' : World) : Prop :=
  ∃ B O c, e = .returned (.pointer (some ⟨B, 0, none⟩)) ∧ RepAt w' B 0 0 .nilIface (.slice (some ⟨O, 0, none⟩) 6 c) ∧ O ≠ B ∧ OldAt w' O ∧ w.heap.size ≤ B ∧ Below w.heap.size w w'
set_option maxRecDepth 100000 in
theorem new_any (A c : Nat) (w : World) (hA : ∀ j v, pairL[j]? = some v → w.cell? ⟨A, j, none⟩ = some v) :
    Calls Tryz.prog 38 #[.slice (some ⟨A, 0, none⟩) 6 c] w fun e w' => NewPost w e w' := by
  obtain ⟨i9, hinfo, hz0, hz1, hz2⟩ := info_parts info9
  have HA := Lib.hid (fun j v h => (congrArg w.cell? (show (⟨A, 0, none⟩ : Addr).add j = ⟨A, j, none⟩ by unfold Addr.add; split <;> simp_all)).trans (hA j v h))
  clear hA
  go_enter Tryz.func38, Tryz.ntmps38
  go_wp2_with (at_builtin; refine wpList_append_lies _ rfl _ _ _ rfl w.heap.size 9 i9 (.string ⟨#[]⟩) 1 16 Tryz.underlying75 hinfo hz0 hz1 hz2 rfl (by omega) (.slice none 0 0) 0 [] rfl (World.ownsRow_nil _ _ _ _) ⟨A, 0, none⟩ 6 c pairL rfl rfl HA.out (by decide) (by omega) (by decide) (by decide) (Nat.le_refl _) w.heap.size rfl ?_; intro g cap w1 hown hgrow hat hlt)
  have hbel : Below w.heap.size w w1 := ⟨hgrow.os, hgrow.tape, hgrow.output, hgrow.size, fun k hk => hgrow.block k hk (by simp [Value.ownBlock])⟩
  have hsz := hgrow.size
  have hcl : ∀ j v, pairL[j]? = some v → w1.cell? ⟨g, j, none⟩ = some v := fun j v h => by
    have h2 := hown.cells (g := g) rfl j v (by simpa using h)
    have e : (⟨g, 0, none⟩ : Addr).add j = ⟨g, j, none⟩ := by unfold Addr.add; split <;> simp_all
    rw [e] at h2
    exact h2
  go_ret
  refine ⟨w1.heap.size, g, cap, rfl, heap_new w1 _, by omega, old_pair fun j v h => ?_, hsz, hbel.alloc hsz _⟩
  exact (World.cell?_alloc_past _ _ _ (show g < w1.heap.size by omega)).trans (hcl j v h)
theorem method_rep (a : Addr) (w : World) : (method 305 121 (.pointer (some a)) "Replace").run Tryz.prog w = .ok (146, .pointer (some a)) w := by kernel_rfl
set_option maxRecDepth 100000 in
theorem replace_any (B O c : Nat) (s r : ByteArray) (w : World) (hB : RepAt w B 0 0 .nilIface (.slice (some ⟨O, 0, none⟩) 6 c)) (hOB : O ≠ B) (hO : OldAt w O)
    (hR : ∀ N w, St w N 3 → Calls Tryz.prog 146 #[.pointer (some ⟨N + 1, 0, none⟩), .string s] w fun e w' => e = .returned (.string r) ∧ Below w.heap.size w w') :
    Calls Tryz.prog 39 #[.pointer (some ⟨B, 0, none⟩), .string s] w fun e w' => e = .returned (.string r) ∧ Below B w w' := by
  have hBl : B < w.heap.size := World.block_lt_of_cell? w ⟨B, 0, none⟩ hB.cell.1
  have HD := Lib.hid (do_any B O c w hB hOB hO)
  have HRR := Lib.hid hR
  have hmr := method_rep
  clear hB hO hR
  go_enter Tryz.func39, Tryz.ntmps39
  go_wp2_with fail
  refine HD.out.mono ?_
  rintro e w1 ⟨rfl, hr, hst, hbel⟩
  have c3 := hr.cell.2.2.1
  have HR := Lib.hid hr
  have HST := Lib.hid hst
  have HBL := Lib.hid hbel
  clear hr hst hbel
  go_wp2_with fail
  refine (HRR.out _ _ HST.out).mono ?_
  rintro e w2 ⟨rfl, hb2⟩
  have HB2 := Lib.hid hb2
  clear hb2
  go_wp2_with fail
  go_ret
  exact ⟨rfl, HBL.out.trans (HB2.out.mono (by have := HBL.out.size; omega))⟩
end Go.Proofs.YthgppbpmcjkadaaGreatDoor.X
