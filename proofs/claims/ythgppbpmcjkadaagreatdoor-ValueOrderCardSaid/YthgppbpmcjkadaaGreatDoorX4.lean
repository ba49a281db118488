/- strings.Replacer: buildOnce, and the first call of Replace. -/
import Derived.Test.YthgppbpmcjkadaaGreatDoorX3
set_option linter.unusedVariables false
set_option linter.unusedSimpArgs false
namespace Go.Proofs.YthgppbpmcjkadaaGreatDoor.X
open Go.RowKit Go.Proofs.YthgppbpmcjkadaaGreatDoorW.PrintWords Go.Proofs.YthgppbpmcjkadaaGreatDoorW.PrintLast Go.Proofs.YthgppbpmcjkadaaGreatDoorW.PrintMore
/-- The replacer at block B. -/
def RepAt (w : World) (B : Nat) (d m : Int) (r s : Value) : Prop := w.heap[B]? = some (.cells #[.int .u32 d, .int .i32 m, .int .u32 0, r, s] 91 (0, 0))
theorem RepAt.cell {w : World} {B : Nat} {d m : Int} {r s : Value} (h : RepAt w B d m r s) : w.cell? ⟨B, 0, none⟩ = some (.int .u32 d) ∧ w.cell? ⟨B, 1, none⟩ = some (.int .i32 m) ∧ w.cell? ⟨B, 3, none⟩ = some r ∧ w.cell? ⟨B, 4, none⟩ = some s := by
  unfold RepAt at h
  simp [World.cell?, h]
theorem RepAt.frozen {w : World} {B : Nat} {d m : Int} {r s : Value} (h : RepAt w B d m r s) (o : Nat) : w.frozen? ⟨B, o, none⟩ = false := by
  unfold RepAt at h
  simp [World.frozen?, h]
theorem RepAt.set0 {w : World} {B : Nat} {d m : Int} {r s : Value} (h : RepAt w B d m r s) (d' : Int) : RepAt (w.setCell ⟨B, 0, none⟩ (.int .u32 d')) B d' m r s := by
  have := heap_set h 0 (.int .u32 d')
  simpa [RepAt] using this
theorem RepAt.set1 {w : World} {B : Nat} {d m : Int} {r s : Value} (h : RepAt w B d m r s) (m' : Int) : RepAt (w.setCell ⟨B, 1, none⟩ (.int .i32 m')) B d m' r s := by
  have := heap_set h 1 (.int .i32 m')
  simpa [RepAt] using this
theorem RepAt.set3 {w : World} {B : Nat} {d m : Int} {r s : Value} (h : RepAt w B d m r s) (r' : Value) : RepAt (w.setCell ⟨B, 3, none⟩ r') B d m r' s := by
  have := heap_set h 3 r'
  simpa [RepAt] using this
theorem RepAt.set4 {w : World} {B : Nat} {d m : Int} {r s : Value} (h : RepAt w B d m r s) (s' : Value) : RepAt (w.setCell ⟨B, 4, none⟩ s') B d m r s' := by
  have := heap_set h 4 s'
  simpa [RepAt] using this
/-- Blocks N and above lie as before: the table stands. -/
theorem St.keep {w w' : World} {N k : Nat} (h : St w N k) (hk : ∀ b, N ≤ b → b < w.heap.size → w'.heap[b]? = w.heap[b]?) : St w' N k := by
  obtain ⟨cs, h1, h2, h3, ⟨cur, c1, c2⟩, h4⟩ := h
  have hlt : N + 1 < w.heap.size := by
    rcases Nat.lt_or_ge (N + 1) w.heap.size with h | h
    · exact h
    · rw [Array.getElem?_eq_none h] at h1; cases h1
  refine ⟨cs, (hk _ (by omega) hlt).trans h1, h2, h3, ⟨cur, (hk N (Nat.le_refl _) (by omega)).trans c1, c2⟩, fun b hb => ?_⟩
  obtain ⟨v, hv, hs⟩ := h4 b hb
  refine ⟨v, hv, ?_⟩
  cases hr : rep k b with
  | none => rw [hr] at hs; exact hs
  | some s =>
    rw [hr] at hs
    obtain ⟨X, c, rfl, hX, hcell⟩ := hs
    refine ⟨X, c, rfl, hX, fun j hj => ?_⟩
    rw [World.cell?_of_block (w := w) (hk X (by omega) (World.block_lt_of_cell? w ⟨X, j, none⟩ (hcell j hj)))]
    exact hcell j hj
set_option maxRecDepth 100000 in
theorem buildOnce_any (B O c : Nat) (w : World) (hB : RepAt w B 0 1 .nilIface (.slice (some ⟨O, 0, none⟩) 6 c)) (hO : OldAt w O) :
    Calls Tryz.prog 50 #[.pointer (some ⟨B, 0, none⟩)] w fun e w' => e = .returned (.tuple #[]) ∧ RepAt w' B 0 1 (.iface 121 (.pointer (some ⟨w.heap.size + 1, 0, none⟩))) (.slice none 0 0) ∧ St w' w.heap.size 3 ∧ Below B w w' := by
  have HB := Lib.hid (build_any B O c w hB.cell.2.2.2 hO)
  have hlt : B < w.heap.size := World.block_lt_of_cell? w ⟨B, 0, none⟩ hB.cell.1
  have HR := Lib.hid hB
  clear hB hO
  go_enter Tryz.func50, Tryz.ntmps50
  go_wp2_with fail
  refine HB.out.mono ?_
  rintro e w1 ⟨rfl, hst, hbel⟩
  have hr1 : RepAt w1 B 0 1 .nilIface (.slice (some ⟨O, 0, none⟩) 6 c) := (hbel.block B hlt).trans HR.out
  have c3 := hr1.cell.2.2.1
  have c4 := hr1.cell.2.2.2
  have f3 := hr1.frozen 3
  have f4 := hr1.frozen 4
  have HR1 := Lib.hid hr1
  have HST := Lib.hid hst
  have HBL := Lib.hid hbel
  clear hr1 hst hbel
  go_wp2_with fail
  go_end0
  have hb2 : Below B w w1 := HBL.out.mono (by omega)
  refine ⟨rfl, ((HR1.out.set3 _).set4 _), HST.out.keep fun b hb hb2 => ?_, (hb2.setCell (Nat.le_refl B) _).setCell (Nat.le_refl B) _⟩
  rw [Below.heap_setCell _ _ _ _ (by show b ≠ B; omega), Below.heap_setCell _ _ _ _ (by show b ≠ B; omega)]
/-- What Do leaves. -/
theorem do_any (B O c : Nat) (w : World) (hB : RepAt w B 0 0 .nilIface (.slice (some ⟨O, 0, none⟩) 6 c)) (hOB : O ≠ B) (hO : OldAt w O) :
    Calls Tryz.prog 49 #[.pointer (some ⟨B, 0, none⟩), .func (.func 50) #[.pointer (some ⟨B, 0, none⟩)] #[]] w fun e w' => e = .returned (.tuple #[]) ∧
      RepAt w' B 1 0 (.iface 121 (.pointer (some ⟨w.heap.size + 1, 0, none⟩))) (.slice none 0 0) ∧ St w' w.heap.size 3 ∧ Below B w w' := by
  have hlt : B < w.heap.size := World.block_lt_of_cell? w ⟨B, 0, none⟩ hB.cell.1
  have hO1 : OldAt (w.setCell ⟨B, 1, none⟩ (.int .i32 1)) O := fun k hk => by
    have h := hO k hk
    rw [World.cell?_setCell_other _ _ _ _ (fun h => hOB (by injection h with h1 h2; exact h1.symm)), World.cell?_setCell_other _ _ _ _ (fun h => hOB (by injection h with h1 h2; exact h1.symm))]
    exact h
  have hF := buildOnce_any B O c _ (hB.set1 1) hO1
  rw [World.size_setCell] at hF
  refine (do_first B w (fun w1 => RepAt w1 B 0 1 (.iface 121 (.pointer (some ⟨w.heap.size + 1, 0, none⟩))) (.slice none 0 0) ∧ St w1 w.heap.size 3 ∧ Below B w w1) hB.cell.1 hB.cell.2.1 (hB.frozen 0) (hB.frozen 1) (hF.mono ?_)).mono ?_
  · rintro e w1 ⟨rfl, h1, h2, h3⟩
    exact ⟨rfl, ⟨h1, h2, ((Below.refl B w).setCell (Nat.le_refl _) _).trans h3⟩, h1.cell.1, h1.cell.2.1, h1.frozen 0, h1.frozen 1⟩
  · rintro e w' ⟨rfl, w1, ⟨h1, h2, h3⟩, rfl⟩
    have h1' : RepAt w1.drew B 0 1 (.iface 121 (.pointer (some ⟨w.heap.size + 1, 0, none⟩))) (.slice none 0 0) := h1
    refine ⟨rfl, (h1'.set0 1).set1 0, h2.keep fun b hb hb2 => ?_, (h3.drew.setCell (Nat.le_refl _) _).setCell (Nat.le_refl _) _⟩
    rw [Below.heap_setCell _ _ _ _ (by show b ≠ B; omega), Below.heap_setCell _ _ _ _ (by show b ≠ B; omega)]
    rfl
end Go.Proofs.YthgppbpmcjkadaaGreatDoor.X
