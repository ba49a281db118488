/- strings.NewReplacer over the three pairs of value.Text, and the replacer's Replace: the text with each special byte written as two. -/
import Derived.Test.YthgppbpmcjkadaaGreatDoorX4
import Derived.Deep.AppendLies
set_option linter.unusedVariables false
set_option linter.unusedSimpArgs false
namespace Go.Proofs.YthgppbpmcjkadaaGreatDoor.X
open Go.RowKit Go.Proofs.YthgppbpmcjkadaaGreatDoorW.PrintWords Go.Proofs.YthgppbpmcjkadaaGreatDoorW.PrintLast Go.Proofs.YthgppbpmcjkadaaGreatDoorW.PrintMore
def pairL : List Value := [.string ⟨#[34]⟩, .string ⟨#[92, 34]⟩, .string ⟨#[92]⟩, .string ⟨#[92, 92]⟩, .string ⟨#[10]⟩, .string ⟨#[92, 110]⟩]
theorem old_pair {w : World} {O : Nat} (h : ∀ j v, pairL[j]? = some v → w.cell? ⟨O, j, none⟩ = some v) : OldAt w O := by
  intro k hk
  rcases k with _ | _ | _ | k
  · exact ⟨h 4 _ rfl, h 5 _ rfl⟩
  · exact ⟨h 2 _ rfl, h 3 _ rfl⟩
  · exact ⟨h 0 _ rfl, h 1 _ rfl⟩
  · omega
def NewPost (w : World) (e : Ending) (w' : World) : Prop :=
  ∃ B O c, e = .returned (.pointer (some ⟨B, 0, none⟩)) ∧ RepAt w' B 0 0 .nilIface (.slice (some ⟨O, 0, none⟩) 6 c) ∧ O ≠ B ∧ OldAt w' O ∧ w.heap.size ≤ B ∧ Below w.heap.size w w'
set_option maxRecDepth 100000 in
theorem new_any (A c : Nat) (w : World) (hA : ∀ j v, pairL[j]? = some v → w.cell? ⟨A, j, none⟩ = some v) :
    Calls Tryz.prog 38 #[.slice (some ⟨A, 0, none⟩) 6 c] w fun e w' => NewPost w e w' := by
  obtain ⟨i9, hinfo, hz0, hz1, hz2⟩ := info_parts info9
  have HA := Lib.hid (fun j v h => (congrArg w.cell? (show (⟨A, 0, none⟩ : Addr).add j = ⟨A, j, none⟩ by unfold Addr.add; split <;> simp_all)).trans (hA j v h))
  clear hA
  go_enter Tryz.func38, Tryz.ntmps38
  go_wp2_with (at_builtin; refine wpList_append_lies _ rfl _ _ _ rfl w.heap.size 9 i9 (.string ⟨#[]⟩) 1 16 Tryz.underlying75 hinfo hz0 hz1 hz2 rfl (by omega) (.slice none 0 0) 0 [] rfl (World.ownsRow_nil _ _ _ _) ⟨A, 0, none⟩ 6 c pairL rfl rfl HA.out (by decide) (by omega) (by decide) (by decide) (Nat.le_refl _) w.heap.size rfl ?_; intro g cap w1 hown hgrow hat hlt)
  have hbel : Below w.heap.size w w1 := ⟨hgrow.os, hgrow.tape, hgrow.output, hgrow.size, fun k hk => hgrow.block k hk (by simp [Value.ownBlock])⟩
  have hsz := hgrow.size
  have hcl : ∀ j v, pairL[j]? = some v → w1.cell? ⟨g, j, none⟩ = some v := fun j v h => by
    have h2 := hown.cells (g := g) rfl j v (by simpa using h)
    have e : (⟨g, 0, none⟩ : Addr).add j = ⟨g, j, none⟩ := by unfold Addr.add; split <;> simp_all
    rw [e] at h2
    exact h2
  go_ret
  refine ⟨w1.heap.size, g, cap, rfl, heap_new w1 _, by omega, old_pair fun j v h => ?_, hsz, hbel.alloc hsz _⟩
  exact (World.cell?_alloc_past _ _ _ (show g < w1.heap.size by omega)).trans (hcl j v h)
theorem method_rep (a : Addr) (w : World) : (method 305 121 (.pointer (some a)) "Replace").run Tryz.prog w = .ok (146, .pointer (some a)) w := by kernel_rfl
set_option maxRecDepth 100000 in
theorem replace_any (B O c : Nat) (s r : ByteArray) (w : World) (hB : RepAt w B 0 0 .nilIface (.slice (some ⟨O, 0, none⟩) 6 c)) (hOB : O ≠ B) (hO : OldAt w O)
    (hR : ∀ N w, St w N 3 → Calls Tryz.prog 146 #[.pointer (some ⟨N + 1, 0, none⟩), .string s] w fun e w' => e = .returned (.string r) ∧ Below w.heap.size w w') :
    Calls Tryz.prog 39 #[.pointer (some ⟨B, 0, none⟩), .string s] w fun e w' => e = .returned (.string r) ∧ Below B w w' := by
  have hBl : B < w.heap.size := World.block_lt_of_cell? w ⟨B, 0, none⟩ hB.cell.1
  have HD := Lib.hid (do_any B O c w hB hOB hO)
  have HRR := Lib.hid hR
  have hmr := method_rep
  clear hB hO hR
  go_enter Tryz.func39, Tryz.ntmps39
  go_wp2_with fail
  refine HD.out.mono ?_
  rintro e w1 ⟨rfl, hr, hst, hbel⟩
  have c3 := hr.cell.2.2.1
  have HR := Lib.hid hr
  have HST := Lib.hid hst
  have HBL := Lib.hid hbel
  clear hr hst hbel
  go_wp2_with fail
  refine (HRR.out _ _ HST.out).mono ?_
  rintro e w2 ⟨rfl, hb2⟩
  have HB2 := Lib.hid hb2
  clear hb2
  go_wp2_with fail
  go_ret
  exact ⟨rfl, HBL.out.trans (HB2.out.mono (by have := HBL.out.size; omega))⟩
end Go.Proofs.YthgppbpmcjkadaaGreatDoor.X
