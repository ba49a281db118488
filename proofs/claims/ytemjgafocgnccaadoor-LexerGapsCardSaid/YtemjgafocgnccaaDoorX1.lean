/- lexer's scan: its small methods, in the form of contracts. -/
import Derived.Test.YtemjgafocgnccaaDoorPy2
import Derived.Test.YtemjgafocgnccaaDoorWWords
import Derived.Test.YtemjgafocgnccaaDoorWLast
import Derived.Test.YtemjgafocgnccaaDoorWMore
import Derived.ControlIn
import Derived.Deep.RegionHeld3
import Derived.Deep.QuietTactic
import Derived.BigQuiet
import Derived.Below
import Derived.Lib.Hide
import Derived.WalkKit
import Derived.OwnWalk
import Derived.LoopTactic
import Derived.WalkLawsBesides
import Derived.Sort.Row
set_option linter.unusedVariables false
set_option linter.unusedSimpArgs false
namespace Go.Proofs.YtemjgafocgnccaaDoor.X
open Go.RowKit Go.Proofs.YtemjgafocgnccaaDoorW.PrintWords Go.Proofs.YtemjgafocgnccaaDoorW.PrintLast Go.Proofs.YtemjgafocgnccaaDoorW.PrintMore
def run (p : Int → Bool) (l : List Int) : Nat := (l.takeWhile p).length
def IsPred (F : Nat) (p : Int → Bool) : Prop := ∀ (c : Int) (w : World), Calls Tryd.prog F #[.int .u8 c] w fun e w' => e = .returned (.bool (p c)) ∧ ∃ m, w' = w.drewN m
/-- The scan at block b: its text and its offset. -/
def ScanAt (w : World) (b : Nat) (t : ByteArray) (i : Nat) : Prop := w.heap[b]? = some (.cells #[.string t, .int .i64 i] 40 (0, 0))
theorem ScanAt.cell0 {w : World} {b : Nat} {t : ByteArray} {i : Nat} (h : ScanAt w b t i) : w.cell? ⟨b, 0, none⟩ = some (.string t) := by
  unfold ScanAt at h
  simp [World.cell?, h]
theorem ScanAt.cell1 {w : World} {b : Nat} {t : ByteArray} {i : Nat} (h : ScanAt w b t i) : w.cell? ⟨b, 1, none⟩ = some (.int .i64 i) := by
  unfold ScanAt at h
  simp [World.cell?, h]
theorem ScanAt.frozen1 {w : World} {b : Nat} {t : ByteArray} {i : Nat} (h : ScanAt w b t i) : w.frozen? ⟨b, 1, none⟩ = false := by
  unfold ScanAt at h
  simp [World.frozen?, h]
theorem ScanAt.drewN {w : World} {b : Nat} {t : ByteArray} {i : Nat} (h : ScanAt w b t i) (m : Nat) : ScanAt (w.drewN m) b t i := h
theorem ScanAt.set {w : World} {b : Nat} {t : ByteArray} {i : Nat} (h : ScanAt w b t i) (j : Nat) : ScanAt (w.setCell ⟨b, 1, none⟩ (.int .i64 j)) b t j := by
  unfold ScanAt at *
  rw [Sort.setCell_eq]
  unfold Sort.mapBlock
  simp [Array.getElem?_modify, h, Sort.onCells]
theorem ScanAt.same {w : World} {b : Nat} {t : ByteArray} {i : Nat} (h : ScanAt w b t i) : w.setCell ⟨b, 1, none⟩ (.int .i64 i) = w := by
  rw [Sort.setCell_eq]
  refine Sort.mapBlock_id w b _ fun c e fr hc => ?_
  unfold ScanAt at h
  rw [h] at hc
  cases hc
  rfl
theorem set_set (w : World) (b : Nat) (v v' : Value) : (w.setCell ⟨b, 1, none⟩ v).setCell ⟨b, 1, none⟩ v' = w.setCell ⟨b, 1, none⟩ v' := by
  rw [Sort.setCell_eq, Sort.setCell_eq, Sort.mapBlock_mapBlock, Sort.setCell_eq]
  congr 1
  funext c
  simp
theorem set_drewN (w : World) (b m : Nat) (v : Value) : (w.setCell ⟨b, 1, none⟩ v).drewN m = (w.drewN m).setCell ⟨b, 1, none⟩ v := rfl
theorem run_step (p : Int → Bool) (t : ByteArray) (i : Nat) (h : i < t.size) : run p ((bytesOf t).drop i) = if p (bt t (i : Int)) = true then 1 + run p ((bytesOf t).drop (i + 1)) else 0 := by
  have hl : i < (bytesOf t).length := by unfold bytesOf; rw [List.length_map, Array.length_toList]; exact h
  have hb : bt t (i : Int) = (bytesOf t)[i] := by
    have h2 : (bytesOf t)[i] = ((t[i]'h).toNat : Int) := List.getElem_map _
    rw [h2]
    unfold bt
    rw [dif_pos (show (i : Int).toNat < t.size by omega)]
    rfl
  unfold run
  rw [List.drop_eq_getElem_cons hl, hb]
  by_cases c : p (bytesOf t)[i] = true
  · rw [if_pos c, List.takeWhile_cons_of_pos c, List.length_cons]; omega
  · rw [if_neg c, List.takeWhile_cons_of_neg c]; rfl
theorem run25_any (p : Int → Bool) (hp : IsPred 25 p) (b : Nat) (t : ByteArray) (i : Nat) (hi : i ≤ t.size) (ht : t.size ≤ 21000) (w : World) (hs : ScanAt w b t i) :
    Calls Tryd.prog 24 #[.pointer (some ⟨b, 0, none⟩), .func (.func 25) #[] #[]] w fun e w' => e = .returned (.int .i64 (run p ((bytesOf t).drop i))) ∧ ∃ m, w' = w.drewN m := by
  have hc0 := hs.cell0
  have hc1 := hs.cell1
  clear hs
  have HP := Lib.hid hp
  clear hp
  go_enter Tryd.func24, Tryd.ntmps24
  go_wp2
  go_loopw [5] (fun q wr => ∃ n m : Nat, q = .int .i64 n ∧ wr = w.drewN m ∧ n + run p ((bytesOf t).drop (i + n)) = run p ((bytesOf t).drop i) ∧ i + n ≤ t.size) (fun q _ => t.size - (intOf q).toNat)
  case atStart => exact ⟨0, 0, rfl, rfl, by simp, hi⟩
  case round =>
    obtain ⟨n, m, rfl, hwr, hn, hle⟩ := hrel
    have hc0' : wr.cell? ⟨b, 0, none⟩ = some (.string t) := by rw [hwr]; exact hc0
    have hc1' : wr.cell? ⟨b, 1, none⟩ = some (.int .i64 i) := by rw [hwr]; exact hc1
    have HW := Lib.hid hwr
    clear hwr hc0 hc1
    have hw : IntKind.i64.wrap ((i : Int) + (n : Int)) = ((i + n : Nat) : Int) := by rw [i64_w]; unfold wrap64; omega
    have hw1 : IntKind.i64.wrap ((n : Int) + 1) = ((n + 1 : Nat) : Int) := by rw [i64_w]; unfold wrap64; omega
    have HR := Lib.hid (run_step p t (i + n))
    have HN := Lib.hid hn
    clear hn
    generalize hj : i + n = j at *
    rcases Classical.em (j < t.size) with c | c
    · have hd : decide (((j : Nat) : Int) < (t.size : Int)) = true := decide_eq_true (by omega)
      have p0 : (0 ≤ ((j : Nat) : Int)) = True := eq_true (by omega)
      have q0 : (((j : Nat) : Int) < (t.size : Int)) = True := eq_true (by omega)
      have HX := Lib.hid (show ((t[j]'c).toNat : Int) = bt t (j : Int) from bt_at t (j : Int) (by simpa using c))
      go_wp2_with fail
      go_quiet ((go_at_call 25; exact Calls.quiet_of (HP.out _ _)))
      rcases hpb : p ((t[j]'c).toNat : Int) with _ | _
      · go_wp2_with fail
        go_ret
        refine ⟨?_, m + nq, by rw [HW.out, World.drewN_drewN]⟩
        have h := HR.out c
        rw [← HX.out, hpb, if_neg (by simp)] at h
        have h2 := HN.out
        rw [h] at h2
        rw [← h2]; rfl
      · go_wp2_with fail
        go_roundw
        case rel =>
          refine ⟨n + 1, m + nq, rfl, by rw [HW.out, World.drewN_drewN], ?_, by omega⟩
          have h := HR.out c
          rw [← HX.out, hpb, if_pos rfl] at h
          have h2 := HN.out
          rw [h] at h2
          rw [← h2, show i + (n + 1) = j + 1 by omega]; omega
        case measure => simp [intOf]; omega
    · have hd : decide (((j : Nat) : Int) < (t.size : Int)) = false := decide_eq_false (by omega)
      go_wp2_with fail
      go_quiet (fail)
      go_wp2_with fail
      go_ret
      refine ⟨?_, m + nq, by rw [HW.out, World.drewN_drewN]⟩
      have h2 := HN.out
      have h3 : run p ((bytesOf t).drop j) = 0 := by
        rw [List.drop_of_length_le (by unfold bytesOf; rw [List.length_map, Array.length_toList]; show t.size ≤ j; omega)]; rfl
      rw [h3] at h2
      rw [← h2]; rfl
theorem run26_any (p : Int → Bool) (hp : IsPred 26 p) (b : Nat) (t : ByteArray) (i : Nat) (hi : i ≤ t.size) (ht : t.size ≤ 21000) (w : World) (hs : ScanAt w b t i) :
    Calls Tryd.prog 24 #[.pointer (some ⟨b, 0, none⟩), .func (.func 26) #[] #[]] w fun e w' => e = .returned (.int .i64 (run p ((bytesOf t).drop i))) ∧ ∃ m, w' = w.drewN m := by
  have hc0 := hs.cell0
  have hc1 := hs.cell1
  clear hs
  have HP := Lib.hid hp
  clear hp
  go_enter Tryd.func24, Tryd.ntmps24
  go_wp2
  go_loopw [5] (fun q wr => ∃ n m : Nat, q = .int .i64 n ∧ wr = w.drewN m ∧ n + run p ((bytesOf t).drop (i + n)) = run p ((bytesOf t).drop i) ∧ i + n ≤ t.size) (fun q _ => t.size - (intOf q).toNat)
  case atStart => exact ⟨0, 0, rfl, rfl, by simp, hi⟩
  case round =>
    obtain ⟨n, m, rfl, hwr, hn, hle⟩ := hrel
    have hc0' : wr.cell? ⟨b, 0, none⟩ = some (.string t) := by rw [hwr]; exact hc0
    have hc1' : wr.cell? ⟨b, 1, none⟩ = some (.int .i64 i) := by rw [hwr]; exact hc1
    have HW := Lib.hid hwr
    clear hwr hc0 hc1
    have hw : IntKind.i64.wrap ((i : Int) + (n : Int)) = ((i + n : Nat) : Int) := by rw [i64_w]; unfold wrap64; omega
    have hw1 : IntKind.i64.wrap ((n : Int) + 1) = ((n + 1 : Nat) : Int) := by rw [i64_w]; unfold wrap64; omega
    have HR := Lib.hid (run_step p t (i + n))
    have HN := Lib.hid hn
    clear hn
    generalize hj : i + n = j at *
    rcases Classical.em (j < t.size) with c | c
    · have hd : decide (((j : Nat) : Int) < (t.size : Int)) = true := decide_eq_true (by omega)
      have p0 : (0 ≤ ((j : Nat) : Int)) = True := eq_true (by omega)
      have q0 : (((j : Nat) : Int) < (t.size : Int)) = True := eq_true (by omega)
      have HX := Lib.hid (show ((t[j]'c).toNat : Int) = bt t (j : Int) from bt_at t (j : Int) (by simpa using c))
      go_wp2_with fail
      go_quiet ((go_at_call 26; exact Calls.quiet_of (HP.out _ _)))
      rcases hpb : p ((t[j]'c).toNat : Int) with _ | _
      · go_wp2_with fail
        go_ret
        refine ⟨?_, m + nq, by rw [HW.out, World.drewN_drewN]⟩
        have h := HR.out c
        rw [← HX.out, hpb, if_neg (by simp)] at h
        have h2 := HN.out
        rw [h] at h2
        rw [← h2]; rfl
      · go_wp2_with fail
        go_roundw
        case rel =>
          refine ⟨n + 1, m + nq, rfl, by rw [HW.out, World.drewN_drewN], ?_, by omega⟩
          have h := HR.out c
          rw [← HX.out, hpb, if_pos rfl] at h
          have h2 := HN.out
          rw [h] at h2
          rw [← h2, show i + (n + 1) = j + 1 by omega]; omega
        case measure => simp [intOf]; omega
    · have hd : decide (((j : Nat) : Int) < (t.size : Int)) = false := decide_eq_false (by omega)
      go_wp2_with fail
      go_quiet (fail)
      go_wp2_with fail
      go_ret
      refine ⟨?_, m + nq, by rw [HW.out, World.drewN_drewN]⟩
      have h2 := HN.out
      have h3 : run p ((bytesOf t).drop j) = 0 := by
        rw [List.drop_of_length_le (by unfold bytesOf; rw [List.length_map, Array.length_toList]; show t.size ≤ j; omega)]; rfl
      rw [h3] at h2
      rw [← h2]; rfl
theorem run30_any (p : Int → Bool) (hp : IsPred 30 p) (b : Nat) (t : ByteArray) (i : Nat) (hi : i ≤ t.size) (ht : t.size ≤ 21000) (w : World) (hs : ScanAt w b t i) :
    Calls Tryd.prog 24 #[.pointer (some ⟨b, 0, none⟩), .func (.func 30) #[] #[]] w fun e w' => e = .returned (.int .i64 (run p ((bytesOf t).drop i))) ∧ ∃ m, w' = w.drewN m := by
  have hc0 := hs.cell0
  have hc1 := hs.cell1
  clear hs
  have HP := Lib.hid hp
  clear hp
  go_enter Tryd.func24, Tryd.ntmps24
  go_wp2
  go_loopw [5] (fun q wr => ∃ n m : Nat, q = .int .i64 n ∧ wr = w.drewN m ∧ n + run p ((bytesOf t).drop (i + n)) = run p ((bytesOf t).drop i) ∧ i + n ≤ t.size) (fun q _ => t.size - (intOf q).toNat)
  case atStart => exact ⟨0, 0, rfl, rfl, by simp, hi⟩
  case round =>
    obtain ⟨n, m, rfl, hwr, hn, hle⟩ := hrel
    have hc0' : wr.cell? ⟨b, 0, none⟩ = some (.string t) := by rw [hwr]; exact hc0
    have hc1' : wr.cell? ⟨b, 1, none⟩ = some (.int .i64 i) := by rw [hwr]; exact hc1
    have HW := Lib.hid hwr
    clear hwr hc0 hc1
    have hw : IntKind.i64.wrap ((i : Int) + (n : Int)) = ((i + n : Nat) : Int) := by rw [i64_w]; unfold wrap64; omega
    have hw1 : IntKind.i64.wrap ((n : Int) + 1) = ((n + 1 : Nat) : Int) := by rw [i64_w]; unfold wrap64; omega
    have HR := Lib.hid (run_step p t (i + n))
    have HN := Lib.hid hn
    clear hn
    generalize hj : i + n = j at *
    rcases Classical.em (j < t.size) with c | c
    · have hd : decide (((j : Nat) : Int) < (t.size : Int)) = true := decide_eq_true (by omega)
      have p0 : (0 ≤ ((j : Nat) : Int)) = True := eq_true (by omega)
      have q0 : (((j : Nat) : Int) < (t.size : Int)) = True := eq_true (by omega)
      have HX := Lib.hid (show ((t[j]'c).toNat : Int) = bt t (j : Int) from bt_at t (j : Int) (by simpa using c))
      go_wp2_with fail
      go_quiet ((go_at_call 30; exact Calls.quiet_of (HP.out _ _)))
      rcases hpb : p ((t[j]'c).toNat : Int) with _ | _
      · go_wp2_with fail
        go_ret
        refine ⟨?_, m + nq, by rw [HW.out, World.drewN_drewN]⟩
        have h := HR.out c
        rw [← HX.out, hpb, if_neg (by simp)] at h
        have h2 := HN.out
        rw [h] at h2
        rw [← h2]; rfl
      · go_wp2_with fail
        go_roundw
        case rel =>
          refine ⟨n + 1, m + nq, rfl, by rw [HW.out, World.drewN_drewN], ?_, by omega⟩
          have h := HR.out c
          rw [← HX.out, hpb, if_pos rfl] at h
          have h2 := HN.out
          rw [h] at h2
          rw [← h2, show i + (n + 1) = j + 1 by omega]; omega
        case measure => simp [intOf]; omega
    · have hd : decide (((j : Nat) : Int) < (t.size : Int)) = false := decide_eq_false (by omega)
      go_wp2_with fail
      go_quiet (fail)
      go_wp2_with fail
      go_ret
      refine ⟨?_, m + nq, by rw [HW.out, World.drewN_drewN]⟩
      have h2 := HN.out
      have h3 : run p ((bytesOf t).drop j) = 0 := by
        rw [List.drop_of_length_le (by unfold bytesOf; rw [List.length_map, Array.length_toList]; show t.size ≤ j; omega)]; rfl
      rw [h3] at h2
      rw [← h2]; rfl
end Go.Proofs.YtemjgafocgnccaaDoor.X
