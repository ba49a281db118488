/- seal.Split: a loop over an iterator: its contract in the form of the printed ones. -/
import Derived.Test.YtgblfdfagppejaaDoorX0
import Derived.Test.YtgblfdfagppejaaDoorWLast
import Derived.Test.YtgblfdfagppejaaDoorWMore
import Derived.ControlIn
import Derived.Deep.RegionHeld3
import Derived.Lib.AppendIntMem
import Derived.RangeFuncBox
import Derived.RangeFuncNested
import Derived.RangeFuncBound
import Derived.RangeFuncCalls
import Derived.RangeFuncLeaves
import Derived.Shelf.Abstract
import Derived.Shelf.RegionOpen
import Derived.WalkKit
import Derived.OwnWalkIn
import Derived.TacticsInMore
import Derived.LoopNIn
import Derived.LoopIn
import Derived.Maps.AppendAt
set_option linter.unusedVariables false
set_option linter.unusedSimpArgs false
namespace Go.Proofs.YtgblfdfagppejaaDoor.X
open Go.RowKit Go.Shelf Go.Proofs.YtgblfdfagppejaaDoorW.PrintWords Go.Proofs.YtgblfdfagppejaaDoorW.PrintLast Go.Proofs.YtgblfdfagppejaaDoorW.PrintMore
attribute [local go_sem] Oper.semAt_some

/-- A text cut into pieces of 40 bytes; the last has what is left. -/
def chopB : Nat → ByteArray → List ByteArray
  | 0, s => [s]
  | k + 1, s => if 40 < s.size then s.extract 0 40 :: chopB k (s.extract 40 s.size) else [s]
def chop (s : ByteArray) : List ByteArray := chopB s.size s
theorem chopB_any : ∀ (k : Nat) (s : ByteArray), s.size ≤ k → ∀ m, s.size ≤ m → chopB k s = chopB m s
  | 0, s, h, 0, _ => rfl
  | 0, s, h, m + 1, _ => by simp only [chopB]; rw [if_neg (by omega)]
  | k + 1, s, _, 0, h => by simp only [chopB]; rw [if_neg (by omega)]
  | k + 1, s, h, m + 1, h2 => by
    simp only [chopB]
    by_cases c : 40 < s.size
    · have hz : (s.extract 40 s.size).size = s.size - 40 := by rw [ByteArray.size_extract]; omega
      rw [if_pos c, if_pos c, chopB_any k (s.extract 40 s.size) (by omega) m (by omega)]
    · rw [if_neg c, if_neg c]
theorem chop_more {s : ByteArray} (h : 40 < s.size) : chop s = s.extract 0 40 :: chop (s.extract 40 s.size) := by
  have hz : (s.extract 40 s.size).size = s.size - 40 := by rw [ByteArray.size_extract]; omega
  unfold chop
  obtain ⟨k, hk⟩ : ∃ k, s.size = k + 1 := ⟨s.size - 1, by omega⟩
  rw [hk, chopB, if_pos (by omega), ← hk, chopB_any k (s.extract 40 s.size) (by omega) _ (Nat.le_refl _)]
theorem chop_last {s : ByteArray} (h : ¬ 40 < s.size) : chop s = [s] := by
  unfold chop
  cases hk : s.size with
  | zero => rfl
  | succ k => rw [chopB, if_neg h]
def headed (s : ByteArray) : ByteArray := (⟨(Lib.itoa (s.size : Int)).toArray⟩ : ByteArray) ++ ⟨#[58]⟩ ++ s
def splitB (s : ByteArray) : List ByteArray := chop (headed s)
theorem parts_any (s : ByteArray) (w : World) : CallsIn Fence.wide 3 Tryd.prog 31 #[.string s] w fun e w' => e = .returned (.func (.func 37) #[] #[.pointer (some ⟨w.heap.size, 0, none⟩)]) ∧ w' = w.alloc (.cells #[.string s] 9) := by
  refine callsIn_of_wp Tryd.func31 rfl trivial ?_ rfl
  simp only [Tryd.ntmps31, List.size_toArray, List.length_cons, List.length_nil, Nat.reduceAdd, Nat.reduceSub, Array.replicate_succ, Array.replicate_zero, List.push_toArray, List.append_toArray, List.nil_append, List.cons_append]
  gi_wp2
  go_ret
  exact ⟨rfl, rfl⟩
theorem itoa_size (n : Int) (h0 : -9223372036854775808 ≤ n) (h1 : n ≤ 9223372036854775807) : (Lib.itoa n).length ≤ 21 := Lib.itoa_length_le n h0 h1
set_option maxRecDepth 100000 in
set_option maxHeartbeats 1000000 in
theorem parts1_any (l Bn n₀ : Nat) (s : ByteArray) (hs : s.size ≤ 1000000) (J Jx : List ByteArray → World → Prop)
    (hJ : ∀ W W', J [] W → Below W.heap.size W W' → J [] W')
    (hY : ∀ pre x W, J pre W → pre.length < (splitB s).length → YieldAt Fence.wide 2 Tryd.prog l #[.string x] W fun e W' =>
      (e = .returned (.bool true) ∧ J (pre ++ [x]) W' ∧ Below n₀ W W') ∨ (e = .returned (.bool false) ∧ Jx (pre ++ [x]) W'))
    (W : World) (hBn : W.cell? ⟨Bn, 0, none⟩ = some (.string s)) (hG : GT W) (h0 : J [] W) :
    CallsIn Fence.wide 3 Tryd.prog 37 #[.func (.yield l) #[] #[], .pointer (some ⟨Bn, 0, none⟩)] W fun e W' => (∃ v, e = .returned v) ∧
      ((∃ ys, ys = splitB s ∧ J ys W') ∨ (∃ pre, pre <+: splitB s ∧ Jx pre W')) := by
  have hI1 := itoa_size (s.size : Int) (by omega) (by omega)
  have hcat1 : ∀ W : World, (Op.stringOp .add ⟨(Lib.itoa (s.size : Int)).toArray⟩ ⟨#[58]⟩).run Tryd.prog W = .ok (.string (⟨(Lib.itoa (s.size : Int)).toArray⟩ ++ ⟨#[58]⟩)) W := fun W =>
    run_string_add_sum W _ _ (by show (Lib.itoa (s.size : Int)).toArray.size + 1 ≤ _; rw [List.size_toArray]; omega)
  have hcat2 : ∀ W : World, (Op.stringOp .add (⟨(Lib.itoa (s.size : Int)).toArray⟩ ++ ⟨#[58]⟩) s).run Tryd.prog W = .ok (.string (headed s)) W := fun W =>
    run_string_add_sum W _ _ (by rw [ByteArray.size_append]; show (Lib.itoa (s.size : Int)).toArray.size + 1 + _ ≤ _; rw [List.size_toArray]; omega)
  have HI := Lib.hid (fun w hG => Tryd.strconv_Itoa (s.size : Int) (by omega) (by omega) w hG)
  have HG := Lib.hid hG
  have HH := Lib.hid h0
  have hlt : Bn < W.heap.size := World.block_lt_of_cell? W _ hBn
  have HS0 := Lib.hid (Below.refl W.heap.size W)
  clear h0 hG
  refine callsIn_of_wp Tryd.func37 rfl trivial ?_ rfl
  simp only [Tryd.ntmps37, List.size_toArray, List.length_cons, List.length_nil, Nat.reduceAdd, Nat.reduceSub, Array.replicate_succ, Array.replicate_zero, List.push_toArray, List.append_toArray, List.nil_append, List.cons_append]
  gi_wp2
  refine wpIn_wide.2 ?_
  have hBd : Below W.heap.size W W.drew := below_drew1 (Below.refl _ _)
  go_region_held3 (fun w' => w'.cell? ⟨Bn, 0, none⟩ = some (.string s) ∧ Below W.heap.size W w') (refine ⟨?_, ?_⟩ <;> first | assumption | exact Lib.below_grow W.heap.size _ (Nat.le_refl _) _ _ | exact (Below.cell (p := ⟨Bn, 0, none⟩) (Lib.below_grow W.heap.size _ (Nat.le_refl _) _ _) hlt).trans hBn | (simp; assumption))
    (first | (go_at_call 38; refine (HI.out _ ?_).mono ?_; (exact HG.out.below (by assumption)); rintro e w' ⟨rfl, k, os, rfl⟩; have hb2 := Below.trans (by assumption) (Lib.below_grow W.heap.size _ (Below.size (by assumption)) k os); have hc2 := (Below.cell (p := ⟨Bn, 0, none⟩) hb2 hlt).trans hBn))
  have hB3 := hb2
  rw [World.drewN_drew] at hB3
  have hJ3 := hJ _ _ HH.out hB3
  clear hc2 hb2 hB3 HI HG HH HS0 hBd hcat1 hcat2 hBn hJ
  rename_i hHeld_; clear hHeld_
  generalize Sort.grow (W.drewN (1 + k)) os = W3 at *
  gi_wp2
  gi_loopw [3] (fun p wr => ∃ (pre : List ByteArray) (rest : ByteArray), p = .string rest ∧ splitB s = pre ++ chop rest ∧ J pre wr)
    (fun p wr => match p with | .string r => r.size | _ => 0)
  case atStart => exact ⟨[], headed s, rfl, rfl, hJ3⟩
  case round =>
    obtain ⟨pre, rest, rfl, hx, hJs⟩ := hrel
    rcases Classical.em (40 < rest.size) with c | c
    · rw [chop_more c] at hx
      obtain ⟨fn, tmps, assign, body, hy, hR⟩ := hY pre (rest.extract 0 40) wr hJs (by rw [hx]; simp)
      have hd : decide ((40 : Int) < (rest.size : Int)) = true := decide_eq_true (by omega)
      have h1 : (40 : Int) ≤ (rest.size : Int) := by omega
      have HX := Lib.hid hx
      have HC := Lib.hid c
      clear hx c
      gi_wp2
      refine hR.mono ?_
      rintro e W4 (⟨rfl, hJ4, hk4⟩ | ⟨rfl, hJx4⟩)
      · gi_wp2
        go_roundw
        case rel => exact ⟨pre ++ [rest.extract 0 40], rest.extract 40 rest.size, rfl, by rw [HX.out]; simp, hJ4⟩
        case measure => have := HC.out; simp; omega
      · gi_wp2
        refine bodyPost_ret (results_none rfl _ _ _) rfl ?_
        exact ⟨⟨_, rfl⟩, .inr ⟨pre ++ [rest.extract 0 40], by rw [HX.out]; exact ⟨chop (rest.extract 40 rest.size), by simp⟩, hJx4⟩⟩
    · rw [chop_last c] at hx
      obtain ⟨fn, tmps, assign, body, hy, hR⟩ := hY pre rest wr hJs (by rw [hx]; simp)
      have hd : decide ((40 : Int) < (rest.size : Int)) = false := decide_eq_false (by omega)
      have HX := Lib.hid hx
      have HC := Lib.hid c
      clear hx c
      gi_wp2
      refine hR.mono ?_
      rintro e W4 (⟨rfl, hJ4, hk4⟩ | ⟨rfl, hJx4⟩)
      · gi_wp2
        go_end0
        exact ⟨⟨_, rfl⟩, .inl ⟨_, HX.out.symm, hJ4⟩⟩
      · gi_wp2
        go_end0
        exact ⟨⟨_, rfl⟩, .inr ⟨pre ++ [rest], by rw [HX.out]; exact List.prefix_refl _, hJx4⟩⟩
theorem parts_stops (Bn n₀ : Nat) (s : ByteArray) (hs : s.size ≤ 1000000) (w : World) (hBn : Bn < w.heap.size) (hn₀ : n₀ ≤ w.heap.size) (hG : GT w) (hc : w.cell? ⟨Bn, 0, none⟩ = some (.string s)) :
    SeqStopsK Fence.wide 3 Tryd.prog 37 #[.pointer (some ⟨Bn, 0, none⟩)] (fun x : ByteArray => #[Value.string x]) (Below n₀) (fun ys => ys = splitB s) (fun pre => pre <+: splitB s) (splitB s).length w := fun l J Jx W hW hJ hJx hY h0 =>
  parts1_any l Bn n₀ s hs J Jx (fun A B hA hb => hJ [] A B none hA ⟨hb.os, hb.tape, hb.output, hb.size, fun k hk _ => hb.block k hk⟩ (fun r e => by cases e)) hY W ((hW.cell (p := ⟨Bn, 0, none⟩) hBn).trans hc) (hG.below hW) h0
theorem chopB_len : ∀ (k : Nat) (s : ByteArray), (chopB k s).length ≤ k + 1
  | 0, s => by simp [chopB]
  | k + 1, s => by
    have := chopB_len k (s.extract 40 s.size)
    simp only [chopB]
    split
    · simp only [List.length_cons]; omega
    · simp
theorem split_len (s : ByteArray) (hs : s.size ≤ 1000000) : (splitB s).length ≤ 2000000 := by
  have h1 := chopB_len (headed s).size (headed s)
  have h2 := itoa_size (s.size : Int) (by omega) (by omega)
  have h3 : (headed s).size = (Lib.itoa (s.size : Int)).length + 1 + s.size := by
    unfold headed
    rw [ByteArray.size_append, ByteArray.size_append]
    show (Lib.itoa (s.size : Int)).toArray.size + 1 + _ = _
    rw [List.size_toArray]
  show (chopB _ _).length ≤ _
  omega
theorem info9 : (Tryd.prog.info? 9).map (fun i => (i.zero, i.size, i.bytes)) = some (some (.string ByteArray.empty), 1, 16) := by kernel_rfl
set_option maxRecDepth 100000 in
set_option maxHeartbeats 2000000 in
theorem split_any (s : ByteArray) (hs : s.size ≤ 1000000) (w : World) (hG : GT w) :
    CallsIn Fence.wide 4 Tryd.prog 20 #[.string s] w fun e W' => ∃ v, e = .returned v ∧ W'.ownsRow w.heap.size 9 1 v (splitB s).length ((splitB s).map Value.string) ∧ Below w.heap.size w W' := by
  obtain ⟨i0, hi, hz0, hz1, hz2⟩ := info_parts info9
  have hlen := split_len s hs
  have hmax : 2000000 ≤ maxLen := by decide
  refine callsIn_of_wp_marks Tryd.func20 rfl trivial ?_ rfl
  simp only [Tryd.ntmps20, List.size_toArray, List.length_cons, List.length_nil, Nat.reduceAdd, Nat.reduceSub, Array.replicate_succ, Array.replicate_zero, List.push_toArray, List.append_toArray, List.nil_append, List.cons_append]
  gi_wp2_with (refine ⟨trivial, ?_⟩; gi_at_call 31; refine (parts_any _ _).mono ?_; rintro e w' ⟨rfl, rfl⟩)
  have bO := Boxed.new w 22 (.slice none 0 0)
  have bN := Boxed.new (w.alloc (.cells #[.slice none 0 0] 22)) 9 (.string s)
  rw [World.size_alloc] at bN
  have hB0 : Below w.heap.size w ((w.alloc (.cells #[.slice none 0 0] 22)).alloc (.cells #[.string s] 9)) := ((Below.refl _ w).alloc (Nat.le_refl _) _).alloc (by simp) _
  refine wpIn_rangeFunc_ownG rfl (by omega) (gf := 37) (lb := #[.pointer (some ⟨w.heap.size + 1, 0, none⟩)]) rfl trivial (enters_of Tryd.func37 (by kernel_rfl) rfl)
    (parts_stops (w.heap.size + 1) w.heap.size s hs _ (by simp) (by simp; omega) (hG.below hB0) bN.cell) belowK_t (belowK_b (by simp; omega)) (Below.refl _ _) (fun _ => rfl)
    (fun (pre : List ByteArray) W => (∃ v, Boxed W w.heap.size 22 v ∧ W.ownsRow w.heap.size 9 1 v pre.length (pre.map Value.string) ∧ True) ∧ Below w.heap.size w W)
    (fun _ _ _ => False)
    (OwnFrom.and (Own.from (holdsRow_own w.heap.size w.heap.size 22 9 1 (fun pre : List ByteArray => pre.length) (fun pre : List ByteArray => pre.map Value.string) (fun _ _ => True)) _) (ownFrom_below (Nat.le_refl _) (by simp; omega)))
    (fun _ _ _ _ _ hs _ _ => hs)
    ⟨⟨_, bO.alloc _, World.ownsRow_nil _ _ _ _, trivial⟩, hB0⟩
    (fun x => { tmps := #[.string s, undef, .slice none 0 0, .pointer (some ⟨w.heap.size, 0, none⟩), .string x, .string s, .func (.func 37) #[] #[.pointer (some ⟨w.heap.size + 1, 0, none⟩)], .string x, undef, undef, undef, undef, undef], defers := [] }) ?assign ?body ?done ?stop
  case assign =>
    intro l x W K hK
    gi_wp2
    exact hK
  case body =>
    rintro l pre x W ⟨⟨v, hv, hrow, -⟩, hB⟩ hlt
    have hc := hv.cell
    gi_wp2_with (gi_at_builtin; refine wpListIn_append_own _ rfl _ _ 22 rfl w.heap.size 9 i0 (.string ByteArray.empty) 1 16 Tryd.underlying22 hi hz0 hz1 hz2 rfl (by decide) _ _ _ rfl (hrow.alloc _) ⟨W.heap.size, 0, none⟩ 1 1 [.string x] rfl rfl (cell_one_new _ _ _) (by simp [Value.oneCell']) (by omega) (by omega) (by have := hB.size; simp; omega) ?_; intro v' w1 hown' hgrow _; obtain ⟨g', cap', rfl⟩ := ownsRow_succ hown'; obtain ⟨hv1, hv2, hr2, hk2, hb2⟩ := hv.appended (by decide) hrow hB.size (Nat.le_refl _) hown' hgrow; have hc1 := hv1.cell; have hf1 := hv1.frozen)
    exact ⟨hk2.from _, hb2, ⟨_, hv2, by simpa using hr2, trivial⟩, hB.trans hb2⟩
  case done =>
    rintro D ys W hD rfl ⟨⟨v, hv, hrow, -⟩, hB⟩ hK
    have hc := hv.cell
    gi_wp2
    refine ⟨by simp, .inl ⟨_, _, rfl, run_takeDeferred hK, ?_⟩⟩
    exact ⟨_, results_tmp rfl _ _ _, v, rfl, ownsRow_putObj hrow _ hK rfl, hB.trans (belowK_b (w := w) (Nat.le_refl _) W D _ _ (by simp at hD; omega) hK rfl rfl)⟩
  case stop =>
    rintro D c pre W _ _ h _
    exact h.elim
def seal_Split.f (a0 : ByteArray) : Option (List ByteArray) := if a0.size ≤ 1000000 then some (splitB a0) else none
theorem seal_Split.calls (a0 : ByteArray) (r : List ByteArray) (w : World) (hG : GT w) (h : seal_Split.f a0 = some r) :
    Calls Tryd.prog 20 #[.string a0] w fun e w' => ∃ v0_ : Value, e = .returned (v0_) ∧ Kd.R Kd.string 9 w' w.heap.size (fun _ => True) v0_ r ∧ Below w.heap.size w w' := by
  unfold seal_Split.f at h
  split at h
  case isFalse => cases h
  rename_i h0
  obtain rfl := Option.some.inj h
  refine (callsIn_wide.1 (split_any a0 h0 w hG)).mono ?_
  rintro e w' ⟨v, rfl, ho, hb⟩
  exact ⟨v, rfl, Kd.R_of_own ho (fun _ _ => trivial), hb⟩
end Go.Proofs.YtgblfdfagppejaaDoor.X
