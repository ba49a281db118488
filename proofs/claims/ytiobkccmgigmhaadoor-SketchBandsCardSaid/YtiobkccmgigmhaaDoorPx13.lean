/- Go functions as Lean functions, each with the proof that the Go code answers as it does (written by a program of this session: myprint.py, over the kit's printer). -/
import Derived.Test.YtiobkccmgigmhaaDoorPx0
import Derived.Test.YtiobkccmgigmhaaDoorPx7
import Derived.Test.YtiobkccmgigmhaaDoorPx8
import Derived.Test.YtiobkccmgigmhaaDoorX3
namespace Go.Proofs.YtiobkccmgigmhaaDoor.Px
open Go.RowKit Go.Proofs.YtiobkccmgigmhaaDoorW.PrintWords Go.Proofs.YtiobkccmgigmhaaDoorW.PrintLast Go.Proofs.YtiobkccmgigmhaaDoorW.PrintMore
attribute [local go_sem] max2_int min2_int max_two min_two max_three min_three max_four min_four   -- for this text's walks alone
set_option linter.unusedVariables false
set_option linter.unusedSimpArgs false

/-! ### cleanselaw05_SketchBands: function 7 -/
mutual
def cleanselaw05_SketchBands.j0 : Nat → List Int → List Int → Int → Bool → Bool → Option (Bool)
  | 0, _, _, _, _, _ => none
  | k + 1, x0, x1, x2, x7, x26 => if x26 = true then (some x7) else ((sketch_Bands.f k x0 x2).bind fun bt340 => ((sketch_Bands.f k x1 x2).bind fun bt344 => (if bt340.2 = 0 then (cleanselaw05_SketchBands.j1 k x0 x1 x2 x7 bt340.1 bt340.2 bt344.1 (bt344.2 != 0)) else (cleanselaw05_SketchBands.j1 k x0 x1 x2 x7 bt340.1 bt340.2 bt344.1 true))))
def cleanselaw05_SketchBands.j1 : Nat → List Int → List Int → Int → Bool → List ByteArray → Int → List ByteArray → Bool → Option (Bool)
  | 0, _, _, _, _, _, _, _, _ => none
  | k + 1, x0, x1, x2, x7, x8, x9, x10, x45 => if x45 = true then (if x7 = true then (if x9 = 0 then (some true) else (if x9 = 1 then (some ((x8.length : Int) == 0)) else (some false))) else (some false)) else (if x2 < 1 then (cleanselaw05_SketchBands.j2 k x0 x1 x2 x7 x8 x10 true) else (if (x0.length : Int) = 0 then (cleanselaw05_SketchBands.j2 k x0 x1 x2 x7 x8 x10 true) else (if (x8.length : Int) = 0 then (if 0 < (x0.length : Int) then (cleanselaw05_SketchBands.j2 k x0 x1 x2 x7 x8 x10 (((x8.length : Int) == 0) != (decide ((rd x0 0) < 0)))) else (none)) else (if x2 = 0 then (none) else (if (x8.length : Int) = (wrap64 ((x0.length : Int) / x2)) then (if 0 < (x0.length : Int) then (cleanselaw05_SketchBands.j2 k x0 x1 x2 x7 x8 x10 (((x8.length : Int) == 0) != (decide ((rd x0 0) < 0)))) else (none)) else (cleanselaw05_SketchBands.j2 k x0 x1 x2 x7 x8 x10 true))))))
def cleanselaw05_SketchBands.j2 : Nat → List Int → List Int → Int → Bool → List ByteArray → List ByteArray → Bool → Option (Bool)
  | 0, _, _, _, _, _, _, _ => none
  | k + 1, x0, x1, x2, x7, x8, x10, x90 => if x90 = true then (some false) else (cleanselaw05_SketchBands.l0 k x0 x1 x2 x7 x8 x10 0)
def cleanselaw05_SketchBands.l0 : Nat → List Int → List Int → Int → Bool → List ByteArray → List ByteArray → Int → Option (Bool)
  | 0, _, _, _, _, _, _, _ => none
  | k + 1, x0, x1, x2, x7, x8, x10, x12 => if x12 < (x8.length : Int) then (cleanselaw05_SketchBands.l1 k x0 x1 x2 x7 x8 x10 x12 0) else (some x7)
def cleanselaw05_SketchBands.l1 : Nat → List Int → List Int → Int → Bool → List ByteArray → List ByteArray → Int → Int → Option (Bool)
  | 0, _, _, _, _, _, _, _, _ => none
  | k + 1, x0, x1, x2, x7, x8, x10, x12, x13 => if x13 < (x10.length : Int) then (if x12 = x13 then (if 0 ≤ (wrap64 (x12 * x2)) then (if (wrap64 (x12 * x2)) ≤ (wrap64 ((wrap64 (x12 + 1)) * x2)) then (if (wrap64 ((wrap64 (x12 + 1)) * x2)) ≤ (x0.length : Int) then (if 0 ≤ (wrap64 (x13 * x2)) then (if (wrap64 (x13 * x2)) ≤ (wrap64 ((wrap64 (x13 + 1)) * x2)) then (if (wrap64 ((wrap64 (x13 + 1)) * x2)) ≤ (x1.length : Int) then ((cleanseref05_Ints.f k ((x0.take ((wrap64 ((wrap64 (x12 + 1)) * x2)) : Int).toNat).drop ((wrap64 (x12 * x2)) : Int).toNat) ((x1.take ((wrap64 ((wrap64 (x13 + 1)) * x2)) : Int).toNat).drop ((wrap64 (x13 * x2)) : Int).toNat)).bind fun t352 => (if 0 ≤ x12 then (if x12 < (x8.length : Int) then (if 0 ≤ x13 then (if (((rdOf ByteArray.empty x8 x12).toList == (rdOf ByteArray.empty x10 x13).toList) != t352) = true then (some false) else (cleanselaw05_SketchBands.l1 k x0 x1 x2 x7 x8 x10 x12 (wrap64 (x13 + 1)))) else (none)) else (none)) else (none))) else (none)) else (none)) else (none)) else (none)) else (none)) else (none)) else (if 0 ≤ x12 then (if x12 < (x8.length : Int) then (if 0 ≤ x13 then (if (((rdOf ByteArray.empty x8 x12).toList == (rdOf ByteArray.empty x10 x13).toList) != false) = true then (some false) else (cleanselaw05_SketchBands.l1 k x0 x1 x2 x7 x8 x10 x12 (wrap64 (x13 + 1)))) else (none)) else (none)) else (none))) else (cleanselaw05_SketchBands.l2 k x0 x1 x2 x7 x8 x10 x12 0)
def cleanselaw05_SketchBands.l2 : Nat → List Int → List Int → Int → Bool → List ByteArray → List ByteArray → Int → Int → Option (Bool)
  | 0, _, _, _, _, _, _, _, _ => none
  | k + 1, x0, x1, x2, x7, x8, x10, x12, x15 => if x15 < x12 then (if 0 ≤ x12 then (if x12 < (x8.length : Int) then (if 0 ≤ x15 then (if x15 < (x8.length : Int) then (if (rdOf ByteArray.empty x8 x12).toList = (rdOf ByteArray.empty x8 x15).toList then (some false) else (cleanselaw05_SketchBands.l2 k x0 x1 x2 x7 x8 x10 x12 (wrap64 (x15 + 1)))) else (none)) else (none)) else (none)) else (none)) else (cleanselaw05_SketchBands.l0 k x0 x1 x2 x7 x8 x10 (wrap64 (x12 + 1)))
end
def cleanselaw05_SketchBands.f (k : Nat) (l0 : List Int) (l1 : List Int) (a2 : Int) : Option (Bool) := (X.cleanselaw05_head.f).bind fun t339 => (if (l0.length : Int) > 100 then (cleanselaw05_SketchBands.j0 k l0 l1 a2 t339 true) else (cleanselaw05_SketchBands.j0 k l0 l1 a2 t339 ((l0.length : Int) != (l1.length : Int))))
theorem cleanselaw05_SketchBands.mono_l : ∀ k, (∀ y0 y1 y2 y3 y4, LeO (cleanselaw05_SketchBands.j0 k y0 y1 y2 y3 y4) (cleanselaw05_SketchBands.j0 (k + 1) y0 y1 y2 y3 y4)) ∧ (∀ y0 y1 y2 y3 y4 y5 y6 y7, LeO (cleanselaw05_SketchBands.j1 k y0 y1 y2 y3 y4 y5 y6 y7) (cleanselaw05_SketchBands.j1 (k + 1) y0 y1 y2 y3 y4 y5 y6 y7)) ∧ (∀ y0 y1 y2 y3 y4 y5 y6, LeO (cleanselaw05_SketchBands.j2 k y0 y1 y2 y3 y4 y5 y6) (cleanselaw05_SketchBands.j2 (k + 1) y0 y1 y2 y3 y4 y5 y6)) ∧ (∀ y0 y1 y2 y3 y4 y5 y6, LeO (cleanselaw05_SketchBands.l0 k y0 y1 y2 y3 y4 y5 y6) (cleanselaw05_SketchBands.l0 (k + 1) y0 y1 y2 y3 y4 y5 y6)) ∧ (∀ y0 y1 y2 y3 y4 y5 y6 y7, LeO (cleanselaw05_SketchBands.l1 k y0 y1 y2 y3 y4 y5 y6 y7) (cleanselaw05_SketchBands.l1 (k + 1) y0 y1 y2 y3 y4 y5 y6 y7)) ∧ (∀ y0 y1 y2 y3 y4 y5 y6 y7, LeO (cleanselaw05_SketchBands.l2 k y0 y1 y2 y3 y4 y5 y6 y7) (cleanselaw05_SketchBands.l2 (k + 1) y0 y1 y2 y3 y4 y5 y6 y7))
  | 0 => ⟨fun _ _ _ _ _ r h => by simp [cleanselaw05_SketchBands.j0] at h, fun _ _ _ _ _ _ _ _ r h => by simp [cleanselaw05_SketchBands.j1] at h, fun _ _ _ _ _ _ _ r h => by simp [cleanselaw05_SketchBands.j2] at h, fun _ _ _ _ _ _ _ r h => by simp [cleanselaw05_SketchBands.l0] at h, fun _ _ _ _ _ _ _ _ r h => by simp [cleanselaw05_SketchBands.l1] at h, fun _ _ _ _ _ _ _ _ r h => by simp [cleanselaw05_SketchBands.l2] at h⟩
  | k + 1 => by
    obtain ⟨ih0, ih1, ih2, ih3, ih4, ih5⟩ := cleanselaw05_SketchBands.mono_l k
    refine ⟨?_, ?_, ?_, ?_, ?_, ?_⟩
    · intro y0 y1 y2 y3 y4
      unfold cleanselaw05_SketchBands.j0
      repeat' first
      | (with_reducible exact ih0 _ _ _ _ _)
      | (with_reducible exact ih1 _ _ _ _ _ _ _ _)
      | (with_reducible exact ih2 _ _ _ _ _ _ _)
      | (with_reducible exact ih3 _ _ _ _ _ _ _)
      | (with_reducible exact ih4 _ _ _ _ _ _ _ _)
      | (with_reducible exact ih5 _ _ _ _ _ _ _ _)
      | (with_reducible exact cleanseref05_Ints.mono _ _ _)
      | (with_reducible exact sketch_Bands.mono _ _ _)
      | (with_reducible exact LeO.refl _)
      | (with_reducible exact LeO.none _)
      | (with_reducible refine LeO.ite ?_ ?_)
      | (with_reducible refine LeO.bind ?_ (fun _ => ?_))
      | exact ih0 _ _ _ _ _
      | exact ih1 _ _ _ _ _ _ _ _
      | exact ih2 _ _ _ _ _ _ _
      | exact ih3 _ _ _ _ _ _ _
      | exact ih4 _ _ _ _ _ _ _ _
      | exact ih5 _ _ _ _ _ _ _ _
      | exact cleanseref05_Ints.mono _ _ _
      | exact sketch_Bands.mono _ _ _
      | exact LeO.none _
      | refine LeO.ite ?_ ?_
      | refine LeO.bind ?_ (fun _ => ?_)
    · intro y0 y1 y2 y3 y4 y5 y6 y7
      unfold cleanselaw05_SketchBands.j1
      repeat' first
      | (with_reducible exact ih0 _ _ _ _ _)
      | (with_reducible exact ih1 _ _ _ _ _ _ _ _)
      | (with_reducible exact ih2 _ _ _ _ _ _ _)
      | (with_reducible exact ih3 _ _ _ _ _ _ _)
      | (with_reducible exact ih4 _ _ _ _ _ _ _ _)
      | (with_reducible exact ih5 _ _ _ _ _ _ _ _)
      | (with_reducible exact cleanseref05_Ints.mono _ _ _)
      | (with_reducible exact sketch_Bands.mono _ _ _)
      | (with_reducible exact LeO.refl _)
      | (with_reducible exact LeO.none _)
      | (with_reducible refine LeO.ite ?_ ?_)
      | (with_reducible refine LeO.bind ?_ (fun _ => ?_))
      | exact ih0 _ _ _ _ _
      | exact ih1 _ _ _ _ _ _ _ _
      | exact ih2 _ _ _ _ _ _ _
      | exact ih3 _ _ _ _ _ _ _
      | exact ih4 _ _ _ _ _ _ _ _
      | exact ih5 _ _ _ _ _ _ _ _
      | exact cleanseref05_Ints.mono _ _ _
      | exact sketch_Bands.mono _ _ _
      | exact LeO.none _
      | refine LeO.ite ?_ ?_
      | refine LeO.bind ?_ (fun _ => ?_)
    · intro y0 y1 y2 y3 y4 y5 y6
      unfold cleanselaw05_SketchBands.j2
      repeat' first
      | (with_reducible exact ih0 _ _ _ _ _)
      | (with_reducible exact ih1 _ _ _ _ _ _ _ _)
      | (with_reducible exact ih2 _ _ _ _ _ _ _)
      | (with_reducible exact ih3 _ _ _ _ _ _ _)
      | (with_reducible exact ih4 _ _ _ _ _ _ _ _)
      | (with_reducible exact ih5 _ _ _ _ _ _ _ _)
      | (with_reducible exact cleanseref05_Ints.mono _ _ _)
      | (with_reducible exact sketch_Bands.mono _ _ _)
      | (with_reducible exact LeO.refl _)
      | (with_reducible exact LeO.none _)
      | (with_reducible refine LeO.ite ?_ ?_)
      | (with_reducible refine LeO.bind ?_ (fun _ => ?_))
      | exact ih0 _ _ _ _ _
      | exact ih1 _ _ _ _ _ _ _ _
      | exact ih2 _ _ _ _ _ _ _
      | exact ih3 _ _ _ _ _ _ _
      | exact ih4 _ _ _ _ _ _ _ _
      | exact ih5 _ _ _ _ _ _ _ _
      | exact cleanseref05_Ints.mono _ _ _
      | exact sketch_Bands.mono _ _ _
      | exact LeO.none _
      | refine LeO.ite ?_ ?_
      | refine LeO.bind ?_ (fun _ => ?_)
    · intro y0 y1 y2 y3 y4 y5 y6
      unfold cleanselaw05_SketchBands.l0
      repeat' first
      | (with_reducible exact ih0 _ _ _ _ _)
      | (with_reducible exact ih1 _ _ _ _ _ _ _ _)
      | (with_reducible exact ih2 _ _ _ _ _ _ _)
      | (with_reducible exact ih3 _ _ _ _ _ _ _)
      | (with_reducible exact ih4 _ _ _ _ _ _ _ _)
      | (with_reducible exact ih5 _ _ _ _ _ _ _ _)
      | (with_reducible exact cleanseref05_Ints.mono _ _ _)
      | (with_reducible exact sketch_Bands.mono _ _ _)
      | (with_reducible exact LeO.refl _)
      | (with_reducible exact LeO.none _)
      | (with_reducible refine LeO.ite ?_ ?_)
      | (with_reducible refine LeO.bind ?_ (fun _ => ?_))
      | exact ih0 _ _ _ _ _
      | exact ih1 _ _ _ _ _ _ _ _
      | exact ih2 _ _ _ _ _ _ _
      | exact ih3 _ _ _ _ _ _ _
      | exact ih4 _ _ _ _ _ _ _ _
      | exact ih5 _ _ _ _ _ _ _ _
      | exact cleanseref05_Ints.mono _ _ _
      | exact sketch_Bands.mono _ _ _
      | exact LeO.none _
      | refine LeO.ite ?_ ?_
      | refine LeO.bind ?_ (fun _ => ?_)
    · intro y0 y1 y2 y3 y4 y5 y6 y7
      unfold cleanselaw05_SketchBands.l1
      repeat' first
      | (with_reducible exact ih0 _ _ _ _ _)
      | (with_reducible exact ih1 _ _ _ _ _ _ _ _)
      | (with_reducible exact ih2 _ _ _ _ _ _ _)
      | (with_reducible exact ih3 _ _ _ _ _ _ _)
      | (with_reducible exact ih4 _ _ _ _ _ _ _ _)
      | (with_reducible exact ih5 _ _ _ _ _ _ _ _)
      | (with_reducible exact cleanseref05_Ints.mono _ _ _)
      | (with_reducible exact sketch_Bands.mono _ _ _)
      | (with_reducible exact LeO.refl _)
      | (with_reducible exact LeO.none _)
      | (with_reducible refine LeO.ite ?_ ?_)
      | (with_reducible refine LeO.bind ?_ (fun _ => ?_))
      | exact ih0 _ _ _ _ _
      | exact ih1 _ _ _ _ _ _ _ _
      | exact ih2 _ _ _ _ _ _ _
      | exact ih3 _ _ _ _ _ _ _
      | exact ih4 _ _ _ _ _ _ _ _
      | exact ih5 _ _ _ _ _ _ _ _
      | exact cleanseref05_Ints.mono _ _ _
      | exact sketch_Bands.mono _ _ _
      | exact LeO.none _
      | refine LeO.ite ?_ ?_
      | refine LeO.bind ?_ (fun _ => ?_)
    · intro y0 y1 y2 y3 y4 y5 y6 y7
      unfold cleanselaw05_SketchBands.l2
      repeat' first
      | (with_reducible exact ih0 _ _ _ _ _)
      | (with_reducible exact ih1 _ _ _ _ _ _ _ _)
      | (with_reducible exact ih2 _ _ _ _ _ _ _)
      | (with_reducible exact ih3 _ _ _ _ _ _ _)
      | (with_reducible exact ih4 _ _ _ _ _ _ _ _)
      | (with_reducible exact ih5 _ _ _ _ _ _ _ _)
      | (with_reducible exact cleanseref05_Ints.mono _ _ _)
      | (with_reducible exact sketch_Bands.mono _ _ _)
      | (with_reducible exact LeO.refl _)
      | (with_reducible exact LeO.none _)
      | (with_reducible refine LeO.ite ?_ ?_)
      | (with_reducible refine LeO.bind ?_ (fun _ => ?_))
      | exact ih0 _ _ _ _ _
      | exact ih1 _ _ _ _ _ _ _ _
      | exact ih2 _ _ _ _ _ _ _
      | exact ih3 _ _ _ _ _ _ _
      | exact ih4 _ _ _ _ _ _ _ _
      | exact ih5 _ _ _ _ _ _ _ _
      | exact cleanseref05_Ints.mono _ _ _
      | exact sketch_Bands.mono _ _ _
      | exact LeO.none _
      | refine LeO.ite ?_ ?_
      | refine LeO.bind ?_ (fun _ => ?_)
theorem cleanselaw05_SketchBands.mono : ∀ a0 a1 a2 k, LeO (cleanselaw05_SketchBands.f k a0 a1 a2) (cleanselaw05_SketchBands.f (k + 1) a0 a1 a2) := by
  intro a0 a1 a2 k
  obtain ⟨ih0, ih1, ih2, ih3, ih4, ih5⟩ := cleanselaw05_SketchBands.mono_l k
  unfold cleanselaw05_SketchBands.f
  repeat' first
      | (with_reducible exact ih0 _ _ _ _ _)
      | (with_reducible exact ih1 _ _ _ _ _ _ _ _)
      | (with_reducible exact ih2 _ _ _ _ _ _ _)
      | (with_reducible exact ih3 _ _ _ _ _ _ _)
      | (with_reducible exact ih4 _ _ _ _ _ _ _ _)
      | (with_reducible exact ih5 _ _ _ _ _ _ _ _)
      | (with_reducible exact cleanseref05_Ints.mono _ _ _)
      | (with_reducible exact sketch_Bands.mono _ _ _)
      | (with_reducible exact LeO.refl _)
      | (with_reducible exact LeO.none _)
      | (with_reducible refine LeO.ite ?_ ?_)
      | (with_reducible refine LeO.bind ?_ (fun _ => ?_))
      | exact ih0 _ _ _ _ _
      | exact ih1 _ _ _ _ _ _ _ _
      | exact ih2 _ _ _ _ _ _ _
      | exact ih3 _ _ _ _ _ _ _
      | exact ih4 _ _ _ _ _ _ _ _
      | exact ih5 _ _ _ _ _ _ _ _
      | exact cleanseref05_Ints.mono _ _ _
      | exact sketch_Bands.mono _ _ _
      | exact LeO.none _
      | refine LeO.ite ?_ ?_
      | refine LeO.bind ?_ (fun _ => ?_)
set_option maxHeartbeats 8000000 in
set_option maxRecDepth 100000 in
theorem cleanselaw05_SketchBands.calls (k : Nat) (A0 : Option Addr) (c0 : Nat) (l0 : List Int) (A1 : Option Addr) (c1 : Nat) (l1 : List Int) (a2 : Int) (r : Bool) (w : World) (hr0 : Kd.C (Kd.int .i64) w A0 l0.length l0) (hc0 : l0.length ≤ c0) (hr1 : Kd.C (Kd.int .i64) w A1 l1.length l1) (hc1 : l1.length ≤ c1) (hG : X.GT w) (h : cleanselaw05_SketchBands.f k l0 l1 a2 = some r) :
    Calls Tryd.prog 7 #[.slice A0 l0.length c0, .slice A1 l1.length c1, .int .i64 a2] w fun e w' => e = .returned (.bool r) ∧ Below w.heap.size w w' := by
  have HR0 := Aside0.mk hr0
  have HC0 := Aside0.mk hc0
  clear hr0 hc0
  have HR1 := Aside0.mk hr1
  have HC1 := Aside0.mk hc1
  clear hr1 hc1
  have HB := Aside0.mk (Below.refl w.heap.size w)
  have HG := Aside0.mk hG
  clear hG
  have H : ((X.cleanselaw05_head.f).bind fun t339 => (if (l0.length : Int) > 100 then (cleanselaw05_SketchBands.j0 k l0 l1 a2 t339 true) else (cleanselaw05_SketchBands.j0 k l0 l1 a2 t339 ((l0.length : Int) != (l1.length : Int))))) = some r := h
  clear h
  replace H := Option.bind_eq_some_iff.mp H
  obtain ⟨t339, A40, H⟩ := H
  replace H : (if (l0.length : Int) > 100 then (cleanselaw05_SketchBands.j0 k l0 l1 a2 t339 true) else (cleanselaw05_SketchBands.j0 k l0 l1 a2 t339 ((l0.length : Int) != (l1.length : Int)))) = some r := H
  have A4 := Aside0.mk A40
  clear A40
  have HC5 := Aside0.mk H
  clear H
  go_enter Tryd.func7, Tryd.ntmps7
  go_upto_region 2 with (first | (go_at_call 10; (with_reducible refine (X.cleanselaw05_head.calls  t339 _ ?side1 A4.out).mono ?_); (case side1 => exact X.GT.below HG.out (by repeat (first | (with_reducible first | exact HB.out | apply below_alloc | apply pw_below_drewN | apply below_drew1) | exact HB.out))); rintro e w6 ⟨rfl, hb⟩; have n0_ := Aside0.mk (below_step (by repeat (first | (with_reducible first | exact HB.out | apply below_alloc | apply pw_below_drewN | apply below_drew1) | exact HB.out)) hb); clear HB; have HB := n0_; clear n0_; (try clear hb); (try clear hb2); (try clear hk); (try clear hi)))
  repeat (go_quiet (first | (go_at_call 10; (with_reducible refine (X.cleanselaw05_head.calls  t339 _ ?side1 A4.out).mono ?_); (case side1 => exact X.GT.below HG.out (by repeat (first | (with_reducible first | exact HB.out | apply below_alloc | apply pw_below_drewN | apply below_drew1) | exact HB.out))); rintro e w6 ⟨rfl, hb⟩; have n0_ := Aside0.mk (below_step (by repeat (first | (with_reducible first | exact HB.out | apply below_alloc | apply pw_below_drewN | apply below_drew1) | exact HB.out)) hb); clear HB; have HB := n0_; clear n0_; (try clear hb); (try clear hb2); (try clear hk); (try clear hi))); go_upto_region 2 with (first | (go_at_call 10; (with_reducible refine (X.cleanselaw05_head.calls  t339 _ ?side1 A4.out).mono ?_); (case side1 => exact X.GT.below HG.out (by repeat (first | (with_reducible first | exact HB.out | apply below_alloc | apply pw_below_drewN | apply below_drew1) | exact HB.out))); rintro e w6 ⟨rfl, hb⟩; have n0_ := Aside0.mk (below_step (by repeat (first | (with_reducible first | exact HB.out | apply below_alloc | apply pw_below_drewN | apply below_drew1) | exact HB.out)) hb); clear HB; have HB := n0_; clear n0_; (try clear hb); (try clear hb2); (try clear hk); (try clear hi))))
  (try simp only [Act.put, List.setIfInBounds_toArray, List.set_cons_zero, List.set_cons_succ])
  go_cut [26] (fun v26 wc => ∃ (kq : Nat) (x26_4 : Bool), v26 = .bool x26_4 ∧ Aside0 (cleanselaw05_SketchBands.j0 kq l0 l1 a2 t339 x26_4 = some r) ∧ Aside0 (kq ≤ k) ∧ Aside0 (Below w.heap.size w wc))
  case first =>
    have H := HC5.out
    clear HC5
    by_cases c7 : (l0.length : Int) > 100
    · rw [if_pos c7] at H
      have c7b0 : decide (100 < (l0.length : Int)) = true := decide_eq_true c7
      have c7b1 : decide (100 < l0.length) = true := decide_eq_true (by omega)
      clear c7
      (first | rw [c7b0] | (simp only [i64_w, i32_w]; rw [c7b0]) | skip)
      have H' := Aside0.mk H
      clear H
      go_wp2
      repeat (go_quiet (fail); try go_wp2)
      go_meet
      case rel => exact ⟨_, (true), (by first | rfl | (simp; done) | (simp [*]; done)), H', ⟨by first | omega | exact Nat.le_refl _⟩, ⟨by repeat (first | (with_reducible first | exact HB.out | apply below_alloc | apply pw_below_drewN | apply below_drew1) | exact HB.out)⟩⟩
    · rw [if_neg c7] at H
      have c7b0 : decide (100 < (l0.length : Int)) = false := decide_eq_false c7
      have c7b1 : decide (100 < l0.length) = false := decide_eq_false (by omega)
      clear c7
      (first | rw [c7b0] | (simp only [i64_w, i32_w]; rw [c7b0]) | skip)
      have H' := Aside0.mk H
      clear H
      go_wp2
      repeat (go_quiet (fail); try go_wp2)
      go_meet
      case rel => exact ⟨_, (((l0.length : Int) != (l1.length : Int))), (by first | rfl | (simp; done) | (simp [*]; done)), H', ⟨by first | omega | exact Nat.le_refl _⟩, ⟨by repeat (first | (with_reducible first | exact HB.out | apply below_alloc | apply pw_below_drewN | apply below_drew1) | exact HB.out)⟩⟩
  case rest =>
    clear HC5
    try clear c1
    try clear p2
    try clear c7
    try clear c7b0
    try clear c7b1
    obtain ⟨kq, x26_4, rfl, HA, HJ4, HB⟩ := hcut
    cases kq with
    | zero => exact absurd HA.out (by simp [cleanselaw05_SketchBands.j0])
    | succ kj4 =>
      have H := HA.out
      clear HA
      simp only [cleanselaw05_SketchBands.j0] at H
      by_cases c8 : x26_4 = true
      · subst c8
        have H1 : (some t339) = some r := by rw [if_pos rfl] at H; exact H
        clear H
        have H := H1
        clear H1
        obtain rfl := Option.some.inj H
        go_wp2
        repeat (go_quiet (fail); try go_wp2)
        go_ret
        exact ⟨by first | rfl | (simp [errW_none, errW_some] <;> rfl) | (simp [*, errW_none, errW_some] <;> rfl), by repeat (first | (with_reducible first | exact HB.out | apply below_alloc | apply pw_below_drewN | apply below_drew1) | exact HB.out)⟩
      · replace c8 := Bool.eq_false_iff.mpr c8
        subst c8
        have H1 : ((sketch_Bands.f kj4 l0 a2).bind fun bt340 => ((sketch_Bands.f kj4 l1 a2).bind fun bt344 => (if bt340.2 = 0 then (cleanselaw05_SketchBands.j1 kj4 l0 l1 a2 t339 bt340.1 bt340.2 bt344.1 (bt344.2 != 0)) else (cleanselaw05_SketchBands.j1 kj4 l0 l1 a2 t339 bt340.1 bt340.2 bt344.1 true)))) = some r := by rw [if_neg (show ¬ (false = true) by decide)] at H; exact H
        clear H
        have H := H1
        clear H1
        replace H := Option.bind_eq_some_iff.mp H
        obtain ⟨⟨t340, t341⟩, A90, H⟩ := H
        replace H : ((sketch_Bands.f kj4 l1 a2).bind fun bt344 => (if t341 = 0 then (cleanselaw05_SketchBands.j1 kj4 l0 l1 a2 t339 t340 t341 bt344.1 (bt344.2 != 0)) else (cleanselaw05_SketchBands.j1 kj4 l0 l1 a2 t339 t340 t341 bt344.1 true))) = some r := H
        have A9 := Aside0.mk A90
        clear A90
        replace H := Option.bind_eq_some_iff.mp H
        obtain ⟨⟨t344, t345⟩, A100, H⟩ := H
        replace H : (if t341 = 0 then (cleanselaw05_SketchBands.j1 kj4 l0 l1 a2 t339 t340 t341 t344 (t345 != 0)) else (cleanselaw05_SketchBands.j1 kj4 l0 l1 a2 t339 t340 t341 t344 true)) = some r := H
        have A10 := Aside0.mk A100
        clear A100
        have HC11 := Aside0.mk H
        clear H
        go_upto_region 6 with (first | (go_at_call 18; (with_reducible refine (sketch_Bands.calls kj4 _ _ l0 a2 t340 t341 _ ?side1 ?side2 ?side3 A9.out).mono ?_); (case side1 => repeat (first | exact (Kd.C_below HR0.out HB.out) | (with_reducible refine Kd.C_alloc ?_ _) | (with_reducible refine Kd.C_drewN ?_ _) | (with_reducible refine Kd.C_drew ?_))); (case side2 => exact HC0.out); (case side3 => exact X.GT.below HG.out (by repeat (first | (with_reducible first | exact HB.out | apply below_alloc | apply pw_below_drewN | apply below_drew1) | exact HB.out))); rintro e w12 ⟨v342, rfl, ho0, hb⟩; have n0_ := Aside0.mk (Kd.R_lower ho0 (below_size (by repeat (first | (with_reducible first | exact HB.out | apply below_alloc | apply pw_below_drewN | apply below_drew1) | exact HB.out)))); have n1_ := Aside0.mk (below_step (by repeat (first | (with_reducible first | exact HB.out | apply below_alloc | apply pw_below_drewN | apply below_drew1) | exact HB.out)) hb); clear HB; have HO343 := n0_; have HB := n1_; clear n0_ n1_; (try clear hb); (try clear hb2); (try clear hk); (try clear hi); (try clear ho0)) | (go_at_call 18; (with_reducible refine (sketch_Bands.calls kj4 _ _ l1 a2 t344 t345 _ ?side1 ?side2 ?side3 A10.out).mono ?_); (case side1 => repeat (first | exact (Kd.C_below HR1.out HB.out) | (with_reducible refine Kd.C_alloc ?_ _) | (with_reducible refine Kd.C_drewN ?_ _) | (with_reducible refine Kd.C_drew ?_))); (case side2 => exact HC1.out); (case side3 => exact X.GT.below HG.out (by repeat (first | (with_reducible first | exact HB.out | apply below_alloc | apply pw_below_drewN | apply below_drew1) | exact HB.out))); rintro e w13 ⟨v346, rfl, ho0, hb⟩; have n0_ := Aside0.mk (Kd.R_elder' (by (with_reducible repeat (first | apply Kd.R_alloc | apply Kd.R_drewN | apply Kd.R_drew)); exact HO343.out) (Kd.R_base ho0) hb); have n1_ := Aside0.mk (Kd.R_lower (Kd.R_new' ho0 (Kd.R_lt (by (with_reducible repeat (first | apply Kd.R_alloc | apply Kd.R_drewN | apply Kd.R_drew)); exact HO343.out))) (below_size (by repeat (first | (with_reducible first | exact HB.out | apply below_alloc | apply pw_below_drewN | apply below_drew1) | exact HB.out)))); have n2_ := Aside0.mk (below_step (by repeat (first | (with_reducible first | exact HB.out | apply below_alloc | apply pw_below_drewN | apply below_drew1) | exact HB.out)) hb); clear HO343; clear HB; have HO343 := n0_; have HO347 := n1_; have HB := n2_; clear n0_ n1_ n2_; (try clear hb); (try clear hb2); (try clear hk); (try clear hi); (try clear ho0)))
        repeat (go_quiet (first | (go_at_call 18; (with_reducible refine (sketch_Bands.calls kj4 _ _ l0 a2 t340 t341 _ ?side1 ?side2 ?side3 A9.out).mono ?_); (case side1 => repeat (first | exact (Kd.C_below HR0.out HB.out) | (with_reducible refine Kd.C_alloc ?_ _) | (with_reducible refine Kd.C_drewN ?_ _) | (with_reducible refine Kd.C_drew ?_))); (case side2 => exact HC0.out); (case side3 => exact X.GT.below HG.out (by repeat (first | (with_reducible first | exact HB.out | apply below_alloc | apply pw_below_drewN | apply below_drew1) | exact HB.out))); rintro e w12 ⟨v342, rfl, ho0, hb⟩; have n0_ := Aside0.mk (Kd.R_lower ho0 (below_size (by repeat (first | (with_reducible first | exact HB.out | apply below_alloc | apply pw_below_drewN | apply below_drew1) | exact HB.out)))); have n1_ := Aside0.mk (below_step (by repeat (first | (with_reducible first | exact HB.out | apply below_alloc | apply pw_below_drewN | apply below_drew1) | exact HB.out)) hb); clear HB; have HO343 := n0_; have HB := n1_; clear n0_ n1_; (try clear hb); (try clear hb2); (try clear hk); (try clear hi); (try clear ho0)) | (go_at_call 18; (with_reducible refine (sketch_Bands.calls kj4 _ _ l1 a2 t344 t345 _ ?side1 ?side2 ?side3 A10.out).mono ?_); (case side1 => repeat (first | exact (Kd.C_below HR1.out HB.out) | (with_reducible refine Kd.C_alloc ?_ _) | (with_reducible refine Kd.C_drewN ?_ _) | (with_reducible refine Kd.C_drew ?_))); (case side2 => exact HC1.out); (case side3 => exact X.GT.below HG.out (by repeat (first | (with_reducible first | exact HB.out | apply below_alloc | apply pw_below_drewN | apply below_drew1) | exact HB.out))); rintro e w13 ⟨v346, rfl, ho0, hb⟩; have n0_ := Aside0.mk (Kd.R_elder' (by (with_reducible repeat (first | apply Kd.R_alloc | apply Kd.R_drewN | apply Kd.R_drew)); exact HO343.out) (Kd.R_base ho0) hb); have n1_ := Aside0.mk (Kd.R_lower (Kd.R_new' ho0 (Kd.R_lt (by (with_reducible repeat (first | apply Kd.R_alloc | apply Kd.R_drewN | apply Kd.R_drew)); exact HO343.out))) (below_size (by repeat (first | (with_reducible first | exact HB.out | apply below_alloc | apply pw_below_drewN | apply below_drew1) | exact HB.out)))); have n2_ := Aside0.mk (below_step (by repeat (first | (with_reducible first | exact HB.out | apply below_alloc | apply pw_below_drewN | apply below_drew1) | exact HB.out)) hb); clear HO343; clear HB; have HO343 := n0_; have HO347 := n1_; have HB := n2_; clear n0_ n1_ n2_; (try clear hb); (try clear hb2); (try clear hk); (try clear hi); (try clear ho0))); go_upto_region 6 with (first | (go_at_call 18; (with_reducible refine (sketch_Bands.calls kj4 _ _ l0 a2 t340 t341 _ ?side1 ?side2 ?side3 A9.out).mono ?_); (case side1 => repeat (first | exact (Kd.C_below HR0.out HB.out) | (with_reducible refine Kd.C_alloc ?_ _) | (with_reducible refine Kd.C_drewN ?_ _) | (with_reducible refine Kd.C_drew ?_))); (case side2 => exact HC0.out); (case side3 => exact X.GT.below HG.out (by repeat (first | (with_reducible first | exact HB.out | apply below_alloc | apply pw_below_drewN | apply below_drew1) | exact HB.out))); rintro e w12 ⟨v342, rfl, ho0, hb⟩; have n0_ := Aside0.mk (Kd.R_lower ho0 (below_size (by repeat (first | (with_reducible first | exact HB.out | apply below_alloc | apply pw_below_drewN | apply below_drew1) | exact HB.out)))); have n1_ := Aside0.mk (below_step (by repeat (first | (with_reducible first | exact HB.out | apply below_alloc | apply pw_below_drewN | apply below_drew1) | exact HB.out)) hb); clear HB; have HO343 := n0_; have HB := n1_; clear n0_ n1_; (try clear hb); (try clear hb2); (try clear hk); (try clear hi); (try clear ho0)) | (go_at_call 18; (with_reducible refine (sketch_Bands.calls kj4 _ _ l1 a2 t344 t345 _ ?side1 ?side2 ?side3 A10.out).mono ?_); (case side1 => repeat (first | exact (Kd.C_below HR1.out HB.out) | (with_reducible refine Kd.C_alloc ?_ _) | (with_reducible refine Kd.C_drewN ?_ _) | (with_reducible refine Kd.C_drew ?_))); (case side2 => exact HC1.out); (case side3 => exact X.GT.below HG.out (by repeat (first | (with_reducible first | exact HB.out | apply below_alloc | apply pw_below_drewN | apply below_drew1) | exact HB.out))); rintro e w13 ⟨v346, rfl, ho0, hb⟩; have n0_ := Aside0.mk (Kd.R_elder' (by (with_reducible repeat (first | apply Kd.R_alloc | apply Kd.R_drewN | apply Kd.R_drew)); exact HO343.out) (Kd.R_base ho0) hb); have n1_ := Aside0.mk (Kd.R_lower (Kd.R_new' ho0 (Kd.R_lt (by (with_reducible repeat (first | apply Kd.R_alloc | apply Kd.R_drewN | apply Kd.R_drew)); exact HO343.out))) (below_size (by repeat (first | (with_reducible first | exact HB.out | apply below_alloc | apply pw_below_drewN | apply below_drew1) | exact HB.out)))); have n2_ := Aside0.mk (below_step (by repeat (first | (with_reducible first | exact HB.out | apply below_alloc | apply pw_below_drewN | apply below_drew1) | exact HB.out)) hb); clear HO343; clear HB; have HO343 := n0_; have HO347 := n1_; have HB := n2_; clear n0_ n1_ n2_; (try clear hb); (try clear hb2); (try clear hk); (try clear hi); (try clear ho0))))
        (try simp only [Act.put, List.setIfInBounds_toArray, List.set_cons_zero, List.set_cons_succ])
        go_cut [45] (fun v45 wc => ∃ (kq : Nat) (x45_10 : Bool), v45 = .bool x45_10 ∧ Aside0 (cleanselaw05_SketchBands.j1 kq l0 l1 a2 t339 t340 t341 t344 x45_10 = some r) ∧ Aside0 (kq ≤ kj4) ∧ Aside0 (Kd.R Kd.string 9 wc w.heap.size (fun k_ => some k_ ≠ (v346 : Value).ownBlock) v342 t340) ∧ Aside0 (Kd.R Kd.string 9 wc w.heap.size (fun k_ => some k_ ≠ (v342 : Value).ownBlock) v346 t344) ∧ Aside0 (Below w.heap.size w wc))
        case first =>
          have H := HC11.out
          clear HC11
          by_cases c14 : t341 = 0
          · rw [if_pos c14] at H
            have c14b0 : (t341 == 0) = true := beq_iff_eq.mpr c14
            have c14b1 : (t341 != 0) = false := bne_eq_false_iff_eq.mpr c14
            clear c14
            (first | rw [c14b0] | (simp only [i64_w, i32_w]; rw [c14b0]) | skip)
            have H' := Aside0.mk H
            clear H
            go_wp2
            repeat (go_quiet (fail); try go_wp2)
            go_meet
            case rel => exact ⟨_, ((t345 != 0)), (by first | rfl | (simp; done) | (simp [*]; done)), H', ⟨by have := HJ4.out; first | omega | exact Nat.le_refl _⟩, ⟨by (with_reducible repeat (first | apply Kd.R_alloc | apply Kd.R_drewN | apply Kd.R_drew)); exact Kd.R_mono HO343.out (fun _ hk => hk.2)⟩, ⟨by (with_reducible repeat (first | apply Kd.R_alloc | apply Kd.R_drewN | apply Kd.R_drew)); exact Kd.R_mono HO347.out (fun _ hk => hk.2)⟩, ⟨by repeat (first | (with_reducible first | exact HB.out | apply below_alloc | apply pw_below_drewN | apply below_drew1) | exact HB.out)⟩⟩
          · rw [if_neg c14] at H
            have c14b0 : (t341 == 0) = false := beq_eq_false_iff_ne.mpr c14
            have c14b1 : (t341 != 0) = true := bne_iff_ne.mpr c14
            (first | rw [c14b0] | (simp only [i64_w, i32_w]; rw [c14b0]) | skip)
            have H' := Aside0.mk H
            clear H
            go_wp2
            repeat (go_quiet (fail); try go_wp2)
            go_meet
            case rel => exact ⟨_, (true), (by first | rfl | (simp; done) | (simp [*]; done)), H', ⟨by have := HJ4.out; first | omega | exact Nat.le_refl _⟩, ⟨by (with_reducible repeat (first | apply Kd.R_alloc | apply Kd.R_drewN | apply Kd.R_drew)); exact Kd.R_mono HO343.out (fun _ hk => hk.2)⟩, ⟨by (with_reducible repeat (first | apply Kd.R_alloc | apply Kd.R_drewN | apply Kd.R_drew)); exact Kd.R_mono HO347.out (fun _ hk => hk.2)⟩, ⟨by repeat (first | (with_reducible first | exact HB.out | apply below_alloc | apply pw_below_drewN | apply below_drew1) | exact HB.out)⟩⟩
        case rest =>
          clear HC11
          try clear c1
          try clear p2
          try clear c7
          try clear c7b0
          try clear c7b1
          try clear c8
          try clear c14
          try clear c14b0
          try clear c14b1
          try clear p2
          obtain ⟨kq, x45_10, rfl, HA, HJ10, HO_8, HO_10, HB⟩ := hcut
          cases kq with
          | zero => exact absurd HA.out (by simp [cleanselaw05_SketchBands.j1])
          | succ kj10 =>
            have H := HA.out
            clear HA
            simp only [cleanselaw05_SketchBands.j1] at H
            by_cases c15 : x45_10 = true
            · subst c15
              have H1 : (if t339 = true then (if t341 = 0 then (some true) else (if t341 = 1 then (some ((t340.length : Int) == 0)) else (some false))) else (some false)) = some r := by rw [if_pos rfl] at H; exact H
              clear H
              have H := H1
              clear H1
              by_cases c16 : t339 = true
              · subst c16
                have H1 : (if t341 = 0 then (some true) else (if t341 = 1 then (some ((t340.length : Int) == 0)) else (some false))) = some r := by rw [if_pos rfl] at H; exact H
                clear H
                have H := H1
                clear H1
                by_cases c17 : t341 = 0
                · rw [if_pos c17] at H
                  have c17b0 : (t341 == 0) = true := beq_iff_eq.mpr c17
                  have c17b1 : (t341 != 0) = false := bne_eq_false_iff_eq.mpr c17
                  clear c17
                  obtain rfl := Option.some.inj H
                  go_wp2
                  repeat (go_quiet (fail); try go_wp2)
                  go_ret
                  exact ⟨by first | rfl | (simp [errW_none, errW_some] <;> rfl) | (simp [*, errW_none, errW_some] <;> rfl), by repeat (first | (with_reducible first | exact HB.out | apply below_alloc | apply pw_below_drewN | apply below_drew1) | exact HB.out)⟩
                · rw [if_neg c17] at H
                  have c17b0 : (t341 == 0) = false := beq_eq_false_iff_ne.mpr c17
                  have c17b1 : (t341 != 0) = true := bne_iff_ne.mpr c17
                  by_cases c18 : t341 = 1
                  · rw [if_pos c18] at H
                    have c18b0 : (t341 == 1) = true := beq_iff_eq.mpr c18
                    have c18b1 : (t341 != 1) = false := bne_eq_false_iff_eq.mpr c18
                    clear c18
                    obtain rfl := Option.some.inj H
                    obtain ⟨Ao19, co19, eo19⟩ := Kd.R_slice HO_8.out
                    subst eo19
                    go_wp2
                    repeat (go_quiet (fail); try go_wp2)
                    go_ret
                    exact ⟨by first | rfl | (simp [errW_none, errW_some] <;> rfl) | (simp [*, errW_none, errW_some] <;> rfl), by repeat (first | (with_reducible first | exact HB.out | apply below_alloc | apply pw_below_drewN | apply below_drew1) | exact HB.out)⟩
                  · rw [if_neg c18] at H
                    have c18b0 : (t341 == 1) = false := beq_eq_false_iff_ne.mpr c18
                    have c18b1 : (t341 != 1) = true := bne_iff_ne.mpr c18
                    obtain rfl := Option.some.inj H
                    go_wp2
                    repeat (go_quiet (fail); try go_wp2)
                    go_ret
                    exact ⟨by first | rfl | (simp [errW_none, errW_some] <;> rfl) | (simp [*, errW_none, errW_some] <;> rfl), by repeat (first | (with_reducible first | exact HB.out | apply below_alloc | apply pw_below_drewN | apply below_drew1) | exact HB.out)⟩
              · replace c16 := Bool.eq_false_iff.mpr c16
                subst c16
                have H1 : (some false) = some r := by rw [if_neg (show ¬ (false = true) by decide)] at H; exact H
                clear H
                have H := H1
                clear H1
                obtain rfl := Option.some.inj H
                go_wp2
                repeat (go_quiet (fail); try go_wp2)
                go_ret
                exact ⟨by first | rfl | (simp [errW_none, errW_some] <;> rfl) | (simp [*, errW_none, errW_some] <;> rfl), by repeat (first | (with_reducible first | exact HB.out | apply below_alloc | apply pw_below_drewN | apply below_drew1) | exact HB.out)⟩
            · replace c15 := Bool.eq_false_iff.mpr c15
              subst c15
              have H1 : (if a2 < 1 then (cleanselaw05_SketchBands.j2 kj10 l0 l1 a2 t339 t340 t344 true) else (if (l0.length : Int) = 0 then (cleanselaw05_SketchBands.j2 kj10 l0 l1 a2 t339 t340 t344 true) else (if (t340.length : Int) = 0 then (if 0 < (l0.length : Int) then (cleanselaw05_SketchBands.j2 kj10 l0 l1 a2 t339 t340 t344 (((t340.length : Int) == 0) != (decide ((rd l0 0) < 0)))) else (none)) else (if a2 = 0 then (none) else (if (t340.length : Int) = (wrap64 ((l0.length : Int) / a2)) then (if 0 < (l0.length : Int) then (cleanselaw05_SketchBands.j2 kj10 l0 l1 a2 t339 t340 t344 (((t340.length : Int) == 0) != (decide ((rd l0 0) < 0)))) else (none)) else (cleanselaw05_SketchBands.j2 kj10 l0 l1 a2 t339 t340 t344 true)))))) = some r := by rw [if_neg (show ¬ (false = true) by decide)] at H; exact H
              clear H
              have H := H1
              clear H1
              have HC20 := Aside0.mk H
              clear H
              go_upto_region 8 with (fail)
              repeat (go_quiet (fail); go_upto_region 8 with (fail))
              go_cut [90] (fun v90 wc => ∃ (kq : Nat) (x90_19 : Bool), v90 = .bool x90_19 ∧ Aside0 (cleanselaw05_SketchBands.j2 kq l0 l1 a2 t339 t340 t344 x90_19 = some r) ∧ Aside0 (kq ≤ kj10) ∧ Aside0 (Kd.R Kd.string 9 wc w.heap.size (fun k_ => some k_ ≠ (v346 : Value).ownBlock) v342 t340) ∧ Aside0 (Kd.R Kd.string 9 wc w.heap.size (fun k_ => some k_ ≠ (v342 : Value).ownBlock) v346 t344) ∧ Aside0 (Below w.heap.size w wc))
              case first =>
                have H := HC20.out
                clear HC20
                by_cases c21 : a2 < 1
                · rw [if_pos c21] at H
                  have c21b0 : decide (a2 < 1) = true := decide_eq_true c21
                  clear c21
                  (first | rw [c21b0] | (simp only [i64_w, i32_w]; rw [c21b0]) | skip)
                  have H' := Aside0.mk H
                  clear H
                  go_wp2
                  repeat (go_quiet (fail); try go_wp2)
                  go_meet
                  case rel => exact ⟨_, (true), (by first | rfl | (simp; done) | (simp [*]; done)), H', ⟨by have := HJ4.out; have := HJ10.out; first | omega | exact Nat.le_refl _⟩, ⟨by (with_reducible repeat (first | apply Kd.R_alloc | apply Kd.R_drewN | apply Kd.R_drew)); exact HO_8.out⟩, ⟨by (with_reducible repeat (first | apply Kd.R_alloc | apply Kd.R_drewN | apply Kd.R_drew)); exact HO_10.out⟩, ⟨by repeat (first | (with_reducible first | exact HB.out | apply below_alloc | apply pw_below_drewN | apply below_drew1) | exact HB.out)⟩⟩
                · rw [if_neg c21] at H
                  have c21b0 : decide (a2 < 1) = false := decide_eq_false c21
                  clear c21
                  (first | rw [c21b0] | (simp only [i64_w, i32_w]; rw [c21b0]) | skip)
                  by_cases c22 : (l0.length : Int) = 0
                  · rw [if_pos c22] at H
                    have c22b0 : ((l0.length : Int) == 0) = true := beq_iff_eq.mpr c22
                    have c22b1 : ((l0.length : Int) != 0) = false := bne_eq_false_iff_eq.mpr c22
                    clear c22
                    have H' := Aside0.mk H
                    clear H
                    go_wp2
                    repeat (go_quiet (fail); try go_wp2)
                    go_meet
                    case rel => exact ⟨_, (true), (by first | rfl | (simp; done) | (simp [*]; done)), H', ⟨by have := HJ4.out; have := HJ10.out; first | omega | exact Nat.le_refl _⟩, ⟨by (with_reducible repeat (first | apply Kd.R_alloc | apply Kd.R_drewN | apply Kd.R_drew)); exact HO_8.out⟩, ⟨by (with_reducible repeat (first | apply Kd.R_alloc | apply Kd.R_drewN | apply Kd.R_drew)); exact HO_10.out⟩, ⟨by repeat (first | (with_reducible first | exact HB.out | apply below_alloc | apply pw_below_drewN | apply below_drew1) | exact HB.out)⟩⟩
                  · rw [if_neg c22] at H
                    have c22b0 : ((l0.length : Int) == 0) = false := beq_eq_false_iff_ne.mpr c22
                    have c22b1 : ((l0.length : Int) != 0) = true := bne_iff_ne.mpr c22
                    have c22b2 : ¬ (l0 = []) := fun h_ => c22 (by rw [h_]; rfl)
                    by_cases c23 : (t340.length : Int) = 0
                    · rw [if_pos c23] at H
                      have c23b0 : ((t340.length : Int) == 0) = true := beq_iff_eq.mpr c23
                      have c23b1 : ((t340.length : Int) != 0) = false := bne_eq_false_iff_eq.mpr c23
                      clear c23
                      by_cases c24 : 0 < (l0.length : Int)
                      · rw [if_pos c24] at H
                        have c24b0 : decide (0 < (l0.length : Int)) = true := decide_eq_true c24
                        have c24b1 : decide (0 < l0.length) = true := decide_eq_true (by omega)
                        clear c24
                        have H' := Aside0.mk H
                        clear H
                        obtain ⟨Ao25, co25, eo25⟩ := Kd.R_slice HO_8.out
                        subst eo25
                        have p348 : 0 ≤ (0 : Int) := (by omega)
                        have q348 : 0 < (l0.length : Int) := of_decide_eq_true (by first | (with_reducible assumption) | assumption)
                        obtain ⟨ad348, e348, hx348_0⟩ := Kd.at_int HR0.out 0 p348 q348
                        cases e348
                        have qi348 : (0 < l0.length) = True := eq_true (by omega)
                        (try rw [show ((0 : Int)).toNat = 0 from rfl] at hx348_0)
                        (try rw [Addr.add_zero'] at hx348_0)
                        replace hx348_0 := (HB.out.cell (World.block_lt_of_cell? w _ hx348_0)).trans hx348_0
                        replace p348 := eq_true p348
                        replace q348 := eq_true q348
                        go_wp2
                        repeat (go_quiet (fail); try go_wp2)
                        go_meet
                        case rel => exact ⟨_, ((((t340.length : Int) == 0) != (decide ((rd l0 0) < 0)))), (by first | rfl | (simp; done) | (simp [*]; done)), H', ⟨by have := HJ4.out; have := HJ10.out; first | omega | exact Nat.le_refl _⟩, ⟨by (with_reducible repeat (first | apply Kd.R_alloc | apply Kd.R_drewN | apply Kd.R_drew)); exact HO_8.out⟩, ⟨by (with_reducible repeat (first | apply Kd.R_alloc | apply Kd.R_drewN | apply Kd.R_drew)); exact HO_10.out⟩, ⟨by repeat (first | (with_reducible first | exact HB.out | apply below_alloc | apply pw_below_drewN | apply below_drew1) | exact HB.out)⟩⟩
                      · rw [if_neg c24] at H
                        exact absurd H (by simp)
                    · rw [if_neg c23] at H
                      have c23b0 : ((t340.length : Int) == 0) = false := beq_eq_false_iff_ne.mpr c23
                      have c23b1 : ((t340.length : Int) != 0) = true := bne_iff_ne.mpr c23
                      have c23b2 : ¬ (t340 = []) := fun h_ => c23 (by rw [h_]; rfl)
                      by_cases c26 : a2 = 0
                      · rw [if_pos c26] at H
                        exact absurd H (by simp)
                      · rw [if_neg c26] at H
                        have c26b0 : (a2 == 0) = false := beq_eq_false_iff_ne.mpr c26
                        have c26b1 : (a2 != 0) = true := bne_iff_ne.mpr c26
                        by_cases c27 : (t340.length : Int) = (wrap64 ((l0.length : Int) / a2))
                        · rw [if_pos c27] at H
                          have c27b0 : ((t340.length : Int) == (wrap64 ((l0.length : Int) / a2))) = true := beq_iff_eq.mpr c27
                          have c27b1 : ((t340.length : Int) != (wrap64 ((l0.length : Int) / a2))) = false := bne_eq_false_iff_eq.mpr c27
                          clear c27
                          by_cases c28 : 0 < (l0.length : Int)
                          · rw [if_pos c28] at H
                            have c28b0 : decide (0 < (l0.length : Int)) = true := decide_eq_true c28
                            have c28b1 : decide (0 < l0.length) = true := decide_eq_true (by omega)
                            clear c28
                            have H' := Aside0.mk H
                            clear H
                            obtain ⟨Ao29, co29, eo29⟩ := Kd.R_slice HO_8.out
                            subst eo29
                            have p349 : 0 ≤ (0 : Int) := (by omega)
                            have q349 : 0 < (l0.length : Int) := of_decide_eq_true (by first | (with_reducible assumption) | assumption)
                            obtain ⟨ad349, e349, hx349_0⟩ := Kd.at_int HR0.out 0 p349 q349
                            cases e349
                            have qi349 : (0 < l0.length) = True := eq_true (by omega)
                            (try rw [show ((0 : Int)).toNat = 0 from rfl] at hx349_0)
                            (try rw [Addr.add_zero'] at hx349_0)
                            replace hx349_0 := (HB.out.cell (World.block_lt_of_cell? w _ hx349_0)).trans hx349_0
                            replace p349 := eq_true p349
                            replace q349 := eq_true q349
                            go_wp2
                            repeat (go_quiet (fail); try go_wp2)
                            go_meet
                            case rel => exact ⟨_, ((((t340.length : Int) == 0) != (decide ((rd l0 0) < 0)))), (by first | rfl | (simp; done) | (simp [*]; done)), H', ⟨by have := HJ4.out; have := HJ10.out; first | omega | exact Nat.le_refl _⟩, ⟨by (with_reducible repeat (first | apply Kd.R_alloc | apply Kd.R_drewN | apply Kd.R_drew)); exact HO_8.out⟩, ⟨by (with_reducible repeat (first | apply Kd.R_alloc | apply Kd.R_drewN | apply Kd.R_drew)); exact HO_10.out⟩, ⟨by repeat (first | (with_reducible first | exact HB.out | apply below_alloc | apply pw_below_drewN | apply below_drew1) | exact HB.out)⟩⟩
                          · rw [if_neg c28] at H
                            exact absurd H (by simp)
                        · rw [if_neg c27] at H
                          have c27b0 : ((t340.length : Int) == (wrap64 ((l0.length : Int) / a2))) = false := beq_eq_false_iff_ne.mpr c27
                          have c27b1 : ((t340.length : Int) != (wrap64 ((l0.length : Int) / a2))) = true := bne_iff_ne.mpr c27
                          have H' := Aside0.mk H
                          clear H
                          obtain ⟨Ao30, co30, eo30⟩ := Kd.R_slice HO_8.out
                          subst eo30
                          go_wp2
                          repeat (go_quiet (fail); try go_wp2)
                          go_meet
                          case rel => exact ⟨_, (true), (by first | rfl | (simp; done) | (simp [*]; done)), H', ⟨by have := HJ4.out; have := HJ10.out; first | omega | exact Nat.le_refl _⟩, ⟨by (with_reducible repeat (first | apply Kd.R_alloc | apply Kd.R_drewN | apply Kd.R_drew)); exact HO_8.out⟩, ⟨by (with_reducible repeat (first | apply Kd.R_alloc | apply Kd.R_drewN | apply Kd.R_drew)); exact HO_10.out⟩, ⟨by repeat (first | (with_reducible first | exact HB.out | apply below_alloc | apply pw_below_drewN | apply below_drew1) | exact HB.out)⟩⟩
              case rest =>
                clear HC20
                try clear c1
                try clear c2
                try clear p2
                try clear p3
                try clear q3
                try clear hx3
                try clear qi3
                try clear p6
                try clear c7
                try clear c7b0
                try clear c7b1
                try clear c8
                try clear c14
                try clear c14b0
                try clear c14b1
                try clear c15
                try clear c16
                try clear c17
                try clear c17b0
                try clear c17b1
                try clear c18
                try clear c18b0
                try clear c18b1
                try clear c21
                try clear c21b0
                try clear c22
                try clear c22b0
                try clear c22b1
                try clear c22b2
                try clear c23
                try clear c23b0
                try clear c23b1
                try clear c23b2
                try clear c24
                try clear c24b0
                try clear c24b1
                try clear c26
                try clear c26b0
                try clear c26b1
                try clear c27
                try clear c27b0
                try clear c27b1
                try clear c28
                try clear c28b0
                try clear c28b1
                try clear hx348_0
                try clear hx349_0
                try clear p2
                try clear p348
                try clear p349
                try clear q348
                try clear q349
                obtain ⟨kq, x90_19, rfl, HA, HJ19, HO_8, HO_10, HB⟩ := hcut
                cases kq with
                | zero => exact absurd HA.out (by simp [cleanselaw05_SketchBands.j2])
                | succ kj19 =>
                  have H := HA.out
                  clear HA
                  simp only [cleanselaw05_SketchBands.j2] at H
                  by_cases c31 : x90_19 = true
                  · subst c31
                    have H1 : (some false) = some r := by rw [if_pos rfl] at H; exact H
                    clear H
                    have H := H1
                    clear H1
                    obtain rfl := Option.some.inj H
                    go_wp2
                    repeat (go_quiet (fail); try go_wp2)
                    go_ret
                    exact ⟨by first | rfl | (simp [errW_none, errW_some] <;> rfl) | (simp [*, errW_none, errW_some] <;> rfl), by repeat (first | (with_reducible first | exact HB.out | apply below_alloc | apply pw_below_drewN | apply below_drew1) | exact HB.out)⟩
                  · replace c31 := Bool.eq_false_iff.mpr c31
                    subst c31
                    have H1 : (cleanselaw05_SketchBands.l0 kj19 l0 l1 a2 t339 t340 t344 0) = some r := by rw [if_neg (show ¬ (false = true) by decide)] at H; exact H
                    clear H
                    have H := H1
                    clear H1
                    have H' := Aside0.mk H
                    clear H
                    go_wp2
                    repeat (go_quiet (fail); try go_wp2)
                    go_loopg [12] kj19 (fun kq v12 w' => ∃ (x12_4 : Int), v12 = .int .i64 x12_4 ∧ Aside0 (cleanselaw05_SketchBands.l0 kq l0 l1 a2 t339 t340 t344 x12_4 = some r) ∧ Aside0 (kq ≤ kj19) ∧ Aside0 (Kd.R Kd.string 9 w' w.heap.size (fun k_ => some k_ ≠ (v346 : Value).ownBlock) v342 t340) ∧ Aside0 (Kd.R Kd.string 9 w' w.heap.size (fun k_ => some k_ ≠ (v342 : Value).ownBlock) v346 t344) ∧ Aside0 (Below w.heap.size w w'))
                    case atStart => exact ⟨(0), (by first | rfl | (simp; done) | (simp [*]; done)), H', ⟨Nat.le_refl _⟩, ⟨by (with_reducible repeat (first | apply Kd.R_alloc | apply Kd.R_drewN | apply Kd.R_drew)); exact HO_8.out⟩, ⟨by (with_reducible repeat (first | apply Kd.R_alloc | apply Kd.R_drewN | apply Kd.R_drew)); exact HO_10.out⟩, ⟨by repeat (first | (with_reducible first | exact HB.out | apply below_alloc | apply pw_below_drewN | apply below_drew1) | exact HB.out)⟩⟩
                    case round =>
                      clear H'
                      try clear c1
                      try clear c2
                      try clear p2
                      try clear c3
                      try clear p3
                      try clear q3
                      try clear hx3
                      try clear qi3
                      try clear p6
                      try clear c7
                      try clear c7b0
                      try clear c7b1
                      try clear c8
                      try clear c14
                      try clear c14b0
                      try clear c14b1
                      try clear c15
                      try clear c16
                      try clear c17
                      try clear c17b0
                      try clear c17b1
                      try clear c18
                      try clear c18b0
                      try clear c18b1
                      try clear c21
                      try clear c21b0
                      try clear c22
                      try clear c22b0
                      try clear c22b1
                      try clear c22b2
                      try clear c23
                      try clear c23b0
                      try clear c23b1
                      try clear c23b2
                      try clear c24
                      try clear c24b0
                      try clear c24b1
                      try clear c26
                      try clear c26b0
                      try clear c26b1
                      try clear c27
                      try clear c27b0
                      try clear c27b1
                      try clear c28
                      try clear c28b0
                      try clear c28b1
                      try clear c31
                      try clear hx348_0
                      try clear hx349_0
                      try clear p2
                      try clear p3
                      try clear p348
                      try clear p349
                      try clear p6
                      try clear q3
                      try clear q348
                      try clear q349
                      obtain ⟨x12_4, rfl, HA, HK4, HO_8, HO_10, HB⟩ := hrel
                      cases gk with
                      | zero => exact absurd HA.out (by simp [cleanselaw05_SketchBands.l0])
                      | succ k4 =>
                        have H := HA.out
                        clear HA
                        simp only [cleanselaw05_SketchBands.l0] at H
                        by_cases c32 : x12_4 < (t340.length : Int)
                        · rw [if_pos c32] at H
                          have c32b0 : decide (x12_4 < (t340.length : Int)) = true := decide_eq_true c32
                          clear c32
                          have H' := Aside0.mk H
                          clear H
                          obtain ⟨Ao33, co33, eo33⟩ := Kd.R_slice HO_8.out
                          subst eo33
                          go_wp2
                          repeat (go_quiet (fail); try go_wp2)
                          go_loopg [13] k4 (fun kq v13 w' => ∃ (x13_5 : Int), v13 = .int .i64 x13_5 ∧ Aside0 (cleanselaw05_SketchBands.l1 kq l0 l1 a2 t339 t340 t344 x12_4 x13_5 = some r) ∧ Aside0 (kq ≤ k4) ∧ Aside0 (Kd.R Kd.string 9 w' w.heap.size (fun k_ => some k_ ≠ (v346 : Value).ownBlock) (.slice Ao33 t340.length co33) t340) ∧ Aside0 (Kd.R Kd.string 9 w' w.heap.size (fun k_ => some k_ ≠ ((.slice Ao33 t340.length co33) : Value).ownBlock) v346 t344) ∧ Aside0 (Below w.heap.size w w'))
                          case atStart => exact ⟨(0), (by first | rfl | (simp; done) | (simp [*]; done)), H', ⟨Nat.le_refl _⟩, ⟨by (with_reducible repeat (first | apply Kd.R_alloc | apply Kd.R_drewN | apply Kd.R_drew)); exact HO_8.out⟩, ⟨by (with_reducible repeat (first | apply Kd.R_alloc | apply Kd.R_drewN | apply Kd.R_drew)); exact HO_10.out⟩, ⟨by repeat (first | (with_reducible first | exact HB.out | apply below_alloc | apply pw_below_drewN | apply below_drew1) | exact HB.out)⟩⟩
                          case round =>
                            clear H'
                            try clear c1
                            try clear c2
                            try clear p2
                            try clear c3
                            try clear p3
                            try clear q3
                            try clear hx3
                            try clear qi3
                            try clear p6
                            try clear c7
                            try clear c7b0
                            try clear c7b1
                            try clear c8
                            try clear c14
                            try clear c14b0
                            try clear c14b1
                            try clear c15
                            try clear c16
                            try clear c17
                            try clear c17b0
                            try clear c17b1
                            try clear c18
                            try clear c18b0
                            try clear c18b1
                            try clear c21
                            try clear c21b0
                            try clear c22
                            try clear c22b0
                            try clear c22b1
                            try clear c22b2
                            try clear c23
                            try clear c23b0
                            try clear c23b1
                            try clear c23b2
                            try clear c24
                            try clear c24b0
                            try clear c24b1
                            try clear c26
                            try clear c26b0
                            try clear c26b1
                            try clear c27
                            try clear c27b0
                            try clear c27b1
                            try clear c28
                            try clear c28b0
                            try clear c28b1
                            try clear c31
                            try clear c32
                            try clear c32b0
                            try clear hx348_0
                            try clear hx349_0
                            try clear p2
                            try clear p3
                            try clear p348
                            try clear p349
                            try clear p6
                            try clear q3
                            try clear q348
                            try clear q349
                            obtain ⟨x13_5, rfl, HA, HK5, HO_8, HO_10, HB⟩ := hrel
                            cases gk with
                            | zero => exact absurd HA.out (by simp [cleanselaw05_SketchBands.l1])
                            | succ k5 =>
                              have H := HA.out
                              clear HA
                              simp only [cleanselaw05_SketchBands.l1] at H
                              by_cases c34 : x13_5 < (t344.length : Int)
                              · rw [if_pos c34] at H
                                have c34b0 : decide (x13_5 < (t344.length : Int)) = true := decide_eq_true c34
                                clear c34
                                by_cases c35 : x12_4 = x13_5
                                · rw [if_pos c35] at H
                                  have c35b0 : (x12_4 == x13_5) = true := beq_iff_eq.mpr c35
                                  have c35b1 : (x12_4 != x13_5) = false := bne_eq_false_iff_eq.mpr c35
                                  clear c35
                                  obtain ⟨ji36, hji36⟩ : ∃ j_ : Int, (wrap64 (x12_4 * a2)) = j_ := ⟨_, rfl⟩
                                  replace H : (if 0 ≤ (ji36) then (if (ji36) ≤ (wrap64 ((wrap64 (x12_4 + 1)) * a2)) then (if (wrap64 ((wrap64 (x12_4 + 1)) * a2)) ≤ (l0.length : Int) then (if 0 ≤ (wrap64 (x13_5 * a2)) then (if (wrap64 (x13_5 * a2)) ≤ (wrap64 ((wrap64 (x13_5 + 1)) * a2)) then (if (wrap64 ((wrap64 (x13_5 + 1)) * a2)) ≤ (l1.length : Int) then ((cleanseref05_Ints.f k5 ((l0.take ((wrap64 ((wrap64 (x12_4 + 1)) * a2)) : Int).toNat).drop ((ji36) : Int).toNat) ((l1.take ((wrap64 ((wrap64 (x13_5 + 1)) * a2)) : Int).toNat).drop ((wrap64 (x13_5 * a2)) : Int).toNat)).bind fun t352 => (if 0 ≤ x12_4 then (if x12_4 < (t340.length : Int) then (if 0 ≤ x13_5 then (if (((rdOf ByteArray.empty t340 x12_4).toList == (rdOf ByteArray.empty t344 x13_5).toList) != t352) = true then (some false) else (cleanselaw05_SketchBands.l1 k5 l0 l1 a2 t339 t340 t344 x12_4 (wrap64 (x13_5 + 1)))) else (none)) else (none)) else (none))) else (none)) else (none)) else (none)) else (none)) else (none)) else (none)) = some r := by first | (rw [hji36] at H; exact H) | (simp only [hji36] at H ⊢; exact H)
                                  have hji36w : (IntKind.i64.wrap (x12_4 * a2)) = ji36 := (i64_w _).trans hji36
                                  by_cases c37 : 0 ≤ (ji36)
                                  · rw [if_pos c37] at H
                                    have c37b0 := eq_true c37
                                    have c37b1 : decide (0 ≤ (ji36)) = true := decide_eq_true c37
                                    clear c37
                                    by_cases c38 : (ji36) ≤ (wrap64 ((wrap64 (x12_4 + 1)) * a2))
                                    · rw [if_pos c38] at H
                                      have c38b0 := eq_true c38
                                      have c38b1 : decide ((ji36) ≤ (wrap64 ((wrap64 (x12_4 + 1)) * a2))) = true := decide_eq_true c38
                                      by_cases c39 : (wrap64 ((wrap64 (x12_4 + 1)) * a2)) ≤ (l0.length : Int)
                                      · rw [if_pos c39] at H
                                        have c39b0 := eq_true c39
                                        have c39b1 : decide ((wrap64 ((wrap64 (x12_4 + 1)) * a2)) ≤ (l0.length : Int)) = true := decide_eq_true c39
                                        obtain ⟨ji40, hji40⟩ : ∃ j_ : Int, (wrap64 (x13_5 * a2)) = j_ := ⟨_, rfl⟩
                                        replace H : (if 0 ≤ (ji40) then (if (ji40) ≤ (wrap64 ((wrap64 (x13_5 + 1)) * a2)) then (if (wrap64 ((wrap64 (x13_5 + 1)) * a2)) ≤ (l1.length : Int) then ((cleanseref05_Ints.f k5 ((l0.take ((wrap64 ((wrap64 (x12_4 + 1)) * a2)) : Int).toNat).drop ((ji36) : Int).toNat) ((l1.take ((wrap64 ((wrap64 (x13_5 + 1)) * a2)) : Int).toNat).drop ((ji40) : Int).toNat)).bind fun t352 => (if 0 ≤ x12_4 then (if x12_4 < (t340.length : Int) then (if 0 ≤ x13_5 then (if (((rdOf ByteArray.empty t340 x12_4).toList == (rdOf ByteArray.empty t344 x13_5).toList) != t352) = true then (some false) else (cleanselaw05_SketchBands.l1 k5 l0 l1 a2 t339 t340 t344 x12_4 (wrap64 (x13_5 + 1)))) else (none)) else (none)) else (none))) else (none)) else (none)) else (none)) = some r := by first | (rw [hji40] at H; exact H) | (simp only [hji40] at H ⊢; exact H)
                                        have hji40w : (IntKind.i64.wrap (x13_5 * a2)) = ji40 := (i64_w _).trans hji40
                                        by_cases c41 : 0 ≤ (ji40)
                                        · rw [if_pos c41] at H
                                          have c41b0 := eq_true c41
                                          have c41b1 : decide (0 ≤ (ji40)) = true := decide_eq_true c41
                                          clear c41
                                          by_cases c42 : (ji40) ≤ (wrap64 ((wrap64 (x13_5 + 1)) * a2))
                                          · rw [if_pos c42] at H
                                            have c42b0 := eq_true c42
                                            have c42b1 : decide ((ji40) ≤ (wrap64 ((wrap64 (x13_5 + 1)) * a2))) = true := decide_eq_true c42
                                            by_cases c43 : (wrap64 ((wrap64 (x13_5 + 1)) * a2)) ≤ (l1.length : Int)
                                            · rw [if_pos c43] at H
                                              have c43b0 := eq_true c43
                                              have c43b1 : decide ((wrap64 ((wrap64 (x13_5 + 1)) * a2)) ≤ (l1.length : Int)) = true := decide_eq_true c43
                                              replace H := Option.bind_eq_some_iff.mp H
                                              obtain ⟨t352, A440, H⟩ := H
                                              replace H : (if 0 ≤ x12_4 then (if x12_4 < (t340.length : Int) then (if 0 ≤ x13_5 then (if (((rdOf ByteArray.empty t340 x12_4).toList == (rdOf ByteArray.empty t344 x13_5).toList) != t352) = true then (some false) else (cleanselaw05_SketchBands.l1 k5 l0 l1 a2 t339 t340 t344 x12_4 (wrap64 (x13_5 + 1)))) else (none)) else (none)) else (none)) = some r := H
                                              have A44 := Aside0.mk A440
                                              clear A440
                                              by_cases c45 : 0 ≤ x12_4
                                              · rw [if_pos c45] at H
                                                have c45b0 : decide (0 ≤ x12_4) = true := decide_eq_true c45
                                                clear c45
                                                by_cases c46 : x12_4 < (t340.length : Int)
                                                · rw [if_pos c46] at H
                                                  have c46b0 : decide (x12_4 < (t340.length : Int)) = true := decide_eq_true c46
                                                  clear c46
                                                  by_cases c47 : 0 ≤ x13_5
                                                  · rw [if_pos c47] at H
                                                    have c47b0 : decide (0 ≤ x13_5) = true := decide_eq_true c47
                                                    clear c47
                                                    by_cases c48 : (((rdOf ByteArray.empty t340 x12_4).toList == (rdOf ByteArray.empty t344 x13_5).toList) != t352) = true
                                                    · rw [if_pos c48] at H
                                                      have c48b0 : (((rdOf ByteArray.empty t340 x12_4).toList == (rdOf ByteArray.empty t344 x13_5).toList) != t352) = true := c48
                                                      (try (have c48b1 : decide (((rdOf ByteArray.empty t340 x12_4).toList == (rdOf ByteArray.empty t344 x13_5).toList) = t352) = false := by simpa using c48))
                                                      (try (have c48b2 : (((rdOf ByteArray.empty t340 x12_4).toList == (rdOf ByteArray.empty t344 x13_5).toList) == t352) = false := by simpa using c48))
                                                      (try (have c48b3 : ¬ (((rdOf ByteArray.empty t340 x12_4).toList == (rdOf ByteArray.empty t344 x13_5).toList) = t352) := by simpa using c48))
                                                      clear c48
                                                      obtain rfl := Option.some.inj H
                                                      obtain ⟨Ao49, co49, eo49⟩ := Kd.R_slice HO_10.out
                                                      subst eo49
                                                      obtain ⟨i050, hi050, _, hsz50, _⟩ := info_parts info3
                                                      obtain ⟨A50, hcut50, hA50, hC50⟩ := print_mid_of (P := Tryd.prog) (Value.int .i64) 0 23 3 .i64 .i64 Tryd.underlying23 hi050 hsz50 A0 c0 l0 (ji36) (wrap64 ((wrap64 (x12_4 + 1)) * a2)) (of_decide_eq_true (by first | (with_reducible assumption) | assumption)) (by first | omega | exact of_decide_eq_true (by first | (with_reducible assumption) | assumption)) (of_decide_eq_true (by first | (with_reducible assumption) | assumption)) HC0.out
                                                      try (have hcut50w := hcut50; simp only [← i64_w] at hcut50w)
                                                      have HR350 := Aside0.mk (Kd.C_of_reads (h1 := fun _ => rfl) (hA50 _ (Kd.reads_of_C HR0.out)))
                                                      have HC350 := Aside0.mk hC50
                                                      clear hA50 hC50 hi050 hsz50
                                                      obtain ⟨i051, hi051, _, hsz51, _⟩ := info_parts info3
                                                      obtain ⟨A51, hcut51, hA51, hC51⟩ := print_mid_of (P := Tryd.prog) (Value.int .i64) 0 23 3 .i64 .i64 Tryd.underlying23 hi051 hsz51 A1 c1 l1 (ji40) (wrap64 ((wrap64 (x13_5 + 1)) * a2)) (of_decide_eq_true (by first | (with_reducible assumption) | assumption)) (by first | omega | exact of_decide_eq_true (by first | (with_reducible assumption) | assumption)) (of_decide_eq_true (by first | (with_reducible assumption) | assumption)) HC1.out
                                                      try (have hcut51w := hcut51; simp only [← i64_w] at hcut51w)
                                                      have HR351 := Aside0.mk (Kd.C_of_reads (h1 := fun _ => rfl) (hA51 _ (Kd.reads_of_C HR1.out)))
                                                      have HC351 := Aside0.mk hC51
                                                      clear hA51 hC51 hi051 hsz51
                                                      go_wp2_with (first | (go_at_call 22; refine calls_of_args (args' := #[.slice A50 ((l0.take ((wrap64 ((wrap64 (x12_4 + 1)) * a2)) : Int).toNat).drop ((ji36) : Int).toNat).length (c0 - (ji36).toNat), .slice A51 ((l1.take ((wrap64 ((wrap64 (x13_5 + 1)) * a2)) : Int).toNat).drop ((ji40) : Int).toNat).length (c1 - (ji40).toNat)]) (by first | rfl | (simp only [List.length_drop, List.length_take, i64_w]; done) | (rw [show ((l0.take ((wrap64 ((wrap64 (x12_4 + 1)) * a2)) : Int).toNat).drop ((ji36) : Int).toNat).length = ((wrap64 ((wrap64 (x12_4 + 1)) * a2)) : Int).toNat - ((ji36) : Int).toNat from (by have h_ : ((wrap64 ((wrap64 (x12_4 + 1)) * a2)) : Int) ≤ (l0.length : Int) := of_decide_eq_true (by first | (with_reducible assumption) | assumption); rw [List.length_drop, List.length_take]; omega), show ((l1.take ((wrap64 ((wrap64 (x13_5 + 1)) * a2)) : Int).toNat).drop ((ji40) : Int).toNat).length = ((wrap64 ((wrap64 (x13_5 + 1)) * a2)) : Int).toNat - ((ji40) : Int).toNat from (by have h_ : ((wrap64 ((wrap64 (x13_5 + 1)) * a2)) : Int) ≤ (l1.length : Int) := of_decide_eq_true (by first | (with_reducible assumption) | assumption); rw [List.length_drop, List.length_take]; omega)] <;> (first | done | rfl | (simp only [i64_w]; done))) | (simp only [List.length_drop, List.length_take, i64_w] <;> rfl)) ?_; (with_reducible refine (cleanseref05_Ints.calls k5 _ _ ((l0.take ((wrap64 ((wrap64 (x12_4 + 1)) * a2)) : Int).toNat).drop ((ji36) : Int).toNat) _ _ ((l1.take ((wrap64 ((wrap64 (x13_5 + 1)) * a2)) : Int).toNat).drop ((ji40) : Int).toNat) t352 _ ?side1 ?side2 ?side3 ?side4 A44.out).mono ?_); (case side1 => repeat (first | exact (Kd.C_below HR350.out HB.out) | (with_reducible refine Kd.C_alloc ?_ _) | (with_reducible refine Kd.C_drewN ?_ _) | (with_reducible refine Kd.C_drew ?_))); (case side2 => exact HC350.out); (case side3 => repeat (first | exact (Kd.C_below HR351.out HB.out) | (with_reducible refine Kd.C_alloc ?_ _) | (with_reducible refine Kd.C_drewN ?_ _) | (with_reducible refine Kd.C_drew ?_))); (case side4 => exact HC351.out); rintro e w' ⟨rfl, ⟨nd, rfl⟩⟩; (try first | exact ⟨rfl, _, World.drewN_drewN _ _ _⟩ | exact ⟨rfl, _, Eq.trans (World.drewN_drewN _ _ _) (congrArg (World.drewN _) (Nat.add_assoc _ _ _))⟩); have p353 : 0 ≤ (x12_4 : Int) := of_decide_eq_true (by first | (with_reducible assumption) | assumption); have q353 : x12_4 < (t340.length : Int) := of_decide_eq_true (by first | (with_reducible assumption) | assumption); obtain ⟨ad353, e353, hx353_0⟩ := Kd.at_string (Kd.R_reads' HO_8.out).2.2 x12_4 p353 q353; cases e353; replace p353 := eq_true p353; replace q353 := eq_true q353; have p354 : 0 ≤ (x13_5 : Int) := of_decide_eq_true (by first | (with_reducible assumption) | assumption); have q354 : x13_5 < (t344.length : Int) := of_decide_eq_true (by first | (with_reducible assumption) | assumption); obtain ⟨ad354, e354, hx354_0⟩ := Kd.at_string (Kd.R_reads' HO_10.out).2.2 x13_5 p354 q354; cases e354; replace p354 := eq_true p354; replace q354 := eq_true q354))
                                                      repeat (go_quiet (first | (go_at_call 22; refine calls_of_args (args' := #[.slice A50 ((l0.take ((wrap64 ((wrap64 (x12_4 + 1)) * a2)) : Int).toNat).drop ((ji36) : Int).toNat).length (c0 - (ji36).toNat), .slice A51 ((l1.take ((wrap64 ((wrap64 (x13_5 + 1)) * a2)) : Int).toNat).drop ((ji40) : Int).toNat).length (c1 - (ji40).toNat)]) (by first | rfl | (simp only [List.length_drop, List.length_take, i64_w]; done) | (rw [show ((l0.take ((wrap64 ((wrap64 (x12_4 + 1)) * a2)) : Int).toNat).drop ((ji36) : Int).toNat).length = ((wrap64 ((wrap64 (x12_4 + 1)) * a2)) : Int).toNat - ((ji36) : Int).toNat from (by have h_ : ((wrap64 ((wrap64 (x12_4 + 1)) * a2)) : Int) ≤ (l0.length : Int) := of_decide_eq_true (by first | (with_reducible assumption) | assumption); rw [List.length_drop, List.length_take]; omega), show ((l1.take ((wrap64 ((wrap64 (x13_5 + 1)) * a2)) : Int).toNat).drop ((ji40) : Int).toNat).length = ((wrap64 ((wrap64 (x13_5 + 1)) * a2)) : Int).toNat - ((ji40) : Int).toNat from (by have h_ : ((wrap64 ((wrap64 (x13_5 + 1)) * a2)) : Int) ≤ (l1.length : Int) := of_decide_eq_true (by first | (with_reducible assumption) | assumption); rw [List.length_drop, List.length_take]; omega)] <;> (first | done | rfl | (simp only [i64_w]; done))) | (simp only [List.length_drop, List.length_take, i64_w] <;> rfl)) ?_; (with_reducible refine (cleanseref05_Ints.calls k5 _ _ ((l0.take ((wrap64 ((wrap64 (x12_4 + 1)) * a2)) : Int).toNat).drop ((ji36) : Int).toNat) _ _ ((l1.take ((wrap64 ((wrap64 (x13_5 + 1)) * a2)) : Int).toNat).drop ((ji40) : Int).toNat) t352 _ ?side1 ?side2 ?side3 ?side4 A44.out).mono ?_); (case side1 => repeat (first | exact (Kd.C_below HR350.out HB.out) | (with_reducible refine Kd.C_alloc ?_ _) | (with_reducible refine Kd.C_drewN ?_ _) | (with_reducible refine Kd.C_drew ?_))); (case side2 => exact HC350.out); (case side3 => repeat (first | exact (Kd.C_below HR351.out HB.out) | (with_reducible refine Kd.C_alloc ?_ _) | (with_reducible refine Kd.C_drewN ?_ _) | (with_reducible refine Kd.C_drew ?_))); (case side4 => exact HC351.out); rintro e w' ⟨rfl, ⟨nd, rfl⟩⟩; (try first | exact ⟨rfl, _, World.drewN_drewN _ _ _⟩ | exact ⟨rfl, _, Eq.trans (World.drewN_drewN _ _ _) (congrArg (World.drewN _) (Nat.add_assoc _ _ _))⟩))); have p353 : 0 ≤ (x12_4 : Int) := of_decide_eq_true (by first | (with_reducible assumption) | assumption); have q353 : x12_4 < (t340.length : Int) := of_decide_eq_true (by first | (with_reducible assumption) | assumption); obtain ⟨ad353, e353, hx353_0⟩ := Kd.at_string (Kd.R_reads' HO_8.out).2.2 x12_4 p353 q353; cases e353; replace p353 := eq_true p353; replace q353 := eq_true q353; have p354 : 0 ≤ (x13_5 : Int) := of_decide_eq_true (by first | (with_reducible assumption) | assumption); have q354 : x13_5 < (t344.length : Int) := of_decide_eq_true (by first | (with_reducible assumption) | assumption); obtain ⟨ad354, e354, hx354_0⟩ := Kd.at_string (Kd.R_reads' HO_10.out).2.2 x13_5 p354 q354; cases e354; replace p354 := eq_true p354; replace q354 := eq_true q354; try go_wp2_with (first | (go_at_call 22; refine calls_of_args (args' := #[.slice A50 ((l0.take ((wrap64 ((wrap64 (x12_4 + 1)) * a2)) : Int).toNat).drop ((ji36) : Int).toNat).length (c0 - (ji36).toNat), .slice A51 ((l1.take ((wrap64 ((wrap64 (x13_5 + 1)) * a2)) : Int).toNat).drop ((ji40) : Int).toNat).length (c1 - (ji40).toNat)]) (by first | rfl | (simp only [List.length_drop, List.length_take, i64_w]; done) | (rw [show ((l0.take ((wrap64 ((wrap64 (x12_4 + 1)) * a2)) : Int).toNat).drop ((ji36) : Int).toNat).length = ((wrap64 ((wrap64 (x12_4 + 1)) * a2)) : Int).toNat - ((ji36) : Int).toNat from (by have h_ : ((wrap64 ((wrap64 (x12_4 + 1)) * a2)) : Int) ≤ (l0.length : Int) := of_decide_eq_true (by first | (with_reducible assumption) | assumption); rw [List.length_drop, List.length_take]; omega), show ((l1.take ((wrap64 ((wrap64 (x13_5 + 1)) * a2)) : Int).toNat).drop ((ji40) : Int).toNat).length = ((wrap64 ((wrap64 (x13_5 + 1)) * a2)) : Int).toNat - ((ji40) : Int).toNat from (by have h_ : ((wrap64 ((wrap64 (x13_5 + 1)) * a2)) : Int) ≤ (l1.length : Int) := of_decide_eq_true (by first | (with_reducible assumption) | assumption); rw [List.length_drop, List.length_take]; omega)] <;> (first | done | rfl | (simp only [i64_w]; done))) | (simp only [List.length_drop, List.length_take, i64_w] <;> rfl)) ?_; (with_reducible refine (cleanseref05_Ints.calls k5 _ _ ((l0.take ((wrap64 ((wrap64 (x12_4 + 1)) * a2)) : Int).toNat).drop ((ji36) : Int).toNat) _ _ ((l1.take ((wrap64 ((wrap64 (x13_5 + 1)) * a2)) : Int).toNat).drop ((ji40) : Int).toNat) t352 _ ?side1 ?side2 ?side3 ?side4 A44.out).mono ?_); (case side1 => repeat (first | exact (Kd.C_below HR350.out HB.out) | (with_reducible refine Kd.C_alloc ?_ _) | (with_reducible refine Kd.C_drewN ?_ _) | (with_reducible refine Kd.C_drew ?_))); (case side2 => exact HC350.out); (case side3 => repeat (first | exact (Kd.C_below HR351.out HB.out) | (with_reducible refine Kd.C_alloc ?_ _) | (with_reducible refine Kd.C_drewN ?_ _) | (with_reducible refine Kd.C_drew ?_))); (case side4 => exact HC351.out); rintro e w' ⟨rfl, ⟨nd, rfl⟩⟩; (try first | exact ⟨rfl, _, World.drewN_drewN _ _ _⟩ | exact ⟨rfl, _, Eq.trans (World.drewN_drewN _ _ _) (congrArg (World.drewN _) (Nat.add_assoc _ _ _))⟩); have p353 : 0 ≤ (x12_4 : Int) := of_decide_eq_true (by first | (with_reducible assumption) | assumption); have q353 : x12_4 < (t340.length : Int) := of_decide_eq_true (by first | (with_reducible assumption) | assumption); obtain ⟨ad353, e353, hx353_0⟩ := Kd.at_string (Kd.R_reads' HO_8.out).2.2 x12_4 p353 q353; cases e353; replace p353 := eq_true p353; replace q353 := eq_true q353; have p354 : 0 ≤ (x13_5 : Int) := of_decide_eq_true (by first | (with_reducible assumption) | assumption); have q354 : x13_5 < (t344.length : Int) := of_decide_eq_true (by first | (with_reducible assumption) | assumption); obtain ⟨ad354, e354, hx354_0⟩ := Kd.at_string (Kd.R_reads' HO_10.out).2.2 x13_5 p354 q354; cases e354; replace p354 := eq_true p354; replace q354 := eq_true q354)))
                                                      go_ret
                                                      exact ⟨by first | rfl | (simp [errW_none, errW_some] <;> rfl) | (simp only [← hji36, ← hji40]; first | rfl | (simp [errW_none, errW_some] <;> rfl)) | (simp [*, errW_none, errW_some] <;> rfl), by repeat (first | (with_reducible first | exact HB.out | apply below_alloc | apply pw_below_drewN | apply below_drew1) | exact HB.out)⟩
                                                    · rw [if_neg c48] at H
                                                      have c48b0 : (((rdOf ByteArray.empty t340 x12_4).toList == (rdOf ByteArray.empty t344 x13_5).toList) != t352) = false := by simpa using c48
                                                      (try (have c48b1 : decide (((rdOf ByteArray.empty t340 x12_4).toList == (rdOf ByteArray.empty t344 x13_5).toList) = t352) = true := by simpa using c48))
                                                      (try (have c48b2 : (((rdOf ByteArray.empty t340 x12_4).toList == (rdOf ByteArray.empty t344 x13_5).toList) == t352) = true := by simpa using c48))
                                                      clear c48
                                                      have H' := Aside0.mk H
                                                      clear H
                                                      obtain ⟨Ao52, co52, eo52⟩ := Kd.R_slice HO_10.out
                                                      subst eo52
                                                      obtain ⟨i053, hi053, _, hsz53, _⟩ := info_parts info3
                                                      obtain ⟨A53, hcut53, hA53, hC53⟩ := print_mid_of (P := Tryd.prog) (Value.int .i64) 0 23 3 .i64 .i64 Tryd.underlying23 hi053 hsz53 A0 c0 l0 (ji36) (wrap64 ((wrap64 (x12_4 + 1)) * a2)) (of_decide_eq_true (by first | (with_reducible assumption) | assumption)) (by first | omega | exact of_decide_eq_true (by first | (with_reducible assumption) | assumption)) (of_decide_eq_true (by first | (with_reducible assumption) | assumption)) HC0.out
                                                      try (have hcut53w := hcut53; simp only [← i64_w] at hcut53w)
                                                      have HR350 := Aside0.mk (Kd.C_of_reads (h1 := fun _ => rfl) (hA53 _ (Kd.reads_of_C HR0.out)))
                                                      have HC350 := Aside0.mk hC53
                                                      clear hA53 hC53 hi053 hsz53
                                                      obtain ⟨i054, hi054, _, hsz54, _⟩ := info_parts info3
                                                      obtain ⟨A54, hcut54, hA54, hC54⟩ := print_mid_of (P := Tryd.prog) (Value.int .i64) 0 23 3 .i64 .i64 Tryd.underlying23 hi054 hsz54 A1 c1 l1 (ji40) (wrap64 ((wrap64 (x13_5 + 1)) * a2)) (of_decide_eq_true (by first | (with_reducible assumption) | assumption)) (by first | omega | exact of_decide_eq_true (by first | (with_reducible assumption) | assumption)) (of_decide_eq_true (by first | (with_reducible assumption) | assumption)) HC1.out
                                                      try (have hcut54w := hcut54; simp only [← i64_w] at hcut54w)
                                                      have HR351 := Aside0.mk (Kd.C_of_reads (h1 := fun _ => rfl) (hA54 _ (Kd.reads_of_C HR1.out)))
                                                      have HC351 := Aside0.mk hC54
                                                      clear hA54 hC54 hi054 hsz54
                                                      go_wp2_with (first | (go_at_call 22; refine calls_of_args (args' := #[.slice A53 ((l0.take ((wrap64 ((wrap64 (x12_4 + 1)) * a2)) : Int).toNat).drop ((ji36) : Int).toNat).length (c0 - (ji36).toNat), .slice A54 ((l1.take ((wrap64 ((wrap64 (x13_5 + 1)) * a2)) : Int).toNat).drop ((ji40) : Int).toNat).length (c1 - (ji40).toNat)]) (by first | rfl | (simp only [List.length_drop, List.length_take, i64_w]; done) | (rw [show ((l0.take ((wrap64 ((wrap64 (x12_4 + 1)) * a2)) : Int).toNat).drop ((ji36) : Int).toNat).length = ((wrap64 ((wrap64 (x12_4 + 1)) * a2)) : Int).toNat - ((ji36) : Int).toNat from (by have h_ : ((wrap64 ((wrap64 (x12_4 + 1)) * a2)) : Int) ≤ (l0.length : Int) := of_decide_eq_true (by first | (with_reducible assumption) | assumption); rw [List.length_drop, List.length_take]; omega), show ((l1.take ((wrap64 ((wrap64 (x13_5 + 1)) * a2)) : Int).toNat).drop ((ji40) : Int).toNat).length = ((wrap64 ((wrap64 (x13_5 + 1)) * a2)) : Int).toNat - ((ji40) : Int).toNat from (by have h_ : ((wrap64 ((wrap64 (x13_5 + 1)) * a2)) : Int) ≤ (l1.length : Int) := of_decide_eq_true (by first | (with_reducible assumption) | assumption); rw [List.length_drop, List.length_take]; omega)] <;> (first | done | rfl | (simp only [i64_w]; done))) | (simp only [List.length_drop, List.length_take, i64_w] <;> rfl)) ?_; (with_reducible refine (cleanseref05_Ints.calls k5 _ _ ((l0.take ((wrap64 ((wrap64 (x12_4 + 1)) * a2)) : Int).toNat).drop ((ji36) : Int).toNat) _ _ ((l1.take ((wrap64 ((wrap64 (x13_5 + 1)) * a2)) : Int).toNat).drop ((ji40) : Int).toNat) t352 _ ?side1 ?side2 ?side3 ?side4 A44.out).mono ?_); (case side1 => repeat (first | exact (Kd.C_below HR350.out HB.out) | (with_reducible refine Kd.C_alloc ?_ _) | (with_reducible refine Kd.C_drewN ?_ _) | (with_reducible refine Kd.C_drew ?_))); (case side2 => exact HC350.out); (case side3 => repeat (first | exact (Kd.C_below HR351.out HB.out) | (with_reducible refine Kd.C_alloc ?_ _) | (with_reducible refine Kd.C_drewN ?_ _) | (with_reducible refine Kd.C_drew ?_))); (case side4 => exact HC351.out); rintro e w' ⟨rfl, ⟨nd, rfl⟩⟩; (try first | exact ⟨rfl, _, World.drewN_drewN _ _ _⟩ | exact ⟨rfl, _, Eq.trans (World.drewN_drewN _ _ _) (congrArg (World.drewN _) (Nat.add_assoc _ _ _))⟩); have p353 : 0 ≤ (x12_4 : Int) := of_decide_eq_true (by first | (with_reducible assumption) | assumption); have q353 : x12_4 < (t340.length : Int) := of_decide_eq_true (by first | (with_reducible assumption) | assumption); obtain ⟨ad353, e353, hx353_0⟩ := Kd.at_string (Kd.R_reads' HO_8.out).2.2 x12_4 p353 q353; cases e353; replace p353 := eq_true p353; replace q353 := eq_true q353; have p354 : 0 ≤ (x13_5 : Int) := of_decide_eq_true (by first | (with_reducible assumption) | assumption); have q354 : x13_5 < (t344.length : Int) := of_decide_eq_true (by first | (with_reducible assumption) | assumption); obtain ⟨ad354, e354, hx354_0⟩ := Kd.at_string (Kd.R_reads' HO_10.out).2.2 x13_5 p354 q354; cases e354; replace p354 := eq_true p354; replace q354 := eq_true q354))
                                                      repeat (go_quiet (first | (go_at_call 22; refine calls_of_args (args' := #[.slice A53 ((l0.take ((wrap64 ((wrap64 (x12_4 + 1)) * a2)) : Int).toNat).drop ((ji36) : Int).toNat).length (c0 - (ji36).toNat), .slice A54 ((l1.take ((wrap64 ((wrap64 (x13_5 + 1)) * a2)) : Int).toNat).drop ((ji40) : Int).toNat).length (c1 - (ji40).toNat)]) (by first | rfl | (simp only [List.length_drop, List.length_take, i64_w]; done) | (rw [show ((l0.take ((wrap64 ((wrap64 (x12_4 + 1)) * a2)) : Int).toNat).drop ((ji36) : Int).toNat).length = ((wrap64 ((wrap64 (x12_4 + 1)) * a2)) : Int).toNat - ((ji36) : Int).toNat from (by have h_ : ((wrap64 ((wrap64 (x12_4 + 1)) * a2)) : Int) ≤ (l0.length : Int) := of_decide_eq_true (by first | (with_reducible assumption) | assumption); rw [List.length_drop, List.length_take]; omega), show ((l1.take ((wrap64 ((wrap64 (x13_5 + 1)) * a2)) : Int).toNat).drop ((ji40) : Int).toNat).length = ((wrap64 ((wrap64 (x13_5 + 1)) * a2)) : Int).toNat - ((ji40) : Int).toNat from (by have h_ : ((wrap64 ((wrap64 (x13_5 + 1)) * a2)) : Int) ≤ (l1.length : Int) := of_decide_eq_true (by first | (with_reducible assumption) | assumption); rw [List.length_drop, List.length_take]; omega)] <;> (first | done | rfl | (simp only [i64_w]; done))) | (simp only [List.length_drop, List.length_take, i64_w] <;> rfl)) ?_; (with_reducible refine (cleanseref05_Ints.calls k5 _ _ ((l0.take ((wrap64 ((wrap64 (x12_4 + 1)) * a2)) : Int).toNat).drop ((ji36) : Int).toNat) _ _ ((l1.take ((wrap64 ((wrap64 (x13_5 + 1)) * a2)) : Int).toNat).drop ((ji40) : Int).toNat) t352 _ ?side1 ?side2 ?side3 ?side4 A44.out).mono ?_); (case side1 => repeat (first | exact (Kd.C_below HR350.out HB.out) | (with_reducible refine Kd.C_alloc ?_ _) | (with_reducible refine Kd.C_drewN ?_ _) | (with_reducible refine Kd.C_drew ?_))); (case side2 => exact HC350.out); (case side3 => repeat (first | exact (Kd.C_below HR351.out HB.out) | (with_reducible refine Kd.C_alloc ?_ _) | (with_reducible refine Kd.C_drewN ?_ _) | (with_reducible refine Kd.C_drew ?_))); (case side4 => exact HC351.out); rintro e w' ⟨rfl, ⟨nd, rfl⟩⟩; (try first | exact ⟨rfl, _, World.drewN_drewN _ _ _⟩ | exact ⟨rfl, _, Eq.trans (World.drewN_drewN _ _ _) (congrArg (World.drewN _) (Nat.add_assoc _ _ _))⟩))); have p353 : 0 ≤ (x12_4 : Int) := of_decide_eq_true (by first | (with_reducible assumption) | assumption); have q353 : x12_4 < (t340.length : Int) := of_decide_eq_true (by first | (with_reducible assumption) | assumption); obtain ⟨ad353, e353, hx353_0⟩ := Kd.at_string (Kd.R_reads' HO_8.out).2.2 x12_4 p353 q353; cases e353; replace p353 := eq_true p353; replace q353 := eq_true q353; have p354 : 0 ≤ (x13_5 : Int) := of_decide_eq_true (by first | (with_reducible assumption) | assumption); have q354 : x13_5 < (t344.length : Int) := of_decide_eq_true (by first | (with_reducible assumption) | assumption); obtain ⟨ad354, e354, hx354_0⟩ := Kd.at_string (Kd.R_reads' HO_10.out).2.2 x13_5 p354 q354; cases e354; replace p354 := eq_true p354; replace q354 := eq_true q354; try go_wp2_with (first | (go_at_call 22; refine calls_of_args (args' := #[.slice A53 ((l0.take ((wrap64 ((wrap64 (x12_4 + 1)) * a2)) : Int).toNat).drop ((ji36) : Int).toNat).length (c0 - (ji36).toNat), .slice A54 ((l1.take ((wrap64 ((wrap64 (x13_5 + 1)) * a2)) : Int).toNat).drop ((ji40) : Int).toNat).length (c1 - (ji40).toNat)]) (by first | rfl | (simp only [List.length_drop, List.length_take, i64_w]; done) | (rw [show ((l0.take ((wrap64 ((wrap64 (x12_4 + 1)) * a2)) : Int).toNat).drop ((ji36) : Int).toNat).length = ((wrap64 ((wrap64 (x12_4 + 1)) * a2)) : Int).toNat - ((ji36) : Int).toNat from (by have h_ : ((wrap64 ((wrap64 (x12_4 + 1)) * a2)) : Int) ≤ (l0.length : Int) := of_decide_eq_true (by first | (with_reducible assumption) | assumption); rw [List.length_drop, List.length_take]; omega), show ((l1.take ((wrap64 ((wrap64 (x13_5 + 1)) * a2)) : Int).toNat).drop ((ji40) : Int).toNat).length = ((wrap64 ((wrap64 (x13_5 + 1)) * a2)) : Int).toNat - ((ji40) : Int).toNat from (by have h_ : ((wrap64 ((wrap64 (x13_5 + 1)) * a2)) : Int) ≤ (l1.length : Int) := of_decide_eq_true (by first | (with_reducible assumption) | assumption); rw [List.length_drop, List.length_take]; omega)] <;> (first | done | rfl | (simp only [i64_w]; done))) | (simp only [List.length_drop, List.length_take, i64_w] <;> rfl)) ?_; (with_reducible refine (cleanseref05_Ints.calls k5 _ _ ((l0.take ((wrap64 ((wrap64 (x12_4 + 1)) * a2)) : Int).toNat).drop ((ji36) : Int).toNat) _ _ ((l1.take ((wrap64 ((wrap64 (x13_5 + 1)) * a2)) : Int).toNat).drop ((ji40) : Int).toNat) t352 _ ?side1 ?side2 ?side3 ?side4 A44.out).mono ?_); (case side1 => repeat (first | exact (Kd.C_below HR350.out HB.out) | (with_reducible refine Kd.C_alloc ?_ _) | (with_reducible refine Kd.C_drewN ?_ _) | (with_reducible refine Kd.C_drew ?_))); (case side2 => exact HC350.out); (case side3 => repeat (first | exact (Kd.C_below HR351.out HB.out) | (with_reducible refine Kd.C_alloc ?_ _) | (with_reducible refine Kd.C_drewN ?_ _) | (with_reducible refine Kd.C_drew ?_))); (case side4 => exact HC351.out); rintro e w' ⟨rfl, ⟨nd, rfl⟩⟩; (try first | exact ⟨rfl, _, World.drewN_drewN _ _ _⟩ | exact ⟨rfl, _, Eq.trans (World.drewN_drewN _ _ _) (congrArg (World.drewN _) (Nat.add_assoc _ _ _))⟩); have p353 : 0 ≤ (x12_4 : Int) := of_decide_eq_true (by first | (with_reducible assumption) | assumption); have q353 : x12_4 < (t340.length : Int) := of_decide_eq_true (by first | (with_reducible assumption) | assumption); obtain ⟨ad353, e353, hx353_0⟩ := Kd.at_string (Kd.R_reads' HO_8.out).2.2 x12_4 p353 q353; cases e353; replace p353 := eq_true p353; replace q353 := eq_true q353; have p354 : 0 ≤ (x13_5 : Int) := of_decide_eq_true (by first | (with_reducible assumption) | assumption); have q354 : x13_5 < (t344.length : Int) := of_decide_eq_true (by first | (with_reducible assumption) | assumption); obtain ⟨ad354, e354, hx354_0⟩ := Kd.at_string (Kd.R_reads' HO_10.out).2.2 x13_5 p354 q354; cases e354; replace p354 := eq_true p354; replace q354 := eq_true q354)))
                                                      go_roundg k5
                                                      case measure => have := HJ4.out; have := HJ10.out; have := HJ19.out; have := HK4.out; have := HK5.out; omega
                                                      case rel => exact ⟨(wrap64 (x13_5 + 1)), (by first | rfl | (simp; done) | (simp [*]; done)), H', ⟨by have := HJ4.out; have := HJ10.out; have := HJ19.out; have := HK4.out; have := HK5.out; omega⟩, ⟨by (with_reducible repeat (first | apply Kd.R_alloc | apply Kd.R_drewN | apply Kd.R_drew)); exact HO_8.out⟩, ⟨by (with_reducible repeat (first | apply Kd.R_alloc | apply Kd.R_drewN | apply Kd.R_drew)); exact HO_10.out⟩, ⟨by repeat (first | (with_reducible first | exact HB.out | apply below_alloc | apply pw_below_drewN | apply below_drew1) | exact HB.out)⟩⟩
                                                  · rw [if_neg c47] at H
                                                    exact absurd H (by simp)
                                                · rw [if_neg c46] at H
                                                  exact absurd H (by simp)
                                              · rw [if_neg c45] at H
                                                exact absurd H (by simp)
                                            · rw [if_neg c43] at H
                                              exact absurd H (by simp)
                                          · rw [if_neg c42] at H
                                            exact absurd H (by simp)
                                        · rw [if_neg c41] at H
                                          exact absurd H (by simp)
                                      · rw [if_neg c39] at H
                                        exact absurd H (by simp)
                                    · rw [if_neg c38] at H
                                      exact absurd H (by simp)
                                  · rw [if_neg c37] at H
                                    exact absurd H (by simp)
                                · rw [if_neg c35] at H
                                  have c35b0 : (x12_4 == x13_5) = false := beq_eq_false_iff_ne.mpr c35
                                  have c35b1 : (x12_4 != x13_5) = true := bne_iff_ne.mpr c35
                                  by_cases c55 : 0 ≤ x12_4
                                  · rw [if_pos c55] at H
                                    have c55b0 : decide (0 ≤ x12_4) = true := decide_eq_true c55
                                    clear c55
                                    by_cases c56 : x12_4 < (t340.length : Int)
                                    · rw [if_pos c56] at H
                                      have c56b0 : decide (x12_4 < (t340.length : Int)) = true := decide_eq_true c56
                                      clear c56
                                      by_cases c57 : 0 ≤ x13_5
                                      · rw [if_pos c57] at H
                                        have c57b0 : decide (0 ≤ x13_5) = true := decide_eq_true c57
                                        clear c57
                                        by_cases c58 : (((rdOf ByteArray.empty t340 x12_4).toList == (rdOf ByteArray.empty t344 x13_5).toList) != false) = true
                                        · rw [if_pos c58] at H
                                          have c58b0 : (((rdOf ByteArray.empty t340 x12_4).toList == (rdOf ByteArray.empty t344 x13_5).toList) != false) = true := c58
                                          (try (have c58b1 : decide (((rdOf ByteArray.empty t340 x12_4).toList == (rdOf ByteArray.empty t344 x13_5).toList) = false) = false := by simpa using c58))
                                          (try (have c58b2 : (((rdOf ByteArray.empty t340 x12_4).toList == (rdOf ByteArray.empty t344 x13_5).toList) == false) = false := by simpa using c58))
                                          (try (have c58b3 : ¬ (((rdOf ByteArray.empty t340 x12_4).toList == (rdOf ByteArray.empty t344 x13_5).toList) = false) := by simpa using c58))
                                          clear c58
                                          obtain rfl := Option.some.inj H
                                          obtain ⟨Ao59, co59, eo59⟩ := Kd.R_slice HO_10.out
                                          subst eo59
                                          have p355 : 0 ≤ (x12_4 : Int) := of_decide_eq_true (by first | (with_reducible assumption) | assumption)
                                          have q355 : x12_4 < (t340.length : Int) := of_decide_eq_true (by first | (with_reducible assumption) | assumption)
                                          obtain ⟨ad355, e355, hx355_0⟩ := Kd.at_string (Kd.R_reads' HO_8.out).2.2 x12_4 p355 q355
                                          cases e355
                                          replace p355 := eq_true p355
                                          replace q355 := eq_true q355
                                          have p356 : 0 ≤ (x13_5 : Int) := of_decide_eq_true (by first | (with_reducible assumption) | assumption)
                                          have q356 : x13_5 < (t344.length : Int) := of_decide_eq_true (by first | (with_reducible assumption) | assumption)
                                          obtain ⟨ad356, e356, hx356_0⟩ := Kd.at_string (Kd.R_reads' HO_10.out).2.2 x13_5 p356 q356
                                          cases e356
                                          replace p356 := eq_true p356
                                          replace q356 := eq_true q356
                                          go_wp2
                                          repeat (go_quiet (fail); try go_wp2)
                                          go_ret
                                          exact ⟨by first | rfl | (simp [errW_none, errW_some] <;> rfl) | (simp [*, errW_none, errW_some] <;> rfl), by repeat (first | (with_reducible first | exact HB.out | apply below_alloc | apply pw_below_drewN | apply below_drew1) | exact HB.out)⟩
                                        · rw [if_neg c58] at H
                                          have c58b0 : (((rdOf ByteArray.empty t340 x12_4).toList == (rdOf ByteArray.empty t344 x13_5).toList) != false) = false := by simpa using c58
                                          (try (have c58b1 : decide (((rdOf ByteArray.empty t340 x12_4).toList == (rdOf ByteArray.empty t344 x13_5).toList) = false) = true := by simpa using c58))
                                          (try (have c58b2 : (((rdOf ByteArray.empty t340 x12_4).toList == (rdOf ByteArray.empty t344 x13_5).toList) == false) = true := by simpa using c58))
                                          clear c58
                                          have H' := Aside0.mk H
                                          clear H
                                          obtain ⟨Ao60, co60, eo60⟩ := Kd.R_slice HO_10.out
                                          subst eo60
                                          have p355 : 0 ≤ (x12_4 : Int) := of_decide_eq_true (by first | (with_reducible assumption) | assumption)
                                          have q355 : x12_4 < (t340.length : Int) := of_decide_eq_true (by first | (with_reducible assumption) | assumption)
                                          obtain ⟨ad355, e355, hx355_0⟩ := Kd.at_string (Kd.R_reads' HO_8.out).2.2 x12_4 p355 q355
                                          cases e355
                                          replace p355 := eq_true p355
                                          replace q355 := eq_true q355
                                          have p356 : 0 ≤ (x13_5 : Int) := of_decide_eq_true (by first | (with_reducible assumption) | assumption)
                                          have q356 : x13_5 < (t344.length : Int) := of_decide_eq_true (by first | (with_reducible assumption) | assumption)
                                          obtain ⟨ad356, e356, hx356_0⟩ := Kd.at_string (Kd.R_reads' HO_10.out).2.2 x13_5 p356 q356
                                          cases e356
                                          replace p356 := eq_true p356
                                          replace q356 := eq_true q356
                                          go_wp2
                                          repeat (go_quiet (fail); try go_wp2)
                                          go_roundg k5
                                          case measure => have := HJ4.out; have := HJ10.out; have := HJ19.out; have := HK4.out; have := HK5.out; omega
                                          case rel => exact ⟨(wrap64 (x13_5 + 1)), (by first | rfl | (simp; done) | (simp [*]; done)), H', ⟨by have := HJ4.out; have := HJ10.out; have := HJ19.out; have := HK4.out; have := HK5.out; omega⟩, ⟨by (with_reducible repeat (first | apply Kd.R_alloc | apply Kd.R_drewN | apply Kd.R_drew)); exact HO_8.out⟩, ⟨by (with_reducible repeat (first | apply Kd.R_alloc | apply Kd.R_drewN | apply Kd.R_drew)); exact HO_10.out⟩, ⟨by repeat (first | (with_reducible first | exact HB.out | apply below_alloc | apply pw_below_drewN | apply below_drew1) | exact HB.out)⟩⟩
                                      · rw [if_neg c57] at H
                                        exact absurd H (by simp)
                                    · rw [if_neg c56] at H
                                      exact absurd H (by simp)
                                  · rw [if_neg c55] at H
                                    exact absurd H (by simp)
                              · rw [if_neg c34] at H
                                have c34b0 : decide (x13_5 < (t344.length : Int)) = false := decide_eq_false c34
                                clear c34
                                have H' := Aside0.mk H
                                clear H
                                obtain ⟨Ao61, co61, eo61⟩ := Kd.R_slice HO_10.out
                                subst eo61
                                go_wp2
                                repeat (go_quiet (fail); try go_wp2)
                                go_loopg [15] k5 (fun kq v15 w' => ∃ (x15_6 : Int), v15 = .int .i64 x15_6 ∧ Aside0 (cleanselaw05_SketchBands.l2 kq l0 l1 a2 t339 t340 t344 x12_4 x15_6 = some r) ∧ Aside0 (kq ≤ k5) ∧ Aside0 (Kd.R Kd.string 9 w' w.heap.size (fun k_ => some k_ ≠ ((.slice Ao61 t344.length co61) : Value).ownBlock) (.slice Ao33 t340.length co33) t340) ∧ Aside0 (Kd.R Kd.string 9 w' w.heap.size (fun k_ => some k_ ≠ ((.slice Ao33 t340.length co33) : Value).ownBlock) (.slice Ao61 t344.length co61) t344) ∧ Aside0 (Below w.heap.size w w'))
                                case atStart => exact ⟨(0), (by first | rfl | (simp; done) | (simp [*]; done)), H', ⟨Nat.le_refl _⟩, ⟨by (with_reducible repeat (first | apply Kd.R_alloc | apply Kd.R_drewN | apply Kd.R_drew)); exact HO_8.out⟩, ⟨by (with_reducible repeat (first | apply Kd.R_alloc | apply Kd.R_drewN | apply Kd.R_drew)); exact HO_10.out⟩, ⟨by repeat (first | (with_reducible first | exact HB.out | apply below_alloc | apply pw_below_drewN | apply below_drew1) | exact HB.out)⟩⟩
                                case round =>
                                  clear H'
                                  try clear c1
                                  try clear c2
                                  try clear p2
                                  try clear c3
                                  try clear p3
                                  try clear q3
                                  try clear hx3
                                  try clear qi3
                                  try clear c4
                                  try clear c5
                                  try clear p6
                                  try clear c7
                                  try clear c7b0
                                  try clear c7b1
                                  try clear c8
                                  try clear c14
                                  try clear c14b0
                                  try clear c14b1
                                  try clear c15
                                  try clear c16
                                  try clear c17
                                  try clear c17b0
                                  try clear c17b1
                                  try clear c18
                                  try clear c18b0
                                  try clear c18b1
                                  try clear c21
                                  try clear c21b0
                                  try clear c22
                                  try clear c22b0
                                  try clear c22b1
                                  try clear c22b2
                                  try clear c23
                                  try clear c23b0
                                  try clear c23b1
                                  try clear c23b2
                                  try clear c24
                                  try clear c24b0
                                  try clear c24b1
                                  try clear c26
                                  try clear c26b0
                                  try clear c26b1
                                  try clear c27
                                  try clear c27b0
                                  try clear c27b1
                                  try clear c28
                                  try clear c28b0
                                  try clear c28b1
                                  try clear c31
                                  try clear c32
                                  try clear c32b0
                                  try clear c34
                                  try clear c34b0
                                  try clear p34
                                  try clear q34
                                  try clear hx34
                                  try clear qi34
                                  try clear c35
                                  try clear c35b0
                                  try clear c35b1
                                  try clear p35
                                  try clear q35
                                  try clear hx35
                                  try clear c37
                                  try clear c37b0
                                  try clear c37b1
                                  try clear c38
                                  try clear c38b0
                                  try clear c38b1
                                  try clear c39
                                  try clear c39b0
                                  try clear c39b1
                                  try clear c41
                                  try clear c41b0
                                  try clear c41b1
                                  try clear c42
                                  try clear c42b0
                                  try clear c42b1
                                  try clear c43
                                  try clear c43b0
                                  try clear c43b1
                                  try clear c45
                                  try clear c45b0
                                  try clear c46
                                  try clear c46b0
                                  try clear c47
                                  try clear c47b0
                                  try clear c48
                                  try clear c48b0
                                  try clear c48b1
                                  try clear c48b2
                                  try clear c55
                                  try clear c55b0
                                  try clear c56
                                  try clear c56b0
                                  try clear c57
                                  try clear c57b0
                                  try clear c58
                                  try clear c58b0
                                  try clear c58b1
                                  try clear c58b2
                                  try clear hx348_0
                                  try clear hx349_0
                                  try clear hx353_0
                                  try clear hx354_0
                                  try clear hx355_0
                                  try clear hx356_0
                                  try clear p2
                                  try clear p3
                                  try clear p348
                                  try clear p349
                                  try clear p353
                                  try clear p354
                                  try clear p355
                                  try clear p356
                                  try clear p6
                                  try clear q3
                                  try clear q348
                                  try clear q349
                                  try clear q353
                                  try clear q354
                                  try clear q355
                                  try clear q356
                                  obtain ⟨x15_6, rfl, HA, HK6, HO_8, HO_10, HB⟩ := hrel
                                  cases gk with
                                  | zero => exact absurd HA.out (by simp [cleanselaw05_SketchBands.l2])
                                  | succ k6 =>
                                    have H := HA.out
                                    clear HA
                                    simp only [cleanselaw05_SketchBands.l2] at H
                                    by_cases c62 : x15_6 < x12_4
                                    · rw [if_pos c62] at H
                                      have c62b0 : decide (x15_6 < x12_4) = true := decide_eq_true c62
                                      clear c62
                                      by_cases c63 : 0 ≤ x12_4
                                      · rw [if_pos c63] at H
                                        have c63b0 : decide (0 ≤ x12_4) = true := decide_eq_true c63
                                        clear c63
                                        by_cases c64 : x12_4 < (t340.length : Int)
                                        · rw [if_pos c64] at H
                                          have c64b0 : decide (x12_4 < (t340.length : Int)) = true := decide_eq_true c64
                                          clear c64
                                          by_cases c65 : 0 ≤ x15_6
                                          · rw [if_pos c65] at H
                                            have c65b0 : decide (0 ≤ x15_6) = true := decide_eq_true c65
                                            clear c65
                                            by_cases c66 : x15_6 < (t340.length : Int)
                                            · rw [if_pos c66] at H
                                              have c66b0 : decide (x15_6 < (t340.length : Int)) = true := decide_eq_true c66
                                              clear c66
                                              by_cases c67 : (rdOf ByteArray.empty t340 x12_4).toList = (rdOf ByteArray.empty t340 x15_6).toList
                                              · rw [if_pos c67] at H
                                                have c67b0 : ((rdOf ByteArray.empty t340 x12_4).toList == (rdOf ByteArray.empty t340 x15_6).toList) = true := beq_iff_eq.mpr c67
                                                have c67b1 : ((rdOf ByteArray.empty t340 x12_4).toList != (rdOf ByteArray.empty t340 x15_6).toList) = false := bne_eq_false_iff_eq.mpr c67
                                                clear c67
                                                obtain rfl := Option.some.inj H
                                                have p357 : 0 ≤ (x12_4 : Int) := of_decide_eq_true (by first | (with_reducible assumption) | assumption)
                                                have q357 : x12_4 < (t340.length : Int) := of_decide_eq_true (by first | (with_reducible assumption) | assumption)
                                                obtain ⟨ad357, e357, hx357_0⟩ := Kd.at_string (Kd.R_reads' HO_8.out).2.2 x12_4 p357 q357
                                                cases e357
                                                replace p357 := eq_true p357
                                                replace q357 := eq_true q357
                                                have p358 : 0 ≤ (x15_6 : Int) := of_decide_eq_true (by first | (with_reducible assumption) | assumption)
                                                have q358 : x15_6 < (t340.length : Int) := of_decide_eq_true (by first | (with_reducible assumption) | assumption)
                                                obtain ⟨ad358, e358, hx358_0⟩ := Kd.at_string (Kd.R_reads' HO_8.out).2.2 x15_6 p358 q358
                                                obtain rfl : ad357 = ad358 := (by injection e358)
                                                replace p358 := eq_true p358
                                                replace q358 := eq_true q358
                                                go_wp2
                                                repeat (go_quiet (fail); try go_wp2)
                                                go_ret
                                                exact ⟨by first | rfl | (simp [errW_none, errW_some] <;> rfl) | (simp [*, errW_none, errW_some] <;> rfl), by repeat (first | (with_reducible first | exact HB.out | apply below_alloc | apply pw_below_drewN | apply below_drew1) | exact HB.out)⟩
                                              · rw [if_neg c67] at H
                                                have c67b0 : ((rdOf ByteArray.empty t340 x12_4).toList == (rdOf ByteArray.empty t340 x15_6).toList) = false := beq_eq_false_iff_ne.mpr c67
                                                have c67b1 : ((rdOf ByteArray.empty t340 x12_4).toList != (rdOf ByteArray.empty t340 x15_6).toList) = true := bne_iff_ne.mpr c67
                                                have H' := Aside0.mk H
                                                clear H
                                                have p357 : 0 ≤ (x12_4 : Int) := of_decide_eq_true (by first | (with_reducible assumption) | assumption)
                                                have q357 : x12_4 < (t340.length : Int) := of_decide_eq_true (by first | (with_reducible assumption) | assumption)
                                                obtain ⟨ad357, e357, hx357_0⟩ := Kd.at_string (Kd.R_reads' HO_8.out).2.2 x12_4 p357 q357
                                                cases e357
                                                replace p357 := eq_true p357
                                                replace q357 := eq_true q357
                                                have p358 : 0 ≤ (x15_6 : Int) := of_decide_eq_true (by first | (with_reducible assumption) | assumption)
                                                have q358 : x15_6 < (t340.length : Int) := of_decide_eq_true (by first | (with_reducible assumption) | assumption)
                                                obtain ⟨ad358, e358, hx358_0⟩ := Kd.at_string (Kd.R_reads' HO_8.out).2.2 x15_6 p358 q358
                                                obtain rfl : ad357 = ad358 := (by injection e358)
                                                replace p358 := eq_true p358
                                                replace q358 := eq_true q358
                                                go_wp2
                                                repeat (go_quiet (fail); try go_wp2)
                                                go_roundg k6
                                                case measure => have := HJ4.out; have := HJ10.out; have := HJ19.out; have := HK4.out; have := HK5.out; have := HK6.out; omega
                                                case rel => exact ⟨(wrap64 (x15_6 + 1)), (by first | rfl | (simp; done) | (simp [*]; done)), H', ⟨by have := HJ4.out; have := HJ10.out; have := HJ19.out; have := HK4.out; have := HK5.out; have := HK6.out; omega⟩, ⟨by (with_reducible repeat (first | apply Kd.R_alloc | apply Kd.R_drewN | apply Kd.R_drew)); exact HO_8.out⟩, ⟨by (with_reducible repeat (first | apply Kd.R_alloc | apply Kd.R_drewN | apply Kd.R_drew)); exact HO_10.out⟩, ⟨by repeat (first | (with_reducible first | exact HB.out | apply below_alloc | apply pw_below_drewN | apply below_drew1) | exact HB.out)⟩⟩
                                            · rw [if_neg c66] at H
                                              exact absurd H (by simp)
                                          · rw [if_neg c65] at H
                                            exact absurd H (by simp)
                                        · rw [if_neg c64] at H
                                          exact absurd H (by simp)
                                      · rw [if_neg c63] at H
                                        exact absurd H (by simp)
                                    · rw [if_neg c62] at H
                                      have c62b0 : decide (x15_6 < x12_4) = false := decide_eq_false c62
                                      clear c62
                                      have H' := Aside0.mk H
                                      clear H
                                      go_wp2
                                      repeat (go_quiet (fail); try go_wp2)
                                      go_roundg k6
                                      case measure => have := HJ4.out; have := HJ10.out; have := HJ19.out; have := HK4.out; have := HK5.out; have := HK6.out; omega
                                      case rel => exact ⟨(wrap64 (x12_4 + 1)), (by first | rfl | (simp; done) | (simp [*]; done)), H', ⟨by have := HJ4.out; have := HJ10.out; have := HJ19.out; have := HK4.out; have := HK5.out; have := HK6.out; omega⟩, ⟨by (with_reducible repeat (first | apply Kd.R_alloc | apply Kd.R_drewN | apply Kd.R_drew)); exact HO_8.out⟩, ⟨by (with_reducible repeat (first | apply Kd.R_alloc | apply Kd.R_drewN | apply Kd.R_drew)); exact HO_10.out⟩, ⟨by repeat (first | (with_reducible first | exact HB.out | apply below_alloc | apply pw_below_drewN | apply below_drew1) | exact HB.out)⟩⟩
                        · rw [if_neg c32] at H
                          have c32b0 : decide (x12_4 < (t340.length : Int)) = false := decide_eq_false c32
                          clear c32
                          obtain rfl := Option.some.inj H
                          obtain ⟨Ao68, co68, eo68⟩ := Kd.R_slice HO_8.out
                          subst eo68
                          go_wp2
                          repeat (go_quiet (fail); try go_wp2)
                          go_ret
                          exact ⟨by first | rfl | (simp [errW_none, errW_some] <;> rfl) | (simp [*, errW_none, errW_some] <;> rfl), by repeat (first | (with_reducible first | exact HB.out | apply below_alloc | apply pw_below_drewN | apply below_drew1) | exact HB.out)⟩

end Go.Proofs.YtiobkccmgigmhaaDoor.Px
