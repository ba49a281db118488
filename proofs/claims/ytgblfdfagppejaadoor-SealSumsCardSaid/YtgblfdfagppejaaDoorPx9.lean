/- Go functions as Lean functions, each with the proof that the Go code answers as it does (written by a program of this session: myprint.py, over the kit's printer). -/
import Derived.Test.YtgblfdfagppejaaDoorPx0
import Derived.Test.YtgblfdfagppejaaDoorPx1
import Derived.Test.YtgblfdfagppejaaDoorPx2
namespace Go.Proofs.YtgblfdfagppejaaDoor.Px
open Go.RowKit Go.Proofs.YtgblfdfagppejaaDoorW.PrintWords Go.Proofs.YtgblfdfagppejaaDoorW.PrintLast Go.Proofs.YtgblfdfagppejaaDoorW.PrintMore
attribute [local go_sem] max2_int min2_int max_two min_two max_three min_three max_four min_four   -- for this text's walks alone
set_option linter.unusedVariables false
set_option linter.unusedSimpArgs false

/-! ### cleanselaw45_SealSums: function 7 -/
mutual
def cleanselaw45_SealSums.j0 : Nat → ByteArray → ByteArray → Int → Int → Bool → Bool → Option (Bool)
  | 0, _, _, _, _, _, _ => none
  | k + 1, x0, x1, x2, x3, x9, x29 => if x29 = true then (some x9) else (if (x0.size : Int) = 0 then (none) else (if 0 ≤ (Int.tmod (wrap64 (x2)) (x0.size : Int)) then (if (Int.tmod (wrap64 (x2)) (x0.size : Int)) ≤ (x0.size : Int) then ((some (([x3] : List Int) : List Int)).bind fun y248 => (if (x0.extract 0 ((Int.tmod (wrap64 (x2)) (x0.size : Int)) : Int).toNat).size + (strOfNums y248).size ≤ 9223372036854775807 then (if 0 ≤ (wrap64 ((Int.tmod (wrap64 (x2)) (x0.size : Int)) + 1)) then (if (wrap64 ((Int.tmod (wrap64 (x2)) (x0.size : Int)) + 1)) ≤ (x0.size : Int) then (if ((x0.extract 0 ((Int.tmod (wrap64 (x2)) (x0.size : Int)) : Int).toNat) ++ (strOfNums y248)).size + (x0.extract ((wrap64 ((Int.tmod (wrap64 (x2)) (x0.size : Int)) + 1)) : Int).toNat x0.size).size ≤ 9223372036854775807 then ((seal_Sum.f k x0).bind fun t251 => ((seal_Sum.f k (((x0.extract 0 ((Int.tmod (wrap64 (x2)) (x0.size : Int)) : Int).toNat) ++ (strOfNums y248)) ++ (x0.extract ((wrap64 ((Int.tmod (wrap64 (x2)) (x0.size : Int)) + 1)) : Int).toNat x0.size))).bind fun t252 => (cleanselaw45_SealSums.l0 k x0 x1 x9 (((x0.extract 0 ((Int.tmod (wrap64 (x2)) (x0.size : Int)) : Int).toNat) ++ (strOfNums y248)) ++ (x0.extract ((wrap64 ((Int.tmod (wrap64 (x2)) (x0.size : Int)) + 1)) : Int).toNat x0.size)) t251 t252 0 0))) else (none)) else (none)) else (none)) else (none))) else (none)) else (none)))
def cleanselaw45_SealSums.l0 : Nat → ByteArray → ByteArray → Bool → ByteArray → Int → Int → Int → Int → Option (Bool)
  | 0, _, _, _, _, _, _, _, _ => none
  | k + 1, x0, x1, x9, x11, x12, x13, x14, x15 => if x15 < (x0.size : Int) then (cleanselaw45_SealSums.j2 k x0 x1 x9 x11 x12 x13 x14 x15 ((x0.size : Int) == (x1.size : Int))) else (cleanselaw45_SealSums.j2 k x0 x1 x9 x11 x12 x13 x14 x15 false)
def cleanselaw45_SealSums.j2 : Nat → ByteArray → ByteArray → Bool → ByteArray → Int → Int → Int → Int → Bool → Option (Bool)
  | 0, _, _, _, _, _, _, _, _, _ => none
  | k + 1, x0, x1, x9, x11, x12, x13, x14, x15, x62 => if x62 = true then (if 0 ≤ x15 then (if x15 < (x0.size : Int) then (if x15 < (x1.size : Int) then (if (bt x0 x15) = (bt x1 x15) then (cleanselaw45_SealSums.l0 k x0 x1 x9 x11 x12 x13 x14 (wrap64 (x15 + 1))) else (cleanselaw45_SealSums.l0 k x0 x1 x9 x11 x12 x13 (wrap64 (x14 + 1)) (wrap64 (x15 + 1)))) else (none)) else (none)) else (none)) else (if x9 = true then (if x12 ≥ 0 then (if x12 < 2147483647 then (if ((x12 == x13) == (x0.toList == x11.toList)) = true then (if x14 = 1 then ((seal_Sum.f k x1).bind fun t253 => (some (x12 != t253))) else (some true)) else (some false)) else (some false)) else (some false)) else (some false))
end
def cleanselaw45_SealSums.f (k : Nat) (a0 : ByteArray) (a1 : ByteArray) (a2 : Int) (a3 : Int) : Option (Bool) := (cleanselaw45_head.f k).bind fun t247 => (if (a0.size : Int) > 2000 then (cleanselaw45_SealSums.j0 k a0 a1 a2 a3 t247 true) else (if (a1.size : Int) > 2000 then (cleanselaw45_SealSums.j0 k a0 a1 a2 a3 t247 true) else (cleanselaw45_SealSums.j0 k a0 a1 a2 a3 t247 ((a0.size : Int) == 0))))
theorem cleanselaw45_SealSums.mono_l : ∀ k, (∀ y0 y1 y2 y3 y4 y5, LeO (cleanselaw45_SealSums.j0 k y0 y1 y2 y3 y4 y5) (cleanselaw45_SealSums.j0 (k + 1) y0 y1 y2 y3 y4 y5)) ∧ (∀ y0 y1 y2 y3 y4 y5 y6 y7, LeO (cleanselaw45_SealSums.l0 k y0 y1 y2 y3 y4 y5 y6 y7) (cleanselaw45_SealSums.l0 (k + 1) y0 y1 y2 y3 y4 y5 y6 y7)) ∧ (∀ y0 y1 y2 y3 y4 y5 y6 y7 y8, LeO (cleanselaw45_SealSums.j2 k y0 y1 y2 y3 y4 y5 y6 y7 y8) (cleanselaw45_SealSums.j2 (k + 1) y0 y1 y2 y3 y4 y5 y6 y7 y8))
  | 0 => ⟨fun _ _ _ _ _ _ r h => by simp [cleanselaw45_SealSums.j0] at h, fun _ _ _ _ _ _ _ _ r h => by simp [cleanselaw45_SealSums.l0] at h, fun _ _ _ _ _ _ _ _ _ r h => by simp [cleanselaw45_SealSums.j2] at h⟩
  | k + 1 => by
    obtain ⟨ih0, ih1, ih2⟩ := cleanselaw45_SealSums.mono_l k
    refine ⟨?_, ?_, ?_⟩
    · intro y0 y1 y2 y3 y4 y5
      unfold cleanselaw45_SealSums.j0
      repeat' first
      | (with_reducible exact ih0 _ _ _ _ _ _)
      | (with_reducible exact ih1 _ _ _ _ _ _ _ _)
      | (with_reducible exact ih2 _ _ _ _ _ _ _ _ _)
      | (with_reducible exact cleanselaw45_head.mono _)
      | (with_reducible exact seal_Sum.mono _ _)
      | (with_reducible exact LeO.refl _)
      | (with_reducible exact LeO.none _)
      | (with_reducible refine LeO.ite ?_ ?_)
      | (with_reducible refine LeO.bind ?_ (fun _ => ?_))
      | exact ih0 _ _ _ _ _ _
      | exact ih1 _ _ _ _ _ _ _ _
      | exact ih2 _ _ _ _ _ _ _ _ _
      | exact cleanselaw45_head.mono _
      | exact seal_Sum.mono _ _
      | exact LeO.none _
      | refine LeO.ite ?_ ?_
      | refine LeO.bind ?_ (fun _ => ?_)
    · intro y0 y1 y2 y3 y4 y5 y6 y7
      unfold cleanselaw45_SealSums.l0
      repeat' first
      | (with_reducible exact ih0 _ _ _ _ _ _)
      | (with_reducible exact ih1 _ _ _ _ _ _ _ _)
      | (with_reducible exact ih2 _ _ _ _ _ _ _ _ _)
      | (with_reducible exact cleanselaw45_head.mono _)
      | (with_reducible exact seal_Sum.mono _ _)
      | (with_reducible exact LeO.refl _)
      | (with_reducible exact LeO.none _)
      | (with_reducible refine LeO.ite ?_ ?_)
      | (with_reducible refine LeO.bind ?_ (fun _ => ?_))
      | exact ih0 _ _ _ _ _ _
      | exact ih1 _ _ _ _ _ _ _ _
      | exact ih2 _ _ _ _ _ _ _ _ _
      | exact cleanselaw45_head.mono _
      | exact seal_Sum.mono _ _
      | exact LeO.none _
      | refine LeO.ite ?_ ?_
      | refine LeO.bind ?_ (fun _ => ?_)
    · intro y0 y1 y2 y3 y4 y5 y6 y7 y8
      unfold cleanselaw45_SealSums.j2
      repeat' first
      | (with_reducible exact ih0 _ _ _ _ _ _)
      | (with_reducible exact ih1 _ _ _ _ _ _ _ _)
      | (with_reducible exact ih2 _ _ _ _ _ _ _ _ _)
      | (with_reducible exact cleanselaw45_head.mono _)
      | (with_reducible exact seal_Sum.mono _ _)
      | (with_reducible exact LeO.refl _)
      | (with_reducible exact LeO.none _)
      | (with_reducible refine LeO.ite ?_ ?_)
      | (with_reducible refine LeO.bind ?_ (fun _ => ?_))
      | exact ih0 _ _ _ _ _ _
      | exact ih1 _ _ _ _ _ _ _ _
      | exact ih2 _ _ _ _ _ _ _ _ _
      | exact cleanselaw45_head.mono _
      | exact seal_Sum.mono _ _
      | exact LeO.none _
      | refine LeO.ite ?_ ?_
      | refine LeO.bind ?_ (fun _ => ?_)
theorem cleanselaw45_SealSums.mono : ∀ a0 a1 a2 a3 k, LeO (cleanselaw45_SealSums.f k a0 a1 a2 a3) (cleanselaw45_SealSums.f (k + 1) a0 a1 a2 a3) := by
  intro a0 a1 a2 a3 k
  obtain ⟨ih0, ih1, ih2⟩ := cleanselaw45_SealSums.mono_l k
  unfold cleanselaw45_SealSums.f
  repeat' first
      | (with_reducible exact ih0 _ _ _ _ _ _)
      | (with_reducible exact ih1 _ _ _ _ _ _ _ _)
      | (with_reducible exact ih2 _ _ _ _ _ _ _ _ _)
      | (with_reducible exact cleanselaw45_head.mono _)
      | (with_reducible exact seal_Sum.mono _ _)
      | (with_reducible exact LeO.refl _)
      | (with_reducible exact LeO.none _)
      | (with_reducible refine LeO.ite ?_ ?_)
      | (with_reducible refine LeO.bind ?_ (fun _ => ?_))
      | exact ih0 _ _ _ _ _ _
      | exact ih1 _ _ _ _ _ _ _ _
      | exact ih2 _ _ _ _ _ _ _ _ _
      | exact cleanselaw45_head.mono _
      | exact seal_Sum.mono _ _
      | exact LeO.none _
      | refine LeO.ite ?_ ?_
      | refine LeO.bind ?_ (fun _ => ?_)
def cleanselaw45_SealSums.T5 : Bool × List (List Nat × List Nat) := (true, [([], []), ([], []), ([0, 1], [0, 1]), ([], []), ([3], [3]), ([4], [4]), ([2, 5], [2, 5]), ([], []), ([], []), ([8], [8]), ([7, 9], [7, 9]), ([6, 10], [6, 10]), ([11, 0, 1, 2, 3, 4, 5, 6, 7, 8, 9, 10, 11], [11])])
def cleanselaw45_SealSums.B5 : List Nat := [0, 0, 3, 0, 8, 24, 63, 0, 0, 256, 896, 2047, 4095]
theorem cleanselaw45_SealSums.tab5 : rtab .any (opsOf Tryd.f7 5) = cleanselaw45_SealSums.T5 := by kernel_rfl
theorem cleanselaw45_SealSums.bits5 : waitsOk cleanselaw45_SealSums.T5.2 cleanselaw45_SealSums.B5 = true := by kernel_rfl
set_option maxHeartbeats 8000000 in
set_option maxRecDepth 100000 in
theorem cleanselaw45_SealSums.calls (k : Nat) (a0 : ByteArray) (a1 : ByteArray) (a2 : Int) (a3 : Int) (r : Bool) (w : World) (hG : X.GT w) (h : cleanselaw45_SealSums.f k a0 a1 a2 a3 = some r) :
    Calls Tryd.prog 7 #[.string a0, .string a1, .int .u16 a2, .int .u8 a3] w fun e w' => e = .returned (.bool r) ∧ Below w.heap.size w w' := by
  have HB := Aside0.mk (Below.refl w.heap.size w)
  have HG := Aside0.mk hG
  clear hG
  have H : ((cleanselaw45_head.f k).bind fun t247 => (if (a0.size : Int) > 2000 then (cleanselaw45_SealSums.j0 k a0 a1 a2 a3 t247 true) else (if (a1.size : Int) > 2000 then (cleanselaw45_SealSums.j0 k a0 a1 a2 a3 t247 true) else (cleanselaw45_SealSums.j0 k a0 a1 a2 a3 t247 ((a0.size : Int) == 0))))) = some r := h
  clear h
  replace H := Option.bind_eq_some_iff.mp H
  obtain ⟨t247, A50, H⟩ := H
  replace H : (if (a0.size : Int) > 2000 then (cleanselaw45_SealSums.j0 k a0 a1 a2 a3 t247 true) else (if (a1.size : Int) > 2000 then (cleanselaw45_SealSums.j0 k a0 a1 a2 a3 t247 true) else (cleanselaw45_SealSums.j0 k a0 a1 a2 a3 t247 ((a0.size : Int) == 0)))) = some r := H
  have A5 := Aside0.mk A50
  clear A50
  have HC6 := Aside0.mk H
  clear H
  go_enter Tryd.func7, Tryd.ntmps7
  go_upto_region 2 with (first | ((with_reducible refine gate_callee (f := 9) rfl ?_); refine goesL_ (some 16) rfl rfl Tryd.func9 (by kernel_rfl) rfl #[] rfl (by (try simp only [List.map_toArray, List.map_cons, List.map_nil]); first | done | rfl | (simp only [List.length_drop, List.length_take]; rfl)) ?_; (with_reducible refine (cleanselaw45_head.calls k  t247 _ ?side1 A5.out).mono ?_); (case side1 => exact X.GT.below HG.out (by repeat (first | (with_reducible first | exact HB.out | apply below_alloc | apply pw_below_drewN | apply below_drew1) | exact HB.out))); rintro e w7 ⟨rfl, hb⟩; refine ⟨_, rfl, ?_⟩; have n0_ := Aside0.mk (below_step (by repeat (first | (with_reducible first | exact HB.out | apply below_alloc | apply pw_below_drewN | apply below_drew1) | exact HB.out)) hb); clear HB; have HB := n0_; clear n0_; (try clear hb); (try clear hb2); (try clear hk); (try clear hi)))
  (try simp only [Act.put, List.setIfInBounds_toArray, List.set_cons_zero, List.set_cons_succ])
  go_cut [29] (fun v29 wc => ∃ (kq : Nat) (x29_5 : Bool), v29 = .bool x29_5 ∧ Aside0 (cleanselaw45_SealSums.j0 kq a0 a1 a2 a3 t247 x29_5 = some r) ∧ Aside0 (kq ≤ k) ∧ Aside0 (Below w.heap.size w wc))
  case first =>
    have H := HC6.out
    clear HC6
    by_cases c8 : (a0.size : Int) > 2000
    · rw [if_pos c8] at H
      have c8b0 : decide (2000 < (a0.size : Int)) = true := decide_eq_true c8
      have c8b1 : decide (2000 < a0.size) = true := decide_eq_true (by omega)
      clear c8
      (first | rw [c8b0] | (simp only [i64_w, i32_w]; rw [c8b0]) | skip)
      have H' := Aside0.mk H
      clear H
      go_wp2
      go_meet
      case rel => exact ⟨_, (true), (by first | rfl | (simp; done) | (simp [*]; done)), H', ⟨by first | omega | exact Nat.le_refl _⟩, ⟨by repeat (first | (with_reducible first | exact HB.out | apply below_alloc | apply pw_below_drewN | apply below_drew1) | exact HB.out)⟩⟩
    · rw [if_neg c8] at H
      have c8b0 : decide (2000 < (a0.size : Int)) = false := decide_eq_false c8
      have c8b1 : decide (2000 < a0.size) = false := decide_eq_false (by omega)
      clear c8
      (first | rw [c8b0] | (simp only [i64_w, i32_w]; rw [c8b0]) | skip)
      by_cases c9 : (a1.size : Int) > 2000
      · rw [if_pos c9] at H
        have c9b0 : decide (2000 < (a1.size : Int)) = true := decide_eq_true c9
        have c9b1 : decide (2000 < a1.size) = true := decide_eq_true (by omega)
        clear c9
        have H' := Aside0.mk H
        clear H
        go_wp2
        go_meet
        case rel => exact ⟨_, (true), (by first | rfl | (simp; done) | (simp [*]; done)), H', ⟨by first | omega | exact Nat.le_refl _⟩, ⟨by repeat (first | (with_reducible first | exact HB.out | apply below_alloc | apply pw_below_drewN | apply below_drew1) | exact HB.out)⟩⟩
      · rw [if_neg c9] at H
        have c9b0 : decide (2000 < (a1.size : Int)) = false := decide_eq_false c9
        have c9b1 : decide (2000 < a1.size) = false := decide_eq_false (by omega)
        clear c9
        have H' := Aside0.mk H
        clear H
        go_wp2
        go_meet
        case rel => exact ⟨_, (((a0.size : Int) == 0)), (by first | rfl | (simp; done) | (simp [*]; done)), H', ⟨by first | omega | exact Nat.le_refl _⟩, ⟨by repeat (first | (with_reducible first | exact HB.out | apply below_alloc | apply pw_below_drewN | apply below_drew1) | exact HB.out)⟩⟩
  case rest =>
    clear HC6
    try clear p2
    try clear c7
    try clear c8
    try clear c8b0
    try clear c8b1
    try clear c9
    try clear c9b0
    try clear c9b1
    obtain ⟨kq, x29_5, rfl, HA, HJ5, HB⟩ := hcut
    cases kq with
    | zero => exact absurd HA.out (by simp [cleanselaw45_SealSums.j0])
    | succ kj5 =>
      have H := HA.out
      clear HA
      simp only [cleanselaw45_SealSums.j0] at H
      by_cases c10 : x29_5 = true
      · subst c10
        have H1 : (some t247) = some r := by rw [if_pos rfl] at H; exact H
        clear H
        have H := H1
        clear H1
        obtain rfl := Option.some.inj H
        go_wp2
        go_ret
        exact ⟨by first | rfl | (simp [errW_none, errW_some] <;> rfl) | (simp [*, errW_none, errW_some] <;> rfl), by repeat (first | (with_reducible first | exact HB.out | apply below_alloc | apply pw_below_drewN | apply below_drew1) | exact HB.out)⟩
      · replace c10 := Bool.eq_false_iff.mpr c10
        subst c10
        have H1 : (if (a0.size : Int) = 0 then (none) else (if 0 ≤ (Int.tmod (wrap64 (a2)) (a0.size : Int)) then (if (Int.tmod (wrap64 (a2)) (a0.size : Int)) ≤ (a0.size : Int) then ((some (([a3] : List Int) : List Int)).bind fun y248 => (if (a0.extract 0 ((Int.tmod (wrap64 (a2)) (a0.size : Int)) : Int).toNat).size + (strOfNums y248).size ≤ 9223372036854775807 then (if 0 ≤ (wrap64 ((Int.tmod (wrap64 (a2)) (a0.size : Int)) + 1)) then (if (wrap64 ((Int.tmod (wrap64 (a2)) (a0.size : Int)) + 1)) ≤ (a0.size : Int) then (if ((a0.extract 0 ((Int.tmod (wrap64 (a2)) (a0.size : Int)) : Int).toNat) ++ (strOfNums y248)).size + (a0.extract ((wrap64 ((Int.tmod (wrap64 (a2)) (a0.size : Int)) + 1)) : Int).toNat a0.size).size ≤ 9223372036854775807 then ((seal_Sum.f kj5 a0).bind fun t251 => ((seal_Sum.f kj5 (((a0.extract 0 ((Int.tmod (wrap64 (a2)) (a0.size : Int)) : Int).toNat) ++ (strOfNums y248)) ++ (a0.extract ((wrap64 ((Int.tmod (wrap64 (a2)) (a0.size : Int)) + 1)) : Int).toNat a0.size))).bind fun t252 => (cleanselaw45_SealSums.l0 kj5 a0 a1 t247 (((a0.extract 0 ((Int.tmod (wrap64 (a2)) (a0.size : Int)) : Int).toNat) ++ (strOfNums y248)) ++ (a0.extract ((wrap64 ((Int.tmod (wrap64 (a2)) (a0.size : Int)) + 1)) : Int).toNat a0.size)) t251 t252 0 0))) else (none)) else (none)) else (none)) else (none))) else (none)) else (none))) = some r := by rw [if_neg (show ¬ (false = true) by decide)] at H; exact H
        clear H
        have H := H1
        clear H1
        by_cases c11 : (a0.size : Int) = 0
        · rw [if_pos c11] at H
          exact absurd H (by simp)
        · rw [if_neg c11] at H
          have c11b0 : ((a0.size : Int) == 0) = false := beq_eq_false_iff_ne.mpr c11
          have c11b1 : ((a0.size : Int) != 0) = true := bne_iff_ne.mpr c11
          obtain ⟨ji12, hji12⟩ : ∃ j_ : Int, (Int.tmod (wrap64 (a2)) (a0.size : Int)) = j_ := ⟨_, rfl⟩
          replace H : (if 0 ≤ (ji12) then (if (ji12) ≤ (a0.size : Int) then ((some (([a3] : List Int) : List Int)).bind fun y248 => (if (a0.extract 0 ((ji12) : Int).toNat).size + (strOfNums y248).size ≤ 9223372036854775807 then (if 0 ≤ (wrap64 ((ji12) + 1)) then (if (wrap64 ((ji12) + 1)) ≤ (a0.size : Int) then (if ((a0.extract 0 ((ji12) : Int).toNat) ++ (strOfNums y248)).size + (a0.extract ((wrap64 ((ji12) + 1)) : Int).toNat a0.size).size ≤ 9223372036854775807 then ((seal_Sum.f kj5 a0).bind fun t251 => ((seal_Sum.f kj5 (((a0.extract 0 ((ji12) : Int).toNat) ++ (strOfNums y248)) ++ (a0.extract ((wrap64 ((ji12) + 1)) : Int).toNat a0.size))).bind fun t252 => (cleanselaw45_SealSums.l0 kj5 a0 a1 t247 (((a0.extract 0 ((ji12) : Int).toNat) ++ (strOfNums y248)) ++ (a0.extract ((wrap64 ((ji12) + 1)) : Int).toNat a0.size)) t251 t252 0 0))) else (none)) else (none)) else (none)) else (none))) else (none)) else (none)) = some r := by first | (rw [hji12] at H; exact H) | (simp only [hji12] at H ⊢; exact H)
          by_cases c13 : 0 ≤ (ji12)
          · rw [if_pos c13] at H
            have c13b0 := eq_true c13
            have c13b1 : decide (0 ≤ (ji12)) = true := decide_eq_true c13
            clear c13
            by_cases c14 : (ji12) ≤ (a0.size : Int)
            · rw [if_pos c14] at H
              have c14b0 := eq_true c14
              have c14b1 : decide ((ji12) ≤ (a0.size : Int)) = true := decide_eq_true c14
              clear c14
              obtain ⟨y248, hy248⟩ : ∃ y_ : List Int, y_ = (([a3] : List Int)) := ⟨_, rfl⟩
              replace H : (if (a0.extract 0 ((ji12) : Int).toNat).size + (strOfNums y248).size ≤ 9223372036854775807 then (if 0 ≤ (wrap64 ((ji12) + 1)) then (if (wrap64 ((ji12) + 1)) ≤ (a0.size : Int) then (if ((a0.extract 0 ((ji12) : Int).toNat) ++ (strOfNums y248)).size + (a0.extract ((wrap64 ((ji12) + 1)) : Int).toNat a0.size).size ≤ 9223372036854775807 then ((seal_Sum.f kj5 a0).bind fun t251 => ((seal_Sum.f kj5 (((a0.extract 0 ((ji12) : Int).toNat) ++ (strOfNums y248)) ++ (a0.extract ((wrap64 ((ji12) + 1)) : Int).toNat a0.size))).bind fun t252 => (cleanselaw45_SealSums.l0 kj5 a0 a1 t247 (((a0.extract 0 ((ji12) : Int).toNat) ++ (strOfNums y248)) ++ (a0.extract ((wrap64 ((ji12) + 1)) : Int).toNat a0.size)) t251 t252 0 0))) else (none)) else (none)) else (none)) else (none)) = some r := by first | (rw [hy248]; with_reducible exact H) | (have H2_ := (Option.bind_some _ _).symm.trans H; rw [hy248]; with_reducible exact H2_) | (have H2_ := (Option.bind_some _ _).symm.trans H; with_reducible exact H2_) | with_reducible exact H | (rw [hy248]; exact H) | exact H
              have Ny248 := Aside0.mk hy248
              clear hy248
              by_cases c15 : (a0.extract 0 ((ji12) : Int).toNat).size + (strOfNums y248).size ≤ 9223372036854775807
              · rw [if_pos c15] at H
                have c15b0 := eq_true c15
                have c15b1 : decide ((a0.extract 0 ((ji12) : Int).toNat).size + (strOfNums y248).size ≤ 9223372036854775807) = true := decide_eq_true c15
                try have c15b2 : (9223372036854775807 < (a0.extract 0 ((ji12) : Int).toNat).size + (strOfNums y248).size) = False := eq_false (Nat.not_lt.2 c15)
                try have c15b3 : (9223372036854775807 < ji12.toNat + (strOfNums y248).size) = False := eq_false (by (have h_ := of_eq_false c15b2; simp only [ByteArray.size_append, ByteArray.size_extract] at h_; have e0_ : ji12 ≤ (a0.size : Int) := of_eq_true (by assumption); omega))
                obtain ⟨ji16, hji16⟩ : ∃ j_ : Int, (wrap64 ((ji12) + 1)) = j_ := ⟨_, rfl⟩
                replace H : (if 0 ≤ (ji16) then (if (ji16) ≤ (a0.size : Int) then (if ((a0.extract 0 ((ji12) : Int).toNat) ++ (strOfNums y248)).size + (a0.extract ((ji16) : Int).toNat a0.size).size ≤ 9223372036854775807 then ((seal_Sum.f kj5 a0).bind fun t251 => ((seal_Sum.f kj5 (((a0.extract 0 ((ji12) : Int).toNat) ++ (strOfNums y248)) ++ (a0.extract ((ji16) : Int).toNat a0.size))).bind fun t252 => (cleanselaw45_SealSums.l0 kj5 a0 a1 t247 (((a0.extract 0 ((ji12) : Int).toNat) ++ (strOfNums y248)) ++ (a0.extract ((ji16) : Int).toNat a0.size)) t251 t252 0 0))) else (none)) else (none)) else (none)) = some r := by first | (rw [hji16] at H; exact H) | (simp only [hji16] at H ⊢; exact H)
                have hji16w : (IntKind.i64.wrap ((ji12) + 1)) = ji16 := (i64_w _).trans hji16
                by_cases c17 : 0 ≤ (ji16)
                · rw [if_pos c17] at H
                  have c17b0 := eq_true c17
                  have c17b1 : decide (0 ≤ (ji16)) = true := decide_eq_true c17
                  clear c17
                  by_cases c18 : (ji16) ≤ (a0.size : Int)
                  · rw [if_pos c18] at H
                    have c18b0 := eq_true c18
                    have c18b1 : decide ((ji16) ≤ (a0.size : Int)) = true := decide_eq_true c18
                    clear c18
                    by_cases c19 : ((a0.extract 0 ((ji12) : Int).toNat) ++ (strOfNums y248)).size + (a0.extract ((ji16) : Int).toNat a0.size).size ≤ 9223372036854775807
                    · rw [if_pos c19] at H
                      have c19b0 := eq_true c19
                      have c19b1 : decide (((a0.extract 0 ((ji12) : Int).toNat) ++ (strOfNums y248)).size + (a0.extract ((ji16) : Int).toNat a0.size).size ≤ 9223372036854775807) = true := decide_eq_true c19
                      try have c19b2 : (9223372036854775807 < ((a0.extract 0 ((ji12) : Int).toNat) ++ (strOfNums y248)).size + (a0.extract ((ji16) : Int).toNat a0.size).size) = False := eq_false (Nat.not_lt.2 c19)
                      try have c19b3 : (9223372036854775807 < ji12.toNat + (strOfNums y248).size + (a0.size - ji16.toNat)) = False := eq_false (by (have h_ := of_eq_false c19b2; simp only [ByteArray.size_append, ByteArray.size_extract] at h_; have e0_ : ji12 ≤ (a0.size : Int) := of_eq_true (by assumption); have e1_ : ji16 ≤ (a0.size : Int) := of_eq_true (by assumption); omega))
                      replace H := Option.bind_eq_some_iff.mp H
                      obtain ⟨t251, A200, H⟩ := H
                      replace H : ((seal_Sum.f kj5 (((a0.extract 0 ((ji12) : Int).toNat) ++ (strOfNums y248)) ++ (a0.extract ((ji16) : Int).toNat a0.size))).bind fun t252 => (cleanselaw45_SealSums.l0 kj5 a0 a1 t247 (((a0.extract 0 ((ji12) : Int).toNat) ++ (strOfNums y248)) ++ (a0.extract ((ji16) : Int).toNat a0.size)) t251 t252 0 0)) = some r := H
                      have A20 := Aside0.mk A200
                      clear A200
                      replace H := Option.bind_eq_some_iff.mp H
                      obtain ⟨t252, A210, H⟩ := H
                      replace H : (cleanselaw45_SealSums.l0 kj5 a0 a1 t247 (((a0.extract 0 ((ji12) : Int).toNat) ++ (strOfNums y248)) ++ (a0.extract ((ji16) : Int).toNat a0.size)) t251 t252 0 0) = some r := H
                      have A21 := Aside0.mk A210
                      clear A210
                      have H' := Aside0.mk H
                      clear H
                      try go_wp2
                      have n0_ := Aside0.mk (below_drew1 HB.out)
                      clear HB
                      have HB := n0_
                      clear n0_
                      refine start_ (n := 13) (S := fun w' => True) (ds := []) #[false, false, false, false, false, false, false, false, false, false, false, false, false] (by kernel_rfl) rfl rfl trivial (fun hHeld => ?_); refine with_tabW cleanselaw45_SealSums.tab5 cleanselaw45_SealSums.bits5 (fun HT_ HW_ => ?_)
                      generalize wc.drew = w22 at HB hHeld ⊢
                      refine pure_ (i := 0) (N := some 36) (v := ?_) (a' := ?_) #[true, false, false, false, false, false, false, false, false, false, false, false, false] rfl rfl (any_of HT_.out (by kernel_rfl)) (fun _ _ _ h => h) (Or.inl ⟨by rfl, ?_⟩) ?_ ?_
                      rotate_left
                      · intro w'
                        go_simp
                        with_reducible rfl
                      rotate_left
                      · simp only [Act.put, List.setIfInBounds_toArray, List.set_cons_zero, List.set_cons_succ, i64_w, i32_w]
                        rfl
                      refine pure_ (i := 1) (N := some 37) (v := ?_) (a' := ?_) #[true, true, false, false, false, false, false, false, false, false, false, false, false] rfl rfl (any_of HT_.out (by kernel_rfl)) (fun _ _ _ h => h) (Or.inl ⟨by rfl, ?_⟩) ?_ ?_
                      rotate_left
                      · intro w'
                        go_simp
                        with_reducible rfl
                      rotate_left
                      · simp only [Act.put, List.setIfInBounds_toArray, List.set_cons_zero, List.set_cons_succ, i64_w, i32_w]
                        rfl
                      refine pure_ (i := 2) (N := some 38) (v := ?_) (a' := ?_) #[true, true, true, false, false, false, false, false, false, false, false, false, false] rfl rfl (any_of HT_.out (by kernel_rfl)) (fun _ _ _ h => h) (Or.inl ⟨by rfl, ?_⟩) ?_ ?_
                      rotate_left
                      · intro w'
                        go_simp
                        with_reducible rfl
                      rotate_left
                      · simp only [Act.put, List.setIfInBounds_toArray, List.set_cons_zero, List.set_cons_succ, i64_w, i32_w]
                        rfl
                      refine pure_ (i := 3) (N := some 39) (v := ?_) (a' := ?_) #[true, true, true, true, false, false, false, false, false, false, false, false, false] rfl rfl (any_of HT_.out (by kernel_rfl)) (fun _ _ _ h => h) (Or.inl ⟨by rfl, ?_⟩) ?_ ?_
                      rotate_left
                      · intro w'
                        go_simp
                        with_reducible rfl
                      rotate_left
                      · simp only [Act.put, List.setIfInBounds_toArray, List.set_cons_zero, List.set_cons_succ, i64_w, i32_w]
                        rfl
                      refine pure_ (i := 7) (N := some 43) (v := ?_) (a' := ?_) #[true, true, true, true, false, false, false, true, false, false, false, false, false] rfl rfl (any_of HT_.out (by kernel_rfl)) (fun _ _ _ h => h) (Or.inl ⟨by rfl, ?_⟩) ?_ ?_
                      rotate_left
                      · intro w'
                        go_simp
                        with_reducible rfl
                      rotate_left
                      · simp only [Act.put, List.setIfInBounds_toArray, List.set_cons_zero, List.set_cons_succ, i64_w, i32_w]
                        rfl
                      refine pure_ (i := 8) (N := some 44) (v := ?_) (a' := ?_) #[true, true, true, true, false, false, false, true, true, false, false, false, false] rfl rfl (any_of HT_.out (by kernel_rfl)) (fun _ _ _ h => h) (Or.inl ⟨by rfl, ?_⟩) ?_ ?_
                      rotate_left
                      · intro w'
                        go_simp
                        with_reducible rfl
                      rotate_left
                      · simp only [Act.put, List.setIfInBounds_toArray, List.set_cons_zero, List.set_cons_succ, i64_w, i32_w]
                        rfl
                      refine pure_ (i := 9) (N := some 45) (v := ?_) (a' := ?_) #[true, true, true, true, false, false, false, true, true, true, false, false, false] rfl rfl (any_of HT_.out (by kernel_rfl)) (fun _ _ _ h => h) (Or.inl ⟨by rfl, ?_⟩) ?_ ?_
                      rotate_left
                      · intro w'
                        go_simp
                        with_reducible rfl
                      rotate_left
                      · simp only [Act.put, List.setIfInBounds_toArray, List.set_cons_zero, List.set_cons_succ, i64_w, i32_w]
                        rfl
                      refine pure_ (i := 10) (N := some 46) (v := ?_) (a' := ?_) #[true, true, true, true, false, false, false, true, true, true, true, false, false] rfl rfl (any_of HT_.out (by kernel_rfl)) (fun _ _ _ h => h) (Or.inl ⟨by rfl, ?_⟩) ?_ ?_
                      rotate_left
                      · intro w'
                        go_simp
                        with_reducible rfl
                      rotate_left
                      · simp only [Act.put, List.setIfInBounds_toArray, List.set_cons_zero, List.set_cons_succ, i64_w, i32_w]
                        rfl
                      refine one_ (i := 4) (N := some 40) #[true, true, true, true, true, false, false, true, true, true, true, false, false] rfl rfl (one_of HT_.out (by kernel_rfl)) (by decide) (fun K hK => ?_)
                      refine Kd.R_lit_step (Kd.int .u8) _ 5 ?hg (N := 40) ?hd (xs := ([a3] : List Int)) (inner := [.int .u8 a3]) (ok := fun _ => True) (okp := fun _ => True) ?hr ?hp (fun _ hk => hk) trivial (Below.refl _ _) (Nat.le_refl _) (by simp) ?_; (case hd => rfl); (case hg => rfl); (case hr => first | (go_simp; done) | (go_simp; rfl)); (case hp => exact (Reps.one (show Kd.M (Kd.int .u8) _ _ _ a3 [.int .u8 a3] from rfl) (Reps.none _ _)))
                      intro v249 w23 ho24 hb hg_ hnew_
                      clear hg_ hnew_
                      (first | rw [← Ny248.out] at ho24 | (simp only [Int.reduceToNat] at ho24; rw [← Ny248.out] at ho24))
                      have n0_ := Aside0.mk (Kd.R_lower ho24 (below_size (by repeat (first | (with_reducible first | exact HB.out | apply below_alloc | apply pw_below_drewN | apply below_drew1) | exact HB.out))))
                      have n1_ := Aside0.mk (below_step (by repeat (first | (with_reducible first | exact HB.out | apply below_alloc | apply pw_below_drewN | apply below_drew1) | exact HB.out)) hb)
                      clear HB
                      have HO250 := n0_
                      have HB := n1_
                      clear n0_ n1_
                      clear hb ho24
                      refine hK.out _ _ trivial (fun hHeld => ?_)
                      clear hK K
                      refine norm_ (a' := ?_) ?_ ?_
                      rotate_left
                      · show Act.put _ (some 40) _ = _
                        simp only [Act.put, List.setIfInBounds_toArray, List.set_cons_zero, List.set_cons_succ, i64_w, i32_w]
                        rfl
                      refine one_ (i := 5) (N := some 41) #[true, true, true, true, true, true, false, true, true, true, true, false, false] rfl rfl (one_of HT_.out (by kernel_rfl)) (by decide) (fun K hK => ?_)
                      have hcv25 := own_string (P := Tryd.prog) Tryd.underlying35 Tryd.underlying5 Tryd.underlying9 (Kd.own_of_R HO250.out)
                      refine value_ (w1 := ?_) (v := ?_) (by rfl) rfl ?_ ?_
                      rotate_left 2
                      · go_simp
                        constructor
                        · rfl
                        · rfl
                      clear hcv25
                      refine hK.out _ _ trivial (fun hHeld => ?_)
                      clear hK K
                      refine norm_ (a' := ?_) ?_ ?_
                      rotate_left
                      · show Act.put _ (some 41) _ = _
                        simp only [Act.put, List.setIfInBounds_toArray, List.set_cons_zero, List.set_cons_succ, i64_w, i32_w]
                        rfl
                      refine pure_ (i := 6) (N := some 42) (v := ?_) (a' := ?_) #[true, true, true, true, true, true, true, true, true, true, true, false, false] rfl rfl (any_of HT_.out (by kernel_rfl)) (fun _ _ _ h => h) (Or.inl ⟨by rfl, ?_⟩) ?_ ?_
                      rotate_left
                      · intro w'
                        go_simp
                        with_reducible rfl
                      rotate_left
                      · simp only [Act.put, List.setIfInBounds_toArray, List.set_cons_zero, List.set_cons_succ, i64_w, i32_w]
                        rfl
                      refine pure_ (i := 11) (N := some 47) (v := ?_) (a' := ?_) #[true, true, true, true, true, true, true, true, true, true, true, true, false] rfl rfl (any_of HT_.out (by kernel_rfl)) (fun _ _ _ h => h) (Or.inl ⟨by rfl, ?_⟩) ?_ ?_
                      rotate_left
                      · intro w'
                        go_simp
                        with_reducible rfl
                      rotate_left
                      · simp only [Act.put, List.setIfInBounds_toArray, List.set_cons_zero, List.set_cons_succ, i64_w, i32_w]
                        rfl
                      refine pure_ (i := 12) (N := some 11) (v := ?_) (a' := ?_) #[true, true, true, true, true, true, true, true, true, true, true, true, true] rfl rfl (any_of HT_.out (by kernel_rfl)) (fun _ _ _ h => h) (Or.inl ⟨by rfl, ?_⟩) ?_ ?_
                      rotate_left
                      · intro w'
                        go_simp
                        with_reducible rfl
                      rotate_left
                      · simp only [Act.put, List.setIfInBounds_toArray, List.set_cons_zero, List.set_cons_succ, i64_w, i32_w]
                        rfl
                      refine done_ (done_of HT_.out (by kernel_rfl)) ?_
                      try go_wp2_with (first | ((with_reducible refine gate_callee (f := 17) rfl ?_); refine goesL_ (some 49) rfl rfl Tryd.func17 (by kernel_rfl) rfl #[.string a0] rfl (by (try simp only [List.map_toArray, List.map_cons, List.map_nil]); first | done | rfl | (simp only [List.length_drop, List.length_take]; rfl)) ?_; (with_reducible refine (seal_Sum.calls kj5 a0 t251 _ A20.out).mono ?_); rintro e w' ⟨rfl, ⟨nd, rfl⟩⟩; refine ⟨_, rfl, ?_⟩) | ((with_reducible refine gate_callee (f := 17) rfl ?_); refine goesL_ (some 51) rfl rfl Tryd.func17 (by kernel_rfl) rfl #[.string (((a0.extract 0 ((ji12) : Int).toNat) ++ (strOfNums y248)) ++ (a0.extract ((ji16) : Int).toNat a0.size))] rfl (by (try simp only [List.map_toArray, List.map_cons, List.map_nil]); first | done | (simp only [hji12, hji16]; rfl) | rfl | (simp only [List.length_drop, List.length_take]; rfl)) ?_; (with_reducible refine (seal_Sum.calls kj5 (((a0.extract 0 ((ji12) : Int).toNat) ++ (strOfNums y248)) ++ (a0.extract ((ji16) : Int).toNat a0.size)) t252 _ A21.out).mono ?_); rintro e w' ⟨rfl, ⟨nd, rfl⟩⟩; refine ⟨_, rfl, ?_⟩))
                      go_loopg [14, 15] kj5 (fun kq v14 v15 w' => ∃ (x14_2 : Int) (x15_2 : Int), v14 = .int .i64 x14_2 ∧ v15 = .int .i64 x15_2 ∧ Aside0 (cleanselaw45_SealSums.l0 kq a0 a1 t247 (((a0.extract 0 ((ji12) : Int).toNat) ++ (strOfNums y248)) ++ (a0.extract ((ji16) : Int).toNat a0.size)) t251 t252 x14_2 x15_2 = some r) ∧ Aside0 (kq ≤ kj5) ∧ Aside0 (Below w.heap.size w w'))
                      case atStart => exact ⟨(0), (0), (by first | rfl | (simp; done) | (simp [*]; done)), (by first | rfl | (simp; done) | (simp [*]; done)), H', ⟨Nat.le_refl _⟩, ⟨by repeat (first | (with_reducible first | exact HB.out | apply below_alloc | apply pw_below_drewN | apply below_drew1) | exact HB.out)⟩⟩
                      case round =>
                        clear H'
                        try clear c1
                        try clear p2
                        try clear hcv2
                        try clear p6
                        try clear c7
                        try clear c8
                        try clear c8b0
                        try clear c8b1
                        try clear c9
                        try clear c9b0
                        try clear c9b1
                        try clear c10
                        try clear c11
                        try clear c11b0
                        try clear c11b1
                        try clear c13
                        try clear c13b0
                        try clear c13b1
                        try clear c14
                        try clear c14b0
                        try clear c14b1
                        try clear c15
                        try clear c15b0
                        try clear c15b1
                        try clear c15b2
                        try clear c17
                        try clear c17b0
                        try clear c17b1
                        try clear c18
                        try clear c18b0
                        try clear c18b1
                        try clear c19
                        try clear c19b0
                        try clear c19b1
                        try clear c19b2
                        try clear hcv25
                        try clear p2
                        obtain ⟨x14_2, x15_2, rfl, rfl, HA, HK2, HB⟩ := hrel
                        cases gk with
                        | zero => exact absurd HA.out (by simp [cleanselaw45_SealSums.l0])
                        | succ k2 =>
                          have H := HA.out
                          clear HA
                          simp only [cleanselaw45_SealSums.l0] at H
                          have HC26 := Aside0.mk H
                          clear H
                          go_upto_region 9 with (fail)
                          go_cut [62] (fun v62 wc => ∃ (kq : Nat) (x62_25 : Bool), v62 = .bool x62_25 ∧ Aside0 (cleanselaw45_SealSums.j2 kq a0 a1 t247 (((a0.extract 0 ((ji12) : Int).toNat) ++ (strOfNums y248)) ++ (a0.extract ((ji16) : Int).toNat a0.size)) t251 t252 x14_2 x15_2 x62_25 = some r) ∧ Aside0 (kq ≤ k2) ∧ Aside0 (Below w.heap.size w wc))
                          case first =>
                            have H := HC26.out
                            clear HC26
                            by_cases c27 : x15_2 < (a0.size : Int)
                            · rw [if_pos c27] at H
                              have c27b0 : decide (x15_2 < (a0.size : Int)) = true := decide_eq_true c27
                              clear c27
                              (first | rw [c27b0] | (simp only [i64_w, i32_w]; rw [c27b0]) | skip)
                              have H' := Aside0.mk H
                              clear H
                              go_wp2
                              go_meet
                              case rel => exact ⟨_, (((a0.size : Int) == (a1.size : Int))), (by first | rfl | (simp; done) | (simp [*]; done)), H', ⟨by have := HJ5.out; have := HK2.out; first | omega | exact Nat.le_refl _⟩, ⟨by repeat (first | (with_reducible first | exact HB.out | apply below_alloc | apply pw_below_drewN | apply below_drew1) | exact HB.out)⟩⟩
                            · rw [if_neg c27] at H
                              have c27b0 : decide (x15_2 < (a0.size : Int)) = false := decide_eq_false c27
                              clear c27
                              (first | rw [c27b0] | (simp only [i64_w, i32_w]; rw [c27b0]) | skip)
                              have H' := Aside0.mk H
                              clear H
                              go_wp2
                              go_meet
                              case rel => exact ⟨_, (false), (by first | rfl | (simp; done) | (simp [*]; done)), H', ⟨by have := HJ5.out; have := HK2.out; first | omega | exact Nat.le_refl _⟩, ⟨by repeat (first | (with_reducible first | exact HB.out | apply below_alloc | apply pw_below_drewN | apply below_drew1) | exact HB.out)⟩⟩
                          case rest =>
                            clear HC26
                            try clear c1
                            try clear c2
                            try clear p2
                            try clear hcv2
                            try clear p6
                            try clear c7
                            try clear c8
                            try clear c8b0
                            try clear c8b1
                            try clear c9
                            try clear c9b0
                            try clear c9b1
                            try clear c10
                            try clear c11
                            try clear c11b0
                            try clear c11b1
                            try clear c13
                            try clear c13b0
                            try clear c13b1
                            try clear c14
                            try clear c14b0
                            try clear c14b1
                            try clear c15
                            try clear c15b0
                            try clear c15b1
                            try clear c15b2
                            try clear c17
                            try clear c17b0
                            try clear c17b1
                            try clear c18
                            try clear c18b0
                            try clear c18b1
                            try clear c19
                            try clear c19b0
                            try clear c19b1
                            try clear c19b2
                            try clear hcv25
                            try clear c27
                            try clear c27b0
                            try clear p2
                            try clear p6
                            obtain ⟨kq, x62_25, rfl, HA, HJ25, HB⟩ := hcut
                            cases kq with
                            | zero => exact absurd HA.out (by simp [cleanselaw45_SealSums.j2])
                            | succ kj25 =>
                              have H := HA.out
                              clear HA
                              simp only [cleanselaw45_SealSums.j2] at H
                              by_cases c28 : x62_25 = true
                              · subst c28
                                have H1 : (if 0 ≤ x15_2 then (if x15_2 < (a0.size : Int) then (if x15_2 < (a1.size : Int) then (if (bt a0 x15_2) = (bt a1 x15_2) then (cleanselaw45_SealSums.l0 kj25 a0 a1 t247 (((a0.extract 0 ((ji12) : Int).toNat) ++ (strOfNums y248)) ++ (a0.extract ((ji16) : Int).toNat a0.size)) t251 t252 x14_2 (wrap64 (x15_2 + 1))) else (cleanselaw45_SealSums.l0 kj25 a0 a1 t247 (((a0.extract 0 ((ji12) : Int).toNat) ++ (strOfNums y248)) ++ (a0.extract ((ji16) : Int).toNat a0.size)) t251 t252 (wrap64 (x14_2 + 1)) (wrap64 (x15_2 + 1)))) else (none)) else (none)) else (none)) = some r := by rw [if_pos rfl] at H; exact H
                                clear H
                                have H := H1
                                clear H1
                                by_cases c29 : 0 ≤ x15_2
                                · rw [if_pos c29] at H
                                  have c29b0 : decide (0 ≤ x15_2) = true := decide_eq_true c29
                                  clear c29
                                  by_cases c30 : x15_2 < (a0.size : Int)
                                  · rw [if_pos c30] at H
                                    have c30b0 : decide (x15_2 < (a0.size : Int)) = true := decide_eq_true c30
                                    clear c30
                                    by_cases c32 : x15_2 < (a1.size : Int)
                                    · rw [if_pos c32] at H
                                      have c32b0 : decide (x15_2 < (a1.size : Int)) = true := decide_eq_true c32
                                      clear c32
                                      by_cases c34 : (bt a0 x15_2) = (bt a1 x15_2)
                                      · rw [if_pos c34] at H
                                        have c34b0 : ((bt a0 x15_2) == (bt a1 x15_2)) = true := beq_iff_eq.mpr c34
                                        have c34b1 : ((bt a0 x15_2) != (bt a1 x15_2)) = false := bne_eq_false_iff_eq.mpr c34
                                        clear c34
                                        have H' := Aside0.mk H
                                        clear H
                                        try go_wp2
                                        have n0_ := Aside0.mk (below_drew1 HB.out)
                                        clear HB
                                        have HB := n0_
                                        clear n0_
                                        have p31 : 0 ≤ (x15_2 : Int) := of_decide_eq_true (by first | (with_reducible assumption) | assumption)
                                        have q31 : x15_2 < (a0.size : Int) := of_decide_eq_true (by first | (with_reducible assumption) | assumption)
                                        have hx31 := bt_at a0 x15_2
                                        replace p31 := eq_true p31
                                        replace q31 := eq_true q31
                                        have p33 : 0 ≤ (x15_2 : Int) := of_decide_eq_true (by first | (with_reducible assumption) | assumption)
                                        have q33 : x15_2 < (a1.size : Int) := of_decide_eq_true (by first | (with_reducible assumption) | assumption)
                                        have hx33 := bt_at a1 x15_2
                                        replace p33 := eq_true p33
                                        replace q33 := eq_true q33
                                        refine start_ (n := 7) (S := fun w' => True) (ds := []) #[false, false, false, false, false, false, false] (by kernel_rfl) rfl rfl trivial (fun hHeld => ?_)
                                        generalize wc.drew = w35 at HB hHeld ⊢
                                        refine pure_ (i := 0) (N := some 65) (v := ?_) (a' := ?_) #[true, false, false, false, false, false, false] rfl rfl (by kernel_rfl) (fun _ _ _ h => h) (Or.inl ⟨by rfl, ?_⟩) ?_ ?_
                                        rotate_left
                                        · intro w'
                                          go_simp
                                          with_reducible rfl
                                        rotate_left
                                        · simp only [Act.put, List.setIfInBounds_toArray, List.set_cons_zero, List.set_cons_succ, i64_w, i32_w]
                                          rfl
                                        refine pure_ (i := 1) (N := some 66) (v := ?_) (a' := ?_) #[true, true, false, false, false, false, false] rfl rfl (by kernel_rfl) (fun _ _ _ h => h) (Or.inl ⟨by rfl, ?_⟩) ?_ ?_
                                        rotate_left
                                        · intro w'
                                          go_simp
                                          with_reducible rfl
                                        rotate_left
                                        · simp only [Act.put, List.setIfInBounds_toArray, List.set_cons_zero, List.set_cons_succ, i64_w, i32_w]
                                          rfl
                                        refine pure_ (i := 3) (N := some 68) (v := ?_) (a' := ?_) #[true, true, false, true, false, false, false] rfl rfl (by kernel_rfl) (fun _ _ _ h => h) (Or.inl ⟨by rfl, ?_⟩) ?_ ?_
                                        rotate_left
                                        · intro w'
                                          go_simp
                                          with_reducible rfl
                                        rotate_left
                                        · simp only [Act.put, List.setIfInBounds_toArray, List.set_cons_zero, List.set_cons_succ, i64_w, i32_w]
                                          rfl
                                        refine pure_ (i := 4) (N := some 69) (v := ?_) (a' := ?_) #[true, true, false, true, true, false, false] rfl rfl (by kernel_rfl) (fun _ _ _ h => h) (Or.inl ⟨by rfl, ?_⟩) ?_ ?_
                                        rotate_left
                                        · intro w'
                                          go_simp
                                          with_reducible rfl
                                        rotate_left
                                        · simp only [Act.put, List.setIfInBounds_toArray, List.set_cons_zero, List.set_cons_succ, i64_w, i32_w]
                                          rfl
                                        refine take_ (i := 2) (N := some 67) (v := ?_) (a' := ?_) #[true, true, true, true, true, false, false] rfl rfl (by kernel_rfl) (fun _ _ _ h => h) (Or.inl ⟨by rfl, ?_⟩) hHeld ?_ ?_
                                        rotate_left
                                        · intro w' _
                                          go_simp
                                          with_reducible rfl
                                        rotate_left
                                        · simp only [Act.put, List.setIfInBounds_toArray, List.set_cons_zero, List.set_cons_succ, i64_w, i32_w]
                                          rfl
                                        refine take_ (i := 5) (N := some 70) (v := ?_) (a' := ?_) #[true, true, true, true, true, true, false] rfl rfl (by kernel_rfl) (fun _ _ _ h => h) (Or.inl ⟨by rfl, ?_⟩) hHeld ?_ ?_
                                        rotate_left
                                        · intro w' _
                                          go_simp
                                          with_reducible rfl
                                        rotate_left
                                        · simp only [Act.put, List.setIfInBounds_toArray, List.set_cons_zero, List.set_cons_succ, i64_w, i32_w]
                                          rfl
                                        refine pure_ (i := 6) (N := some 71) (v := ?_) (a' := ?_) #[true, true, true, true, true, true, true] rfl rfl (by kernel_rfl) (fun _ _ _ h => h) (Or.inl ⟨by rfl, ?_⟩) ?_ ?_
                                        rotate_left
                                        · intro w'
                                          go_simp
                                          with_reducible rfl
                                        rotate_left
                                        · simp only [Act.put, List.setIfInBounds_toArray, List.set_cons_zero, List.set_cons_succ, i64_w, i32_w]
                                          rfl
                                        refine done_ (by kernel_rfl) ?_
                                        try go_wp2
                                        go_roundg kj25
                                        case measure => have := HJ5.out; have := HK2.out; have := HJ25.out; omega
                                        case rel => exact ⟨(x14_2), (wrap64 (x15_2 + 1)), (by first | rfl | (simp; done) | (simp [*]; done)), (by first | rfl | (simp; done) | (simp [*]; done)), H', ⟨by have := HJ5.out; have := HK2.out; have := HJ25.out; omega⟩, ⟨by repeat (first | (with_reducible first | exact HB.out | apply below_alloc | apply pw_below_drewN | apply below_drew1) | exact HB.out)⟩⟩
                                      · rw [if_neg c34] at H
                                        have c34b0 : ((bt a0 x15_2) == (bt a1 x15_2)) = false := beq_eq_false_iff_ne.mpr c34
                                        have c34b1 : ((bt a0 x15_2) != (bt a1 x15_2)) = true := bne_iff_ne.mpr c34
                                        have H' := Aside0.mk H
                                        clear H
                                        try go_wp2
                                        have n0_ := Aside0.mk (below_drew1 HB.out)
                                        clear HB
                                        have HB := n0_
                                        clear n0_
                                        have p31 : 0 ≤ (x15_2 : Int) := of_decide_eq_true (by first | (with_reducible assumption) | assumption)
                                        have q31 : x15_2 < (a0.size : Int) := of_decide_eq_true (by first | (with_reducible assumption) | assumption)
                                        have hx31 := bt_at a0 x15_2
                                        replace p31 := eq_true p31
                                        replace q31 := eq_true q31
                                        have p33 : 0 ≤ (x15_2 : Int) := of_decide_eq_true (by first | (with_reducible assumption) | assumption)
                                        have q33 : x15_2 < (a1.size : Int) := of_decide_eq_true (by first | (with_reducible assumption) | assumption)
                                        have hx33 := bt_at a1 x15_2
                                        replace p33 := eq_true p33
                                        replace q33 := eq_true q33
                                        refine start_ (n := 7) (S := fun w' => True) (ds := []) #[false, false, false, false, false, false, false] (by kernel_rfl) rfl rfl trivial (fun hHeld => ?_)
                                        generalize wc.drew = w36 at HB hHeld ⊢
                                        refine pure_ (i := 0) (N := some 65) (v := ?_) (a' := ?_) #[true, false, false, false, false, false, false] rfl rfl (by kernel_rfl) (fun _ _ _ h => h) (Or.inl ⟨by rfl, ?_⟩) ?_ ?_
                                        rotate_left
                                        · intro w'
                                          go_simp
                                          with_reducible rfl
                                        rotate_left
                                        · simp only [Act.put, List.setIfInBounds_toArray, List.set_cons_zero, List.set_cons_succ, i64_w, i32_w]
                                          rfl
                                        refine pure_ (i := 1) (N := some 66) (v := ?_) (a' := ?_) #[true, true, false, false, false, false, false] rfl rfl (by kernel_rfl) (fun _ _ _ h => h) (Or.inl ⟨by rfl, ?_⟩) ?_ ?_
                                        rotate_left
                                        · intro w'
                                          go_simp
                                          with_reducible rfl
                                        rotate_left
                                        · simp only [Act.put, List.setIfInBounds_toArray, List.set_cons_zero, List.set_cons_succ, i64_w, i32_w]
                                          rfl
                                        refine pure_ (i := 3) (N := some 68) (v := ?_) (a' := ?_) #[true, true, false, true, false, false, false] rfl rfl (by kernel_rfl) (fun _ _ _ h => h) (Or.inl ⟨by rfl, ?_⟩) ?_ ?_
                                        rotate_left
                                        · intro w'
                                          go_simp
                                          with_reducible rfl
                                        rotate_left
                                        · simp only [Act.put, List.setIfInBounds_toArray, List.set_cons_zero, List.set_cons_succ, i64_w, i32_w]
                                          rfl
                                        refine pure_ (i := 4) (N := some 69) (v := ?_) (a' := ?_) #[true, true, false, true, true, false, false] rfl rfl (by kernel_rfl) (fun _ _ _ h => h) (Or.inl ⟨by rfl, ?_⟩) ?_ ?_
                                        rotate_left
                                        · intro w'
                                          go_simp
                                          with_reducible rfl
                                        rotate_left
                                        · simp only [Act.put, List.setIfInBounds_toArray, List.set_cons_zero, List.set_cons_succ, i64_w, i32_w]
                                          rfl
                                        refine take_ (i := 2) (N := some 67) (v := ?_) (a' := ?_) #[true, true, true, true, true, false, false] rfl rfl (by kernel_rfl) (fun _ _ _ h => h) (Or.inl ⟨by rfl, ?_⟩) hHeld ?_ ?_
                                        rotate_left
                                        · intro w' _
                                          go_simp
                                          with_reducible rfl
                                        rotate_left
                                        · simp only [Act.put, List.setIfInBounds_toArray, List.set_cons_zero, List.set_cons_succ, i64_w, i32_w]
                                          rfl
                                        refine take_ (i := 5) (N := some 70) (v := ?_) (a' := ?_) #[true, true, true, true, true, true, false] rfl rfl (by kernel_rfl) (fun _ _ _ h => h) (Or.inl ⟨by rfl, ?_⟩) hHeld ?_ ?_
                                        rotate_left
                                        · intro w' _
                                          go_simp
                                          with_reducible rfl
                                        rotate_left
                                        · simp only [Act.put, List.setIfInBounds_toArray, List.set_cons_zero, List.set_cons_succ, i64_w, i32_w]
                                          rfl
                                        refine pure_ (i := 6) (N := some 71) (v := ?_) (a' := ?_) #[true, true, true, true, true, true, true] rfl rfl (by kernel_rfl) (fun _ _ _ h => h) (Or.inl ⟨by rfl, ?_⟩) ?_ ?_
                                        rotate_left
                                        · intro w'
                                          go_simp
                                          with_reducible rfl
                                        rotate_left
                                        · simp only [Act.put, List.setIfInBounds_toArray, List.set_cons_zero, List.set_cons_succ, i64_w, i32_w]
                                          rfl
                                        refine done_ (by kernel_rfl) ?_
                                        try go_wp2
                                        go_roundg kj25
                                        case measure => have := HJ5.out; have := HK2.out; have := HJ25.out; omega
                                        case rel => exact ⟨(wrap64 (x14_2 + 1)), (wrap64 (x15_2 + 1)), (by first | rfl | (simp; done) | (simp [*]; done)), (by first | rfl | (simp; done) | (simp [*]; done)), H', ⟨by have := HJ5.out; have := HK2.out; have := HJ25.out; omega⟩, ⟨by repeat (first | (with_reducible first | exact HB.out | apply below_alloc | apply pw_below_drewN | apply below_drew1) | exact HB.out)⟩⟩
                                    · rw [if_neg c32] at H
                                      exact absurd H (by simp)
                                  · rw [if_neg c30] at H
                                    exact absurd H (by simp)
                                · rw [if_neg c29] at H
                                  exact absurd H (by simp)
                              · replace c28 := Bool.eq_false_iff.mpr c28
                                subst c28
                                have H1 : (if t247 = true then (if t251 ≥ 0 then (if t251 < 2147483647 then (if ((t251 == t252) == (a0.toList == (((a0.extract 0 ((ji12) : Int).toNat) ++ (strOfNums y248)) ++ (a0.extract ((ji16) : Int).toNat a0.size)).toList)) = true then (if x14_2 = 1 then ((seal_Sum.f kj25 a1).bind fun t253 => (some (t251 != t253))) else (some true)) else (some false)) else (some false)) else (some false)) else (some false)) = some r := by rw [if_neg (show ¬ (false = true) by decide)] at H; exact H
                                clear H
                                have H := H1
                                clear H1
                                by_cases c37 : t247 = true
                                · subst c37
                                  have H1 : (if t251 ≥ 0 then (if t251 < 2147483647 then (if ((t251 == t252) == (a0.toList == (((a0.extract 0 ((ji12) : Int).toNat) ++ (strOfNums y248)) ++ (a0.extract ((ji16) : Int).toNat a0.size)).toList)) = true then (if x14_2 = 1 then ((seal_Sum.f kj25 a1).bind fun t253 => (some (t251 != t253))) else (some true)) else (some false)) else (some false)) else (some false)) = some r := by rw [if_pos rfl] at H; exact H
                                  clear H
                                  have H := H1
                                  clear H1
                                  by_cases c38 : t251 ≥ 0
                                  · rw [if_pos c38] at H
                                    have c38b0 : decide (0 ≤ t251) = true := decide_eq_true c38
                                    clear c38
                                    by_cases c39 : t251 < 2147483647
                                    · rw [if_pos c39] at H
                                      have c39b0 : decide (t251 < 2147483647) = true := decide_eq_true c39
                                      clear c39
                                      by_cases c40 : ((t251 == t252) == (a0.toList == (((a0.extract 0 ((ji12) : Int).toNat) ++ (strOfNums y248)) ++ (a0.extract ((ji16) : Int).toNat a0.size)).toList)) = true
                                      · rw [if_pos c40] at H
                                        have c40b0 : ((t251 == t252) == (a0.toList == (((a0.extract 0 ((ji12) : Int).toNat) ++ (strOfNums y248)) ++ (a0.extract ((ji16) : Int).toNat a0.size)).toList)) = true := c40
                                        (try (have c40b1 : decide ((t251 == t252) = (a0.toList == (((a0.extract 0 ((ji12) : Int).toNat) ++ (strOfNums y248)) ++ (a0.extract ((ji16) : Int).toNat a0.size)).toList)) = true := by simpa using c40))
                                        (try (have c40b2 : ((t251 == t252) == (a0.toList == (((a0.extract 0 ((ji12) : Int).toNat) ++ (strOfNums y248)) ++ (a0.extract ((ji16) : Int).toNat a0.size)).toList)) = true := by simpa using c40))
                                        clear c40
                                        by_cases c41 : x14_2 = 1
                                        · rw [if_pos c41] at H
                                          have c41b0 : (x14_2 == 1) = true := beq_iff_eq.mpr c41
                                          have c41b1 : (x14_2 != 1) = false := bne_eq_false_iff_eq.mpr c41
                                          clear c41
                                          replace H := Option.bind_eq_some_iff.mp H
                                          obtain ⟨t253, A420, H⟩ := H
                                          replace H : (some (t251 != t253)) = some r := H
                                          have A42 := Aside0.mk A420
                                          clear A420
                                          obtain rfl := Option.some.inj H
                                          go_wp2_with (first | (go_at_call 17; (with_reducible refine (seal_Sum.calls kj25 a1 t253 _ A42.out).mono ?_); rintro e w' ⟨rfl, ⟨nd, rfl⟩⟩))
                                          go_ret
                                          exact ⟨by first | rfl | (simp [errW_none, errW_some] <;> rfl) | (simp only [← hji12, ← hji16]; first | rfl | (simp [errW_none, errW_some] <;> rfl)) | (simp [*, errW_none, errW_some] <;> rfl), by repeat (first | (with_reducible first | exact HB.out | apply below_alloc | apply pw_below_drewN | apply below_drew1) | exact HB.out)⟩
                                        · rw [if_neg c41] at H
                                          have c41b0 : (x14_2 == 1) = false := beq_eq_false_iff_ne.mpr c41
                                          have c41b1 : (x14_2 != 1) = true := bne_iff_ne.mpr c41
                                          obtain rfl := Option.some.inj H
                                          go_wp2
                                          go_ret
                                          exact ⟨by first | rfl | (simp [errW_none, errW_some] <;> rfl) | (simp only [← hji12, ← hji16]; first | rfl | (simp [errW_none, errW_some] <;> rfl)) | (simp [*, errW_none, errW_some] <;> rfl), by repeat (first | (with_reducible first | exact HB.out | apply below_alloc | apply pw_below_drewN | apply below_drew1) | exact HB.out)⟩
                                      · rw [if_neg c40] at H
                                        have c40b0 : ((t251 == t252) == (a0.toList == (((a0.extract 0 ((ji12) : Int).toNat) ++ (strOfNums y248)) ++ (a0.extract ((ji16) : Int).toNat a0.size)).toList)) = false := by simpa using c40
                                        (try (have c40b1 : decide ((t251 == t252) = (a0.toList == (((a0.extract 0 ((ji12) : Int).toNat) ++ (strOfNums y248)) ++ (a0.extract ((ji16) : Int).toNat a0.size)).toList)) = false := by simpa using c40))
                                        (try (have c40b2 : ((t251 == t252) == (a0.toList == (((a0.extract 0 ((ji12) : Int).toNat) ++ (strOfNums y248)) ++ (a0.extract ((ji16) : Int).toNat a0.size)).toList)) = false := by simpa using c40))
                                        (try (have c40b3 : ¬ ((t251 == t252) = (a0.toList == (((a0.extract 0 ((ji12) : Int).toNat) ++ (strOfNums y248)) ++ (a0.extract ((ji16) : Int).toNat a0.size)).toList)) := by simpa using c40))
                                        clear c40
                                        obtain rfl := Option.some.inj H
                                        go_wp2
                                        go_ret
                                        exact ⟨by first | rfl | (simp [errW_none, errW_some] <;> rfl) | (simp only [← hji12, ← hji16]; first | rfl | (simp [errW_none, errW_some] <;> rfl)) | (simp [*, errW_none, errW_some] <;> rfl), by repeat (first | (with_reducible first | exact HB.out | apply below_alloc | apply pw_below_drewN | apply below_drew1) | exact HB.out)⟩
                                    · rw [if_neg c39] at H
                                      have c39b0 : decide (t251 < 2147483647) = false := decide_eq_false c39
                                      clear c39
                                      obtain rfl := Option.some.inj H
                                      go_wp2
                                      go_ret
                                      exact ⟨by first | rfl | (simp [errW_none, errW_some] <;> rfl) | (simp only [← hji12, ← hji16]; first | rfl | (simp [errW_none, errW_some] <;> rfl)) | (simp [*, errW_none, errW_some] <;> rfl), by repeat (first | (with_reducible first | exact HB.out | apply below_alloc | apply pw_below_drewN | apply below_drew1) | exact HB.out)⟩
                                  · rw [if_neg c38] at H
                                    have c38b0 : decide (0 ≤ t251) = false := decide_eq_false c38
                                    clear c38
                                    obtain rfl := Option.some.inj H
                                    go_wp2
                                    go_ret
                                    exact ⟨by first | rfl | (simp [errW_none, errW_some] <;> rfl) | (simp only [← hji12, ← hji16]; first | rfl | (simp [errW_none, errW_some] <;> rfl)) | (simp [*, errW_none, errW_some] <;> rfl), by repeat (first | (with_reducible first | exact HB.out | apply below_alloc | apply pw_below_drewN | apply below_drew1) | exact HB.out)⟩
                                · replace c37 := Bool.eq_false_iff.mpr c37
                                  subst c37
                                  have H1 : (some false) = some r := by rw [if_neg (show ¬ (false = true) by decide)] at H; exact H
                                  clear H
                                  have H := H1
                                  clear H1
                                  obtain rfl := Option.some.inj H
                                  go_wp2
                                  go_ret
                                  exact ⟨by first | rfl | (simp [errW_none, errW_some] <;> rfl) | (simp only [← hji12, ← hji16]; first | rfl | (simp [errW_none, errW_some] <;> rfl)) | (simp [*, errW_none, errW_some] <;> rfl), by repeat (first | (with_reducible first | exact HB.out | apply below_alloc | apply pw_below_drewN | apply below_drew1) | exact HB.out)⟩
                    · rw [if_neg c19] at H
                      exact absurd H (by simp)
                  · rw [if_neg c18] at H
                    exact absurd H (by simp)
                · rw [if_neg c17] at H
                  exact absurd H (by simp)
              · rw [if_neg c15] at H
                exact absurd H (by simp)
            · rw [if_neg c14] at H
              exact absurd H (by simp)
          · rw [if_neg c13] at H
            exact absurd H (by simp)

end Go.Proofs.YtgblfdfagppejaaDoor.Px
