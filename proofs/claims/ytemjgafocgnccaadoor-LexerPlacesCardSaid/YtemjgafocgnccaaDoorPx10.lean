/- Go functions as Lean functions, each with the proof that the Go code answers as it does (written by a program of this session: myprint.py, over the kit's printer). -/
import Derived.Test.YtemjgafocgnccaaDoorPx0
import Derived.Test.YtemjgafocgnccaaDoorPx3
import Derived.Test.YtemjgafocgnccaaDoorPx9
import Derived.Test.YtemjgafocgnccaaDoorX8
namespace Go.Proofs.YtemjgafocgnccaaDoor.Px
open Go.RowKit Go.Proofs.YtemjgafocgnccaaDoorW.PrintWords Go.Proofs.YtemjgafocgnccaaDoorW.PrintLast Go.Proofs.YtemjgafocgnccaaDoorW.PrintMore
attribute [local go_sem] max2_int min2_int max_two min_two max_three min_three max_four min_four   -- for this text's walks alone
set_option linter.unusedVariables false
set_option linter.unusedSimpArgs false

/-! ### cleanselaw07_LexerPlaces: function 4 -/
mutual
def cleanselaw07_LexerPlaces.l0 : Nat → ByteArray → Bool → List (S30) → Int → Int → Int → Option (Bool)
  | 0, _, _, _, _, _, _ => none
  | k + 1, x0, x3, x4, x6, x7, x8 => if x8 < (x4.length : Int) then (if 0 ≤ x8 then (if ((rd_T30 x4 x8).f3) < x7 then (cleanselaw07_LexerPlaces.j1 k x0 x3 x4 x6 x8 ((rd_T30 x4 x8).f3) true) else (if ((rd_T30 x4 x8).f3) ≥ (x0.size : Int) then (cleanselaw07_LexerPlaces.j1 k x0 x3 x4 x6 x8 ((rd_T30 x4 x8).f3) true) else (if 0 ≤ x7 then (if x7 ≤ ((rd_T30 x4 x8).f3) then (if ((rd_T30 x4 x8).f3) ≤ (x0.size : Int) then ((cleanseref07_Gaps.f k (x0.extract (x7 : Int).toNat (((rd_T30 x4 x8).f3) : Int).toNat)).bind fun t198 => (cleanselaw07_LexerPlaces.j1 k x0 x3 x4 x6 x8 ((rd_T30 x4 x8).f3) (!t198))) else (none)) else (none)) else (none)))) else (none)) else (if x3 = true then (if x6 = 0 then (if 0 ≤ x7 then (if x7 ≤ (x0.size : Int) then ((cleanseref07_Gaps.f k (x0.extract (x7 : Int).toNat x0.size)).bind fun t196 => (some t196)) else (none)) else (none)) else (some false)) else (some false))
def cleanselaw07_LexerPlaces.j1 : Nat → ByteArray → Bool → List (S30) → Int → Int → Int → Bool → Option (Bool)
  | 0, _, _, _, _, _, _, _ => none
  | k + 1, x0, x3, x4, x6, x8, x9, x67 => if x67 = true then (some false) else (if 0 ≤ x8 then (if x8 < (x4.length : Int) then (if ((rd_T30 x4 x8).f0) = 3 then (cleanselaw07_LexerPlaces.l1 k x0 x3 x4 x6 x8 x9 (wrap64 (x9 + 1))) else (if (wrap64 (x9 + (((rd_T30 x4 x8).f1).size : Int))) > (x0.size : Int) then (some false) else (if (((rd_T30 x4 x8).f1).size : Int) = 0 then (some false) else (if 0 ≤ x9 then (if x9 ≤ (wrap64 (x9 + (((rd_T30 x4 x8).f1).size : Int))) then (if (wrap64 (x9 + (((rd_T30 x4 x8).f1).size : Int))) ≤ (x0.size : Int) then (if (x0.extract (x9 : Int).toNat ((wrap64 (x9 + (((rd_T30 x4 x8).f1).size : Int))) : Int).toNat).toList = ((rd_T30 x4 x8).f1).toList then (cleanselaw07_LexerPlaces.l0 k x0 x3 x4 x6 (wrap64 (x9 + (((rd_T30 x4 x8).f1).size : Int))) (wrap64 (x8 + 1))) else (some false)) else (none)) else (none)) else (none))))) else (none)) else (none))
def cleanselaw07_LexerPlaces.l1 : Nat → ByteArray → Bool → List (S30) → Int → Int → Int → Int → Option (Bool)
  | 0, _, _, _, _, _, _, _ => none
  | k + 1, x0, x3, x4, x6, x8, x9, x10 => if x10 < (x0.size : Int) then (if 0 ≤ x10 then (cleanselaw07_LexerPlaces.j3 k x0 x3 x4 x6 x8 x9 x10 ((bt x0 x10) != 34)) else (none)) else (cleanselaw07_LexerPlaces.j3 k x0 x3 x4 x6 x8 x9 x10 false)
def cleanselaw07_LexerPlaces.j3 : Nat → ByteArray → Bool → List (S30) → Int → Int → Int → Int → Bool → Option (Bool)
  | 0, _, _, _, _, _, _, _, _ => none
  | k + 1, x0, x3, x4, x6, x8, x9, x10, x85 => if x85 = true then (if 0 ≤ x10 then (if x10 < (x0.size : Int) then (if (bt x0 x10) = 92 then (cleanselaw07_LexerPlaces.l1 k x0 x3 x4 x6 x8 x9 (wrap64 ((wrap64 (x10 + 1)) + 1))) else (cleanselaw07_LexerPlaces.l1 k x0 x3 x4 x6 x8 x9 (wrap64 (x10 + 1)))) else (none)) else (none)) else (if 0 ≤ x9 then (if x9 < (x0.size : Int) then (if (bt x0 x9) = 34 then (cleanselaw07_LexerPlaces.j4 k x0 x3 x4 x6 x8 x10 (decide (x10 ≥ (x0.size : Int)))) else (cleanselaw07_LexerPlaces.j4 k x0 x3 x4 x6 x8 x10 true)) else (none)) else (none))
def cleanselaw07_LexerPlaces.j4 : Nat → ByteArray → Bool → List (S30) → Int → Int → Int → Bool → Option (Bool)
  | 0, _, _, _, _, _, _, _ => none
  | k + 1, x0, x3, x4, x6, x8, x10, x103 => if x103 = true then (some false) else (cleanselaw07_LexerPlaces.l0 k x0 x3 x4 x6 (wrap64 (x10 + 1)) (wrap64 (x8 + 1)))
end
def cleanselaw07_LexerPlaces.f (k : Nat) (a0 : ByteArray) : Option (Bool) := (cleanselaw07_head.f).bind fun t190 => (if (a0.size : Int) > 3000 then (some t190) else ((X.lexer_Lex.f a0).bind fun bt191 => (if bt191.2.1 = 0 then (cleanselaw07_LexerPlaces.l0 k a0 t190 bt191.1 bt191.2.2 0 0) else (if t190 = true then (if (bt191.1.length : Int) = 0 then (if bt191.2.2 ≥ 0 then (some (decide (bt191.2.2 < (a0.size : Int)))) else (some false)) else (some false)) else (some false)))))
theorem cleanselaw07_LexerPlaces.mono_l : ∀ k, (∀ y0 y1 y2 y3 y4 y5, LeO (cleanselaw07_LexerPlaces.l0 k y0 y1 y2 y3 y4 y5) (cleanselaw07_LexerPlaces.l0 (k + 1) y0 y1 y2 y3 y4 y5)) ∧ (∀ y0 y1 y2 y3 y4 y5 y6, LeO (cleanselaw07_LexerPlaces.j1 k y0 y1 y2 y3 y4 y5 y6) (cleanselaw07_LexerPlaces.j1 (k + 1) y0 y1 y2 y3 y4 y5 y6)) ∧ (∀ y0 y1 y2 y3 y4 y5 y6, LeO (cleanselaw07_LexerPlaces.l1 k y0 y1 y2 y3 y4 y5 y6) (cleanselaw07_LexerPlaces.l1 (k + 1) y0 y1 y2 y3 y4 y5 y6)) ∧ (∀ y0 y1 y2 y3 y4 y5 y6 y7, LeO (cleanselaw07_LexerPlaces.j3 k y0 y1 y2 y3 y4 y5 y6 y7) (cleanselaw07_LexerPlaces.j3 (k + 1) y0 y1 y2 y3 y4 y5 y6 y7)) ∧ (∀ y0 y1 y2 y3 y4 y5 y6, LeO (cleanselaw07_LexerPlaces.j4 k y0 y1 y2 y3 y4 y5 y6) (cleanselaw07_LexerPlaces.j4 (k + 1) y0 y1 y2 y3 y4 y5 y6))
  | 0 => ⟨fun _ _ _ _ _ _ r h => by simp [cleanselaw07_LexerPlaces.l0] at h, fun _ _ _ _ _ _ _ r h => by simp [cleanselaw07_LexerPlaces.j1] at h, fun _ _ _ _ _ _ _ r h => by simp [cleanselaw07_LexerPlaces.l1] at h, fun _ _ _ _ _ _ _ _ r h => by simp [cleanselaw07_LexerPlaces.j3] at h, fun _ _ _ _ _ _ _ r h => by simp [cleanselaw07_LexerPlaces.j4] at h⟩
  | k + 1 => by
    obtain ⟨ih0, ih1, ih2, ih3, ih4⟩ := cleanselaw07_LexerPlaces.mono_l k
    refine ⟨?_, ?_, ?_, ?_, ?_⟩
    · intro y0 y1 y2 y3 y4 y5
      unfold cleanselaw07_LexerPlaces.l0
      repeat' first
      | (with_reducible exact ih0 _ _ _ _ _ _)
      | (with_reducible exact ih1 _ _ _ _ _ _ _)
      | (with_reducible exact ih2 _ _ _ _ _ _ _)
      | (with_reducible exact ih3 _ _ _ _ _ _ _ _)
      | (with_reducible exact ih4 _ _ _ _ _ _ _)
      | (with_reducible exact cleanseref07_Gaps.mono _ _)
      | (with_reducible exact LeO.refl _)
      | (with_reducible exact LeO.none _)
      | (with_reducible refine LeO.ite ?_ ?_)
      | (with_reducible refine LeO.bind ?_ (fun _ => ?_))
      | exact ih0 _ _ _ _ _ _
      | exact ih1 _ _ _ _ _ _ _
      | exact ih2 _ _ _ _ _ _ _
      | exact ih3 _ _ _ _ _ _ _ _
      | exact ih4 _ _ _ _ _ _ _
      | exact cleanseref07_Gaps.mono _ _
      | exact LeO.none _
      | refine LeO.ite ?_ ?_
      | refine LeO.bind ?_ (fun _ => ?_)
    · intro y0 y1 y2 y3 y4 y5 y6
      unfold cleanselaw07_LexerPlaces.j1
      repeat' first
      | (with_reducible exact ih0 _ _ _ _ _ _)
      | (with_reducible exact ih1 _ _ _ _ _ _ _)
      | (with_reducible exact ih2 _ _ _ _ _ _ _)
      | (with_reducible exact ih3 _ _ _ _ _ _ _ _)
      | (with_reducible exact ih4 _ _ _ _ _ _ _)
      | (with_reducible exact cleanseref07_Gaps.mono _ _)
      | (with_reducible exact LeO.refl _)
      | (with_reducible exact LeO.none _)
      | (with_reducible refine LeO.ite ?_ ?_)
      | (with_reducible refine LeO.bind ?_ (fun _ => ?_))
      | exact ih0 _ _ _ _ _ _
      | exact ih1 _ _ _ _ _ _ _
      | exact ih2 _ _ _ _ _ _ _
      | exact ih3 _ _ _ _ _ _ _ _
      | exact ih4 _ _ _ _ _ _ _
      | exact cleanseref07_Gaps.mono _ _
      | exact LeO.none _
      | refine LeO.ite ?_ ?_
      | refine LeO.bind ?_ (fun _ => ?_)
    · intro y0 y1 y2 y3 y4 y5 y6
      unfold cleanselaw07_LexerPlaces.l1
      repeat' first
      | (with_reducible exact ih0 _ _ _ _ _ _)
      | (with_reducible exact ih1 _ _ _ _ _ _ _)
      | (with_reducible exact ih2 _ _ _ _ _ _ _)
      | (with_reducible exact ih3 _ _ _ _ _ _ _ _)
      | (with_reducible exact ih4 _ _ _ _ _ _ _)
      | (with_reducible exact cleanseref07_Gaps.mono _ _)
      | (with_reducible exact LeO.refl _)
      | (with_reducible exact LeO.none _)
      | (with_reducible refine LeO.ite ?_ ?_)
      | (with_reducible refine LeO.bind ?_ (fun _ => ?_))
      | exact ih0 _ _ _ _ _ _
      | exact ih1 _ _ _ _ _ _ _
      | exact ih2 _ _ _ _ _ _ _
      | exact ih3 _ _ _ _ _ _ _ _
      | exact ih4 _ _ _ _ _ _ _
      | exact cleanseref07_Gaps.mono _ _
      | exact LeO.none _
      | refine LeO.ite ?_ ?_
      | refine LeO.bind ?_ (fun _ => ?_)
    · intro y0 y1 y2 y3 y4 y5 y6 y7
      unfold cleanselaw07_LexerPlaces.j3
      repeat' first
      | (with_reducible exact ih0 _ _ _ _ _ _)
      | (with_reducible exact ih1 _ _ _ _ _ _ _)
      | (with_reducible exact ih2 _ _ _ _ _ _ _)
      | (with_reducible exact ih3 _ _ _ _ _ _ _ _)
      | (with_reducible exact ih4 _ _ _ _ _ _ _)
      | (with_reducible exact cleanseref07_Gaps.mono _ _)
      | (with_reducible exact LeO.refl _)
      | (with_reducible exact LeO.none _)
      | (with_reducible refine LeO.ite ?_ ?_)
      | (with_reducible refine LeO.bind ?_ (fun _ => ?_))
      | exact ih0 _ _ _ _ _ _
      | exact ih1 _ _ _ _ _ _ _
      | exact ih2 _ _ _ _ _ _ _
      | exact ih3 _ _ _ _ _ _ _ _
      | exact ih4 _ _ _ _ _ _ _
      | exact cleanseref07_Gaps.mono _ _
      | exact LeO.none _
      | refine LeO.ite ?_ ?_
      | refine LeO.bind ?_ (fun _ => ?_)
    · intro y0 y1 y2 y3 y4 y5 y6
      unfold cleanselaw07_LexerPlaces.j4
      repeat' first
      | (with_reducible exact ih0 _ _ _ _ _ _)
      | (with_reducible exact ih1 _ _ _ _ _ _ _)
      | (with_reducible exact ih2 _ _ _ _ _ _ _)
      | (with_reducible exact ih3 _ _ _ _ _ _ _ _)
      | (with_reducible exact ih4 _ _ _ _ _ _ _)
      | (with_reducible exact cleanseref07_Gaps.mono _ _)
      | (with_reducible exact LeO.refl _)
      | (with_reducible exact LeO.none _)
      | (with_reducible refine LeO.ite ?_ ?_)
      | (with_reducible refine LeO.bind ?_ (fun _ => ?_))
      | exact ih0 _ _ _ _ _ _
      | exact ih1 _ _ _ _ _ _ _
      | exact ih2 _ _ _ _ _ _ _
      | exact ih3 _ _ _ _ _ _ _ _
      | exact ih4 _ _ _ _ _ _ _
      | exact cleanseref07_Gaps.mono _ _
      | exact LeO.none _
      | refine LeO.ite ?_ ?_
      | refine LeO.bind ?_ (fun _ => ?_)
theorem cleanselaw07_LexerPlaces.mono : ∀ a0 k, LeO (cleanselaw07_LexerPlaces.f k a0) (cleanselaw07_LexerPlaces.f (k + 1) a0) := by
  intro a0 k
  obtain ⟨ih0, ih1, ih2, ih3, ih4⟩ := cleanselaw07_LexerPlaces.mono_l k
  unfold cleanselaw07_LexerPlaces.f
  repeat' first
      | (with_reducible exact ih0 _ _ _ _ _ _)
      | (with_reducible exact ih1 _ _ _ _ _ _ _)
      | (with_reducible exact ih2 _ _ _ _ _ _ _)
      | (with_reducible exact ih3 _ _ _ _ _ _ _ _)
      | (with_reducible exact ih4 _ _ _ _ _ _ _)
      | (with_reducible exact cleanseref07_Gaps.mono _ _)
      | (with_reducible exact LeO.refl _)
      | (with_reducible exact LeO.none _)
      | (with_reducible refine LeO.ite ?_ ?_)
      | (with_reducible refine LeO.bind ?_ (fun _ => ?_))
      | exact ih0 _ _ _ _ _ _
      | exact ih1 _ _ _ _ _ _ _
      | exact ih2 _ _ _ _ _ _ _
      | exact ih3 _ _ _ _ _ _ _ _
      | exact ih4 _ _ _ _ _ _ _
      | exact cleanseref07_Gaps.mono _ _
      | exact LeO.none _
      | refine LeO.ite ?_ ?_
      | refine LeO.bind ?_ (fun _ => ?_)
set_option maxHeartbeats 8000000 in
set_option maxRecDepth 100000 in
theorem cleanselaw07_LexerPlaces.calls (k : Nat) (a0 : ByteArray) (r : Bool) (w : World) (h : cleanselaw07_LexerPlaces.f k a0 = some r) :
    Calls Tryd.prog 4 #[.string a0] w fun e w' => e = .returned (.bool r) ∧ Below w.heap.size w w' := by
  have HB := Aside0.mk (Below.refl w.heap.size w)
  have H : ((cleanselaw07_head.f).bind fun t190 => (if (a0.size : Int) > 3000 then (some t190) else ((X.lexer_Lex.f a0).bind fun bt191 => (if bt191.2.1 = 0 then (cleanselaw07_LexerPlaces.l0 k a0 t190 bt191.1 bt191.2.2 0 0) else (if t190 = true then (if (bt191.1.length : Int) = 0 then (if bt191.2.2 ≥ 0 then (some (decide (bt191.2.2 < (a0.size : Int)))) else (some false)) else (some false)) else (some false)))))) = some r := h
  clear h
  replace H := Option.bind_eq_some_iff.mp H
  obtain ⟨t190, A20, H⟩ := H
  replace H : (if (a0.size : Int) > 3000 then (some t190) else ((X.lexer_Lex.f a0).bind fun bt191 => (if bt191.2.1 = 0 then (cleanselaw07_LexerPlaces.l0 k a0 t190 bt191.1 bt191.2.2 0 0) else (if t190 = true then (if (bt191.1.length : Int) = 0 then (if bt191.2.2 ≥ 0 then (some (decide (bt191.2.2 < (a0.size : Int)))) else (some false)) else (some false)) else (some false))))) = some r := H
  have A2 := Aside0.mk A20
  clear A20
  by_cases c3 : (a0.size : Int) > 3000
  · rw [if_pos c3] at H
    have c3b0 : decide (3000 < (a0.size : Int)) = true := decide_eq_true c3
    have c3b1 : decide (3000 < a0.size) = true := decide_eq_true (by omega)
    clear c3
    obtain rfl := Option.some.inj H
    go_enter Tryd.func4, Tryd.ntmps4
    go_wp2_with (first | (go_at_call 8; (with_reducible refine (cleanselaw07_head.calls  t190 _ A2.out).mono ?_); rintro e w4 ⟨rfl, hb⟩; have n0_ := Aside0.mk (below_step (by repeat (first | (with_reducible first | exact HB.out | apply below_alloc | apply pw_below_drewN | apply below_drew1) | exact HB.out)) hb); clear HB; have HB := n0_; clear n0_; (try clear hb); (try clear hb2); (try clear hk); (try clear hi)))
    repeat (go_quiet (first | (go_at_call 8; (with_reducible refine (cleanselaw07_head.calls  t190 _ A2.out).mono ?_); rintro e w4 ⟨rfl, hb⟩; have n0_ := Aside0.mk (below_step (by repeat (first | (with_reducible first | exact HB.out | apply below_alloc | apply pw_below_drewN | apply below_drew1) | exact HB.out)) hb); clear HB; have HB := n0_; clear n0_; (try clear hb); (try clear hb2); (try clear hk); (try clear hi))); try go_wp2_with (first | (go_at_call 8; (with_reducible refine (cleanselaw07_head.calls  t190 _ A2.out).mono ?_); rintro e w4 ⟨rfl, hb⟩; have n0_ := Aside0.mk (below_step (by repeat (first | (with_reducible first | exact HB.out | apply below_alloc | apply pw_below_drewN | apply below_drew1) | exact HB.out)) hb); clear HB; have HB := n0_; clear n0_; (try clear hb); (try clear hb2); (try clear hk); (try clear hi))))
    go_ret
    exact ⟨by first | rfl | (simp [errW_none, errW_some] <;> rfl) | (simp [*, errW_none, errW_some] <;> rfl), by repeat (first | (with_reducible first | exact HB.out | apply below_alloc | apply pw_below_drewN | apply below_drew1) | exact HB.out)⟩
  · rw [if_neg c3] at H
    have c3b0 : decide (3000 < (a0.size : Int)) = false := decide_eq_false c3
    have c3b1 : decide (3000 < a0.size) = false := decide_eq_false (by omega)
    clear c3
    replace H := Option.bind_eq_some_iff.mp H
    obtain ⟨⟨t191, t192, t193⟩, A50, H⟩ := H
    replace H : (if t192 = 0 then (cleanselaw07_LexerPlaces.l0 k a0 t190 t191 t193 0 0) else (if t190 = true then (if (t191.length : Int) = 0 then (if t193 ≥ 0 then (some (decide (t193 < (a0.size : Int)))) else (some false)) else (some false)) else (some false))) = some r := H
    have A5 := Aside0.mk A50
    clear A50
    by_cases c6 : t192 = 0
    · rw [if_pos c6] at H
      have c6b0 : (t192 == 0) = true := beq_iff_eq.mpr c6
      have c6b1 : (t192 != 0) = false := bne_eq_false_iff_eq.mpr c6
      clear c6
      have H' := Aside0.mk H
      clear H
      go_enter Tryd.func4, Tryd.ntmps4
      go_wp2_with (first | (go_at_call 8; (with_reducible refine (cleanselaw07_head.calls  t190 _ A2.out).mono ?_); rintro e w7 ⟨rfl, hb⟩; have n0_ := Aside0.mk (below_step (by repeat (first | (with_reducible first | exact HB.out | apply below_alloc | apply pw_below_drewN | apply below_drew1) | exact HB.out)) hb); clear HB; have HB := n0_; clear n0_; (try clear hb); (try clear hb2); (try clear hk); (try clear hi)) | (go_at_call 9; (with_reducible refine (X.lexer_Lex.calls a0 t191 t192 t193 _ A5.out).mono ?_); rintro e w8 ⟨v194, rfl, ho0, hb⟩; have n0_ := Aside0.mk (Kd.R_lower ho0 (below_size (by repeat (first | (with_reducible first | exact HB.out | apply below_alloc | apply pw_below_drewN | apply below_drew1) | exact HB.out)))); have n1_ := Aside0.mk (below_step (by repeat (first | (with_reducible first | exact HB.out | apply below_alloc | apply pw_below_drewN | apply below_drew1) | exact HB.out)) hb); clear HB; have HO195 := n0_; have HB := n1_; clear n0_ n1_; (try clear hb); (try clear hb2); (try clear hk); (try clear hi); (try clear ho0)))
      repeat (go_quiet (first | (go_at_call 8; (with_reducible refine (cleanselaw07_head.calls  t190 _ A2.out).mono ?_); rintro e w7 ⟨rfl, hb⟩; have n0_ := Aside0.mk (below_step (by repeat (first | (with_reducible first | exact HB.out | apply below_alloc | apply pw_below_drewN | apply below_drew1) | exact HB.out)) hb); clear HB; have HB := n0_; clear n0_; (try clear hb); (try clear hb2); (try clear hk); (try clear hi)) | (go_at_call 9; (with_reducible refine (X.lexer_Lex.calls a0 t191 t192 t193 _ A5.out).mono ?_); rintro e w8 ⟨v194, rfl, ho0, hb⟩; have n0_ := Aside0.mk (Kd.R_lower ho0 (below_size (by repeat (first | (with_reducible first | exact HB.out | apply below_alloc | apply pw_below_drewN | apply below_drew1) | exact HB.out)))); have n1_ := Aside0.mk (below_step (by repeat (first | (with_reducible first | exact HB.out | apply below_alloc | apply pw_below_drewN | apply below_drew1) | exact HB.out)) hb); clear HB; have HO195 := n0_; have HB := n1_; clear n0_ n1_; (try clear hb); (try clear hb2); (try clear hk); (try clear hi); (try clear ho0))); try go_wp2_with (first | (go_at_call 8; (with_reducible refine (cleanselaw07_head.calls  t190 _ A2.out).mono ?_); rintro e w7 ⟨rfl, hb⟩; have n0_ := Aside0.mk (below_step (by repeat (first | (with_reducible first | exact HB.out | apply below_alloc | apply pw_below_drewN | apply below_drew1) | exact HB.out)) hb); clear HB; have HB := n0_; clear n0_; (try clear hb); (try clear hb2); (try clear hk); (try clear hi)) | (go_at_call 9; (with_reducible refine (X.lexer_Lex.calls a0 t191 t192 t193 _ A5.out).mono ?_); rintro e w8 ⟨v194, rfl, ho0, hb⟩; have n0_ := Aside0.mk (Kd.R_lower ho0 (below_size (by repeat (first | (with_reducible first | exact HB.out | apply below_alloc | apply pw_below_drewN | apply below_drew1) | exact HB.out)))); have n1_ := Aside0.mk (below_step (by repeat (first | (with_reducible first | exact HB.out | apply below_alloc | apply pw_below_drewN | apply below_drew1) | exact HB.out)) hb); clear HB; have HO195 := n0_; have HB := n1_; clear n0_ n1_; (try clear hb); (try clear hb2); (try clear hk); (try clear hi); (try clear ho0))))
      go_loopg [7, 8] k (fun kq v7 v8 w' => ∃ (x7_1 : Int) (x8_1 : Int), v7 = .int .i64 x7_1 ∧ v8 = .int .i64 x8_1 ∧ Aside0 (cleanselaw07_LexerPlaces.l0 kq a0 t190 t191 t193 x7_1 x8_1 = some r) ∧ Aside0 (kq ≤ k) ∧ Aside0 (Kd.R k30 30 w' w.heap.size (fun _ => True) v194 t191) ∧ Aside0 (Below w.heap.size w w'))
      case atStart => exact ⟨(0), (0), (by first | rfl | (simp; done) | (simp [*]; done)), (by first | rfl | (simp; done) | (simp [*]; done)), H', ⟨Nat.le_refl _⟩, ⟨by (with_reducible repeat (first | apply Kd.R_alloc | apply Kd.R_drewN | apply Kd.R_drew)); exact HO195.out⟩, ⟨by repeat (first | (with_reducible first | exact HB.out | apply below_alloc | apply pw_below_drewN | apply below_drew1) | exact HB.out)⟩⟩
      case round =>
        clear H'
        try clear p2
        try clear c3
        try clear c3b0
        try clear c3b1
        try clear c4
        try clear c6
        try clear c6b0
        try clear c6b1
        obtain ⟨x7_1, x8_1, rfl, rfl, HA, HK1, HO_4, HB⟩ := hrel
        cases gk with
        | zero => exact absurd HA.out (by simp [cleanselaw07_LexerPlaces.l0])
        | succ k1 =>
          have H := HA.out
          clear HA
          simp only [cleanselaw07_LexerPlaces.l0] at H
          by_cases c9 : x8_1 < (t191.length : Int)
          · rw [if_pos c9] at H
            have c9b0 : decide (x8_1 < (t191.length : Int)) = true := decide_eq_true c9
            clear c9
            by_cases c10 : 0 ≤ x8_1
            · rw [if_pos c10] at H
              have c10b0 : decide (0 ≤ x8_1) = true := decide_eq_true c10
              clear c10
              have HC11 := Aside0.mk H
              clear H
              obtain ⟨Ao12, co12, eo12⟩ := Kd.R_slice HO_4.out
              subst eo12
              have p197 : 0 ≤ (x8_1 : Int) := of_decide_eq_true (by first | (with_reducible assumption) | assumption)
              have q197 : x8_1 < (t191.length : Int) := of_decide_eq_true (by first | (with_reducible assumption) | assumption)
              obtain ⟨ad197, e197, hx197_0, hx197_1, hx197_2, hx197_3⟩ := at_T30 (Kd.R_reads' HO_4.out).2.2 x8_1 p197 q197
              cases e197
              replace p197 := eq_true p197
              replace q197 := eq_true q197
              go_upto_region 12 with (fail)
              repeat (go_quiet (fail); go_upto_region 12 with (fail))
              go_cut [67] (fun v67 wc => ∃ (kq : Nat) (x67_10 : Bool), v67 = .bool x67_10 ∧ Aside0 (cleanselaw07_LexerPlaces.j1 kq a0 t190 t191 t193 x8_1 ((rd_T30 t191 x8_1).f3) x67_10 = some r) ∧ Aside0 (kq ≤ k1) ∧ Aside0 (Kd.R k30 30 wc w.heap.size (fun _ => True) (.slice (some ad197) t191.length co12) t191) ∧ Aside0 (Below w.heap.size w wc))
              case first =>
                have H := HC11.out
                clear HC11
                by_cases c13 : ((rd_T30 t191 x8_1).f3) < x7_1
                · rw [if_pos c13] at H
                  have c13b0 : decide (((rd_T30 t191 x8_1).f3) < x7_1) = true := decide_eq_true c13
                  clear c13
                  (first | rw [c13b0] | (simp only [i64_w, i32_w]; rw [c13b0]) | skip)
                  have H' := Aside0.mk H
                  clear H
                  go_wp2
                  repeat (go_quiet (fail); try go_wp2)
                  go_meet
                  case rel => exact ⟨_, (true), (by first | rfl | (simp; done) | (simp [*]; done)), H', ⟨by have := HK1.out; first | omega | exact Nat.le_refl _⟩, ⟨by (with_reducible repeat (first | apply Kd.R_alloc | apply Kd.R_drewN | apply Kd.R_drew)); exact HO_4.out⟩, ⟨by repeat (first | (with_reducible first | exact HB.out | apply below_alloc | apply pw_below_drewN | apply below_drew1) | exact HB.out)⟩⟩
                · rw [if_neg c13] at H
                  have c13b0 : decide (((rd_T30 t191 x8_1).f3) < x7_1) = false := decide_eq_false c13
                  clear c13
                  (first | rw [c13b0] | (simp only [i64_w, i32_w]; rw [c13b0]) | skip)
                  by_cases c14 : ((rd_T30 t191 x8_1).f3) ≥ (a0.size : Int)
                  · rw [if_pos c14] at H
                    have c14b0 : decide ((a0.size : Int) ≤ ((rd_T30 t191 x8_1).f3)) = true := decide_eq_true c14
                    clear c14
                    have H' := Aside0.mk H
                    clear H
                    go_wp2
                    repeat (go_quiet (fail); try go_wp2)
                    go_meet
                    case rel => exact ⟨_, (true), (by first | rfl | (simp; done) | (simp [*]; done)), H', ⟨by have := HK1.out; first | omega | exact Nat.le_refl _⟩, ⟨by (with_reducible repeat (first | apply Kd.R_alloc | apply Kd.R_drewN | apply Kd.R_drew)); exact HO_4.out⟩, ⟨by repeat (first | (with_reducible first | exact HB.out | apply below_alloc | apply pw_below_drewN | apply below_drew1) | exact HB.out)⟩⟩
                  · rw [if_neg c14] at H
                    have c14b0 : decide ((a0.size : Int) ≤ ((rd_T30 t191 x8_1).f3)) = false := decide_eq_false c14
                    clear c14
                    by_cases c15 : 0 ≤ x7_1
                    · rw [if_pos c15] at H
                      have c15b0 := eq_true c15
                      have c15b1 : decide (0 ≤ x7_1) = true := decide_eq_true c15
                      clear c15
                      by_cases c16 : x7_1 ≤ ((rd_T30 t191 x8_1).f3)
                      · rw [if_pos c16] at H
                        have c16b0 := eq_true c16
                        have c16b1 : decide (x7_1 ≤ ((rd_T30 t191 x8_1).f3)) = true := decide_eq_true c16
                        clear c16
                        by_cases c17 : ((rd_T30 t191 x8_1).f3) ≤ (a0.size : Int)
                        · rw [if_pos c17] at H
                          have c17b0 := eq_true c17
                          have c17b1 : decide (((rd_T30 t191 x8_1).f3) ≤ (a0.size : Int)) = true := decide_eq_true c17
                          clear c17
                          replace H := Option.bind_eq_some_iff.mp H
                          obtain ⟨t198, A180, H⟩ := H
                          replace H : (cleanselaw07_LexerPlaces.j1 k1 a0 t190 t191 t193 x8_1 ((rd_T30 t191 x8_1).f3) (!t198)) = some r := H
                          have A18 := Aside0.mk A180
                          clear A180
                          have H' := Aside0.mk H
                          clear H
                          go_wp2_with (first | (go_at_call 12; (with_reducible refine (cleanseref07_Gaps.calls k1 (a0.extract (x7_1 : Int).toNat (((rd_T30 t191 x8_1).f3) : Int).toNat) t198 _ A18.out).mono ?_); rintro e w' ⟨rfl, ⟨nd, rfl⟩⟩; (try first | exact ⟨rfl, _, World.drewN_drewN _ _ _⟩ | exact ⟨rfl, _, Eq.trans (World.drewN_drewN _ _ _) (congrArg (World.drewN _) (Nat.add_assoc _ _ _))⟩)))
                          repeat (go_quiet (first | (go_at_call 12; (with_reducible refine (cleanseref07_Gaps.calls k1 (a0.extract (x7_1 : Int).toNat (((rd_T30 t191 x8_1).f3) : Int).toNat) t198 _ A18.out).mono ?_); rintro e w' ⟨rfl, ⟨nd, rfl⟩⟩; (try first | exact ⟨rfl, _, World.drewN_drewN _ _ _⟩ | exact ⟨rfl, _, Eq.trans (World.drewN_drewN _ _ _) (congrArg (World.drewN _) (Nat.add_assoc _ _ _))⟩))); try go_wp2_with (first | (go_at_call 12; (with_reducible refine (cleanseref07_Gaps.calls k1 (a0.extract (x7_1 : Int).toNat (((rd_T30 t191 x8_1).f3) : Int).toNat) t198 _ A18.out).mono ?_); rintro e w' ⟨rfl, ⟨nd, rfl⟩⟩; (try first | exact ⟨rfl, _, World.drewN_drewN _ _ _⟩ | exact ⟨rfl, _, Eq.trans (World.drewN_drewN _ _ _) (congrArg (World.drewN _) (Nat.add_assoc _ _ _))⟩))))
                          go_meet
                          case rel => exact ⟨_, (!t198), (by first | rfl | (simp; done) | (simp [*]; done)), H', ⟨by have := HK1.out; first | omega | exact Nat.le_refl _⟩, ⟨by (with_reducible repeat (first | apply Kd.R_alloc | apply Kd.R_drewN | apply Kd.R_drew)); exact HO_4.out⟩, ⟨by repeat (first | (with_reducible first | exact HB.out | apply below_alloc | apply pw_below_drewN | apply below_drew1) | exact HB.out)⟩⟩
                        · rw [if_neg c17] at H
                          exact absurd H (by simp)
                      · rw [if_neg c16] at H
                        exact absurd H (by simp)
                    · rw [if_neg c15] at H
                      exact absurd H (by simp)
              case rest =>
                clear HC11
                try clear c1
                try clear p1
                try clear q1
                try clear hx1
                try clear p2
                try clear c3
                try clear c3b0
                try clear c3b1
                try clear c4
                try clear c6
                try clear c6b0
                try clear c6b1
                try clear c9
                try clear c9b0
                try clear c10
                try clear c10b0
                try clear c13
                try clear c13b0
                try clear c14
                try clear c14b0
                try clear c15
                try clear c15b0
                try clear c15b1
                try clear c16
                try clear c16b0
                try clear c16b1
                try clear c17
                try clear c17b0
                try clear c17b1
                try clear hx197_0
                try clear hx197_1
                try clear hx197_2
                try clear hx197_3
                try clear p197
                try clear p2
                try clear q197
                obtain ⟨kq, x67_10, rfl, HA, HJ10, HO_4, HB⟩ := hcut
                cases kq with
                | zero => exact absurd HA.out (by simp [cleanselaw07_LexerPlaces.j1])
                | succ kj10 =>
                  have H := HA.out
                  clear HA
                  simp only [cleanselaw07_LexerPlaces.j1] at H
                  by_cases c19 : x67_10 = true
                  · subst c19
                    have H1 : (some false) = some r := by rw [if_pos rfl] at H; exact H
                    clear H
                    have H := H1
                    clear H1
                    obtain rfl := Option.some.inj H
                    go_wp2
                    repeat (go_quiet (fail); try go_wp2)
                    go_ret
                    exact ⟨by first | rfl | (simp [errW_none, errW_some] <;> rfl) | (simp [*, errW_none, errW_some] <;> rfl), by repeat (first | (with_reducible first | exact HB.out | apply below_alloc | apply pw_below_drewN | apply below_drew1) | exact HB.out)⟩
                  · replace c19 := Bool.eq_false_iff.mpr c19
                    subst c19
                    have H1 : (if 0 ≤ x8_1 then (if x8_1 < (t191.length : Int) then (if ((rd_T30 t191 x8_1).f0) = 3 then (cleanselaw07_LexerPlaces.l1 kj10 a0 t190 t191 t193 x8_1 ((rd_T30 t191 x8_1).f3) (wrap64 (((rd_T30 t191 x8_1).f3) + 1))) else (if (wrap64 (((rd_T30 t191 x8_1).f3) + (((rd_T30 t191 x8_1).f1).size : Int))) > (a0.size : Int) then (some false) else (if (((rd_T30 t191 x8_1).f1).size : Int) = 0 then (some false) else (if 0 ≤ ((rd_T30 t191 x8_1).f3) then (if ((rd_T30 t191 x8_1).f3) ≤ (wrap64 (((rd_T30 t191 x8_1).f3) + (((rd_T30 t191 x8_1).f1).size : Int))) then (if (wrap64 (((rd_T30 t191 x8_1).f3) + (((rd_T30 t191 x8_1).f1).size : Int))) ≤ (a0.size : Int) then (if (a0.extract (((rd_T30 t191 x8_1).f3) : Int).toNat ((wrap64 (((rd_T30 t191 x8_1).f3) + (((rd_T30 t191 x8_1).f1).size : Int))) : Int).toNat).toList = ((rd_T30 t191 x8_1).f1).toList then (cleanselaw07_LexerPlaces.l0 kj10 a0 t190 t191 t193 (wrap64 (((rd_T30 t191 x8_1).f3) + (((rd_T30 t191 x8_1).f1).size : Int))) (wrap64 (x8_1 + 1))) else (some false)) else (none)) else (none)) else (none))))) else (none)) else (none)) = some r := by rw [if_neg (show ¬ (false = true) by decide)] at H; exact H
                    clear H
                    have H := H1
                    clear H1
                    by_cases c20 : 0 ≤ x8_1
                    · rw [if_pos c20] at H
                      have c20b0 : decide (0 ≤ x8_1) = true := decide_eq_true c20
                      clear c20
                      by_cases c21 : x8_1 < (t191.length : Int)
                      · rw [if_pos c21] at H
                        have c21b0 : decide (x8_1 < (t191.length : Int)) = true := decide_eq_true c21
                        clear c21
                        by_cases c22 : ((rd_T30 t191 x8_1).f0) = 3
                        · rw [if_pos c22] at H
                          have c22b0 : (((rd_T30 t191 x8_1).f0) == 3) = true := beq_iff_eq.mpr c22
                          have c22b1 : (((rd_T30 t191 x8_1).f0) != 3) = false := bne_eq_false_iff_eq.mpr c22
                          clear c22
                          have H' := Aside0.mk H
                          clear H
                          have p199 : 0 ≤ (x8_1 : Int) := of_decide_eq_true (by first | (with_reducible assumption) | assumption)
                          have q199 : x8_1 < (t191.length : Int) := of_decide_eq_true (by first | (with_reducible assumption) | assumption)
                          obtain ⟨ad199, e199, hx199_0, hx199_1, hx199_2, hx199_3⟩ := at_T30 (Kd.R_reads' HO_4.out).2.2 x8_1 p199 q199
                          obtain rfl : ad197 = ad199 := (by injection e199)
                          replace p199 := eq_true p199
                          replace q199 := eq_true q199
                          go_wp2
                          repeat (go_quiet (fail); try go_wp2)
                          go_loopg [10] kj10 (fun kq v10 w' => ∃ (x10_3 : Int), v10 = .int .i64 x10_3 ∧ Aside0 (cleanselaw07_LexerPlaces.l1 kq a0 t190 t191 t193 x8_1 ((rd_T30 t191 x8_1).f3) x10_3 = some r) ∧ Aside0 (kq ≤ kj10) ∧ Aside0 (Kd.R k30 30 w' w.heap.size (fun _ => True) (.slice (some ad197) t191.length co12) t191) ∧ Aside0 (Below w.heap.size w w'))
                          case atStart => exact ⟨(wrap64 (((rd_T30 t191 x8_1).f3) + 1)), (by first | rfl | (simp; done) | (simp [*]; done)), H', ⟨Nat.le_refl _⟩, ⟨by (with_reducible repeat (first | apply Kd.R_alloc | apply Kd.R_drewN | apply Kd.R_drew)); exact HO_4.out⟩, ⟨by repeat (first | (with_reducible first | exact HB.out | apply below_alloc | apply pw_below_drewN | apply below_drew1) | exact HB.out)⟩⟩
                          case round =>
                            clear H'
                            try clear c1
                            try clear p1
                            try clear q1
                            try clear hx1
                            try clear c2
                            try clear p2
                            try clear c3
                            try clear c3b0
                            try clear c3b1
                            try clear c4
                            try clear c6
                            try clear c6b0
                            try clear c6b1
                            try clear p6
                            try clear c9
                            try clear c9b0
                            try clear c10
                            try clear c10b0
                            try clear c13
                            try clear c13b0
                            try clear c14
                            try clear c14b0
                            try clear c15
                            try clear c15b0
                            try clear c15b1
                            try clear c16
                            try clear c16b0
                            try clear c16b1
                            try clear c17
                            try clear c17b0
                            try clear c17b1
                            try clear c19
                            try clear p19
                            try clear q19
                            try clear hx19
                            try clear c20
                            try clear c20b0
                            try clear c21
                            try clear c21b0
                            try clear c22
                            try clear c22b0
                            try clear c22b1
                            try clear hx197_0
                            try clear hx197_1
                            try clear hx197_2
                            try clear hx197_3
                            try clear hx199_0
                            try clear hx199_1
                            try clear hx199_2
                            try clear hx199_3
                            try clear p1
                            try clear p197
                            try clear p199
                            try clear p2
                            try clear q1
                            try clear q197
                            try clear q199
                            obtain ⟨x10_3, rfl, HA, HK3, HO_4, HB⟩ := hrel
                            cases gk with
                            | zero => exact absurd HA.out (by simp [cleanselaw07_LexerPlaces.l1])
                            | succ k3 =>
                              have H := HA.out
                              clear HA
                              simp only [cleanselaw07_LexerPlaces.l1] at H
                              have HC23 := Aside0.mk H
                              clear H
                              go_upto_region 16 with (fail)
                              repeat (go_quiet (fail); go_upto_region 16 with (fail))
                              go_cut [85] (fun v85 wc => ∃ (kq : Nat) (x85_22 : Bool), v85 = .bool x85_22 ∧ Aside0 (cleanselaw07_LexerPlaces.j3 kq a0 t190 t191 t193 x8_1 ((rd_T30 t191 x8_1).f3) x10_3 x85_22 = some r) ∧ Aside0 (kq ≤ k3) ∧ Aside0 (Kd.R k30 30 wc w.heap.size (fun _ => True) (.slice (some ad197) t191.length co12) t191) ∧ Aside0 (Below w.heap.size w wc))
                              case first =>
                                have H := HC23.out
                                clear HC23
                                by_cases c24 : x10_3 < (a0.size : Int)
                                · rw [if_pos c24] at H
                                  have c24b0 : decide (x10_3 < (a0.size : Int)) = true := decide_eq_true c24
                                  clear c24
                                  (first | rw [c24b0] | (simp only [i64_w, i32_w]; rw [c24b0]) | skip)
                                  by_cases c25 : 0 ≤ x10_3
                                  · rw [if_pos c25] at H
                                    have c25b0 : decide (0 ≤ x10_3) = true := decide_eq_true c25
                                    clear c25
                                    have H' := Aside0.mk H
                                    clear H
                                    have p26 : 0 ≤ (x10_3 : Int) := of_decide_eq_true (by first | (with_reducible assumption) | assumption)
                                    have q26 : x10_3 < (a0.size : Int) := of_decide_eq_true (by first | (with_reducible assumption) | assumption)
                                    have hx26 := bt_at a0 x10_3
                                    replace p26 := eq_true p26
                                    replace q26 := eq_true q26
                                    go_wp2
                                    repeat (go_quiet (fail); try go_wp2)
                                    go_meet
                                    case rel => exact ⟨_, (((bt a0 x10_3) != 34)), (by first | rfl | (simp; done) | (simp [*]; done)), H', ⟨by have := HK1.out; have := HJ10.out; have := HK3.out; first | omega | exact Nat.le_refl _⟩, ⟨by (with_reducible repeat (first | apply Kd.R_alloc | apply Kd.R_drewN | apply Kd.R_drew)); exact HO_4.out⟩, ⟨by repeat (first | (with_reducible first | exact HB.out | apply below_alloc | apply pw_below_drewN | apply below_drew1) | exact HB.out)⟩⟩
                                  · rw [if_neg c25] at H
                                    exact absurd H (by simp)
                                · rw [if_neg c24] at H
                                  have c24b0 : decide (x10_3 < (a0.size : Int)) = false := decide_eq_false c24
                                  clear c24
                                  (first | rw [c24b0] | (simp only [i64_w, i32_w]; rw [c24b0]) | skip)
                                  have H' := Aside0.mk H
                                  clear H
                                  go_wp2
                                  repeat (go_quiet (fail); try go_wp2)
                                  go_meet
                                  case rel => exact ⟨_, (false), (by first | rfl | (simp; done) | (simp [*]; done)), H', ⟨by have := HK1.out; have := HJ10.out; have := HK3.out; first | omega | exact Nat.le_refl _⟩, ⟨by (with_reducible repeat (first | apply Kd.R_alloc | apply Kd.R_drewN | apply Kd.R_drew)); exact HO_4.out⟩, ⟨by repeat (first | (with_reducible first | exact HB.out | apply below_alloc | apply pw_below_drewN | apply below_drew1) | exact HB.out)⟩⟩
                              case rest =>
                                clear HC23
                                try clear c1
                                try clear p1
                                try clear q1
                                try clear hx1
                                try clear c2
                                try clear p2
                                try clear q2
                                try clear hx2
                                try clear c3
                                try clear c3b0
                                try clear c3b1
                                try clear c4
                                try clear c6
                                try clear c6b0
                                try clear c6b1
                                try clear p6
                                try clear c9
                                try clear c9b0
                                try clear c10
                                try clear c10b0
                                try clear c13
                                try clear c13b0
                                try clear c14
                                try clear c14b0
                                try clear c15
                                try clear c15b0
                                try clear c15b1
                                try clear c16
                                try clear c16b0
                                try clear c16b1
                                try clear c17
                                try clear c17b0
                                try clear c17b1
                                try clear c19
                                try clear p19
                                try clear q19
                                try clear hx19
                                try clear c20
                                try clear c20b0
                                try clear c21
                                try clear c21b0
                                try clear c22
                                try clear c22b0
                                try clear c22b1
                                try clear c24
                                try clear c24b0
                                try clear c25
                                try clear c25b0
                                try clear p26
                                try clear q26
                                try clear hx26
                                try clear hx197_0
                                try clear hx197_1
                                try clear hx197_2
                                try clear hx197_3
                                try clear hx199_0
                                try clear hx199_1
                                try clear hx199_2
                                try clear hx199_3
                                try clear p1
                                try clear p19
                                try clear p197
                                try clear p199
                                try clear p2
                                try clear p26
                                try clear p6
                                try clear q1
                                try clear q19
                                try clear q197
                                try clear q199
                                try clear q26
                                obtain ⟨kq, x85_22, rfl, HA, HJ22, HO_4, HB⟩ := hcut
                                cases kq with
                                | zero => exact absurd HA.out (by simp [cleanselaw07_LexerPlaces.j3])
                                | succ kj22 =>
                                  have H := HA.out
                                  clear HA
                                  simp only [cleanselaw07_LexerPlaces.j3] at H
                                  by_cases c27 : x85_22 = true
                                  · subst c27
                                    have H1 : (if 0 ≤ x10_3 then (if x10_3 < (a0.size : Int) then (if (bt a0 x10_3) = 92 then (cleanselaw07_LexerPlaces.l1 kj22 a0 t190 t191 t193 x8_1 ((rd_T30 t191 x8_1).f3) (wrap64 ((wrap64 (x10_3 + 1)) + 1))) else (cleanselaw07_LexerPlaces.l1 kj22 a0 t190 t191 t193 x8_1 ((rd_T30 t191 x8_1).f3) (wrap64 (x10_3 + 1)))) else (none)) else (none)) = some r := by rw [if_pos rfl] at H; exact H
                                    clear H
                                    have H := H1
                                    clear H1
                                    by_cases c28 : 0 ≤ x10_3
                                    · rw [if_pos c28] at H
                                      have c28b0 : decide (0 ≤ x10_3) = true := decide_eq_true c28
                                      clear c28
                                      by_cases c29 : x10_3 < (a0.size : Int)
                                      · rw [if_pos c29] at H
                                        have c29b0 : decide (x10_3 < (a0.size : Int)) = true := decide_eq_true c29
                                        clear c29
                                        by_cases c31 : (bt a0 x10_3) = 92
                                        · rw [if_pos c31] at H
                                          have c31b0 : ((bt a0 x10_3) == 92) = true := beq_iff_eq.mpr c31
                                          have c31b1 : ((bt a0 x10_3) != 92) = false := bne_eq_false_iff_eq.mpr c31
                                          clear c31
                                          have H' := Aside0.mk H
                                          clear H
                                          have p30 : 0 ≤ (x10_3 : Int) := of_decide_eq_true (by first | (with_reducible assumption) | assumption)
                                          have q30 : x10_3 < (a0.size : Int) := of_decide_eq_true (by first | (with_reducible assumption) | assumption)
                                          have hx30 := bt_at a0 x10_3
                                          replace p30 := eq_true p30
                                          replace q30 := eq_true q30
                                          go_wp2
                                          repeat (go_quiet (fail); try go_wp2)
                                          go_roundg kj22
                                          case measure => have := HK1.out; have := HJ10.out; have := HK3.out; have := HJ22.out; omega
                                          case rel => exact ⟨(wrap64 ((wrap64 (x10_3 + 1)) + 1)), (by first | rfl | (simp; done) | (simp [*]; done)), H', ⟨by have := HK1.out; have := HJ10.out; have := HK3.out; have := HJ22.out; omega⟩, ⟨by (with_reducible repeat (first | apply Kd.R_alloc | apply Kd.R_drewN | apply Kd.R_drew)); exact HO_4.out⟩, ⟨by repeat (first | (with_reducible first | exact HB.out | apply below_alloc | apply pw_below_drewN | apply below_drew1) | exact HB.out)⟩⟩
                                        · rw [if_neg c31] at H
                                          have c31b0 : ((bt a0 x10_3) == 92) = false := beq_eq_false_iff_ne.mpr c31
                                          have c31b1 : ((bt a0 x10_3) != 92) = true := bne_iff_ne.mpr c31
                                          have H' := Aside0.mk H
                                          clear H
                                          have p30 : 0 ≤ (x10_3 : Int) := of_decide_eq_true (by first | (with_reducible assumption) | assumption)
                                          have q30 : x10_3 < (a0.size : Int) := of_decide_eq_true (by first | (with_reducible assumption) | assumption)
                                          have hx30 := bt_at a0 x10_3
                                          replace p30 := eq_true p30
                                          replace q30 := eq_true q30
                                          go_wp2
                                          repeat (go_quiet (fail); try go_wp2)
                                          go_roundg kj22
                                          case measure => have := HK1.out; have := HJ10.out; have := HK3.out; have := HJ22.out; omega
                                          case rel => exact ⟨(wrap64 (x10_3 + 1)), (by first | rfl | (simp; done) | (simp [*]; done)), H', ⟨by have := HK1.out; have := HJ10.out; have := HK3.out; have := HJ22.out; omega⟩, ⟨by (with_reducible repeat (first | apply Kd.R_alloc | apply Kd.R_drewN | apply Kd.R_drew)); exact HO_4.out⟩, ⟨by repeat (first | (with_reducible first | exact HB.out | apply below_alloc | apply pw_below_drewN | apply below_drew1) | exact HB.out)⟩⟩
                                      · rw [if_neg c29] at H
                                        exact absurd H (by simp)
                                    · rw [if_neg c28] at H
                                      exact absurd H (by simp)
                                  · replace c27 := Bool.eq_false_iff.mpr c27
                                    subst c27
                                    have H1 : (if 0 ≤ ((rd_T30 t191 x8_1).f3) then (if ((rd_T30 t191 x8_1).f3) < (a0.size : Int) then (if (bt a0 ((rd_T30 t191 x8_1).f3)) = 34 then (cleanselaw07_LexerPlaces.j4 kj22 a0 t190 t191 t193 x8_1 x10_3 (decide (x10_3 ≥ (a0.size : Int)))) else (cleanselaw07_LexerPlaces.j4 kj22 a0 t190 t191 t193 x8_1 x10_3 true)) else (none)) else (none)) = some r := by rw [if_neg (show ¬ (false = true) by decide)] at H; exact H
                                    clear H
                                    have H := H1
                                    clear H1
                                    have HC32 := Aside0.mk H
                                    clear H
                                    go_upto_region 20 with (fail)
                                    repeat (go_quiet (fail); go_upto_region 20 with (fail))
                                    go_cut [103] (fun v103 wc => ∃ (kq : Nat) (x103_31 : Bool), v103 = .bool x103_31 ∧ Aside0 (cleanselaw07_LexerPlaces.j4 kq a0 t190 t191 t193 x8_1 x10_3 x103_31 = some r) ∧ Aside0 (kq ≤ kj22) ∧ Aside0 (Kd.R k30 30 wc w.heap.size (fun _ => True) (.slice (some ad197) t191.length co12) t191) ∧ Aside0 (Below w.heap.size w wc))
                                    case first =>
                                      have H := HC32.out
                                      clear HC32
                                      by_cases c33 : 0 ≤ ((rd_T30 t191 x8_1).f3)
                                      · rw [if_pos c33] at H
                                        have c33b0 : decide (0 ≤ ((rd_T30 t191 x8_1).f3)) = true := decide_eq_true c33
                                        clear c33
                                        (first | rw [c33b0] | (simp only [i64_w, i32_w]; rw [c33b0]) | skip)
                                        by_cases c34 : ((rd_T30 t191 x8_1).f3) < (a0.size : Int)
                                        · rw [if_pos c34] at H
                                          have c34b0 : decide (((rd_T30 t191 x8_1).f3) < (a0.size : Int)) = true := decide_eq_true c34
                                          clear c34
                                          by_cases c36 : (bt a0 ((rd_T30 t191 x8_1).f3)) = 34
                                          · rw [if_pos c36] at H
                                            have c36b0 : ((bt a0 ((rd_T30 t191 x8_1).f3)) == 34) = true := beq_iff_eq.mpr c36
                                            have c36b1 : ((bt a0 ((rd_T30 t191 x8_1).f3)) != 34) = false := bne_eq_false_iff_eq.mpr c36
                                            clear c36
                                            have H' := Aside0.mk H
                                            clear H
                                            have p35 : 0 ≤ (((rd_T30 t191 x8_1).f3) : Int) := of_decide_eq_true (by first | (with_reducible assumption) | assumption)
                                            have q35 : ((rd_T30 t191 x8_1).f3) < (a0.size : Int) := of_decide_eq_true (by first | (with_reducible assumption) | assumption)
                                            have hx35 := bt_at a0 ((rd_T30 t191 x8_1).f3)
                                            replace p35 := eq_true p35
                                            replace q35 := eq_true q35
                                            go_wp2
                                            repeat (go_quiet (fail); try go_wp2)
                                            go_meet
                                            case rel => exact ⟨_, (decide (x10_3 ≥ (a0.size : Int))), (by first | rfl | (simp; done) | (simp [*]; done)), H', ⟨by have := HK1.out; have := HJ10.out; have := HK3.out; have := HJ22.out; first | omega | exact Nat.le_refl _⟩, ⟨by (with_reducible repeat (first | apply Kd.R_alloc | apply Kd.R_drewN | apply Kd.R_drew)); exact HO_4.out⟩, ⟨by repeat (first | (with_reducible first | exact HB.out | apply below_alloc | apply pw_below_drewN | apply below_drew1) | exact HB.out)⟩⟩
                                          · rw [if_neg c36] at H
                                            have c36b0 : ((bt a0 ((rd_T30 t191 x8_1).f3)) == 34) = false := beq_eq_false_iff_ne.mpr c36
                                            have c36b1 : ((bt a0 ((rd_T30 t191 x8_1).f3)) != 34) = true := bne_iff_ne.mpr c36
                                            have H' := Aside0.mk H
                                            clear H
                                            have p35 : 0 ≤ (((rd_T30 t191 x8_1).f3) : Int) := of_decide_eq_true (by first | (with_reducible assumption) | assumption)
                                            have q35 : ((rd_T30 t191 x8_1).f3) < (a0.size : Int) := of_decide_eq_true (by first | (with_reducible assumption) | assumption)
                                            have hx35 := bt_at a0 ((rd_T30 t191 x8_1).f3)
                                            replace p35 := eq_true p35
                                            replace q35 := eq_true q35
                                            go_wp2
                                            repeat (go_quiet (fail); try go_wp2)
                                            go_meet
                                            case rel => exact ⟨_, (true), (by first | rfl | (simp; done) | (simp [*]; done)), H', ⟨by have := HK1.out; have := HJ10.out; have := HK3.out; have := HJ22.out; first | omega | exact Nat.le_refl _⟩, ⟨by (with_reducible repeat (first | apply Kd.R_alloc | apply Kd.R_drewN | apply Kd.R_drew)); exact HO_4.out⟩, ⟨by repeat (first | (with_reducible first | exact HB.out | apply below_alloc | apply pw_below_drewN | apply below_drew1) | exact HB.out)⟩⟩
                                        · rw [if_neg c34] at H
                                          exact absurd H (by simp)
                                      · rw [if_neg c33] at H
                                        exact absurd H (by simp)
                                    case rest =>
                                      clear HC32
                                      try clear c1
                                      try clear p1
                                      try clear q1
                                      try clear hx1
                                      try clear c2
                                      try clear p2
                                      try clear q2
                                      try clear hx2
                                      try clear c3
                                      try clear c3b0
                                      try clear c3b1
                                      try clear p3
                                      try clear q3
                                      try clear hx3
                                      try clear c4
                                      try clear c6
                                      try clear c6b0
                                      try clear c6b1
                                      try clear p6
                                      try clear c9
                                      try clear c9b0
                                      try clear c10
                                      try clear c10b0
                                      try clear c13
                                      try clear c13b0
                                      try clear c14
                                      try clear c14b0
                                      try clear c15
                                      try clear c15b0
                                      try clear c15b1
                                      try clear c16
                                      try clear c16b0
                                      try clear c16b1
                                      try clear c17
                                      try clear c17b0
                                      try clear c17b1
                                      try clear c19
                                      try clear p19
                                      try clear q19
                                      try clear hx19
                                      try clear c20
                                      try clear c20b0
                                      try clear c21
                                      try clear c21b0
                                      try clear c22
                                      try clear c22b0
                                      try clear c22b1
                                      try clear c24
                                      try clear c24b0
                                      try clear c25
                                      try clear c25b0
                                      try clear p26
                                      try clear q26
                                      try clear hx26
                                      try clear c27
                                      try clear c28
                                      try clear c28b0
                                      try clear c29
                                      try clear c29b0
                                      try clear p30
                                      try clear q30
                                      try clear hx30
                                      try clear c31
                                      try clear c31b0
                                      try clear c31b1
                                      try clear c33
                                      try clear c33b0
                                      try clear c34
                                      try clear c34b0
                                      try clear p35
                                      try clear q35
                                      try clear hx35
                                      try clear c36
                                      try clear c36b0
                                      try clear c36b1
                                      try clear hx197_0
                                      try clear hx197_1
                                      try clear hx197_2
                                      try clear hx197_3
                                      try clear hx199_0
                                      try clear hx199_1
                                      try clear hx199_2
                                      try clear hx199_3
                                      try clear p1
                                      try clear p19
                                      try clear p197
                                      try clear p199
                                      try clear p2
                                      try clear p26
                                      try clear p30
                                      try clear p35
                                      try clear p6
                                      try clear q1
                                      try clear q19
                                      try clear q197
                                      try clear q199
                                      try clear q2
                                      try clear q26
                                      try clear q30
                                      try clear q35
                                      obtain ⟨kq, x103_31, rfl, HA, HJ31, HO_4, HB⟩ := hcut
                                      cases kq with
                                      | zero => exact absurd HA.out (by simp [cleanselaw07_LexerPlaces.j4])
                                      | succ kj31 =>
                                        have H := HA.out
                                        clear HA
                                        simp only [cleanselaw07_LexerPlaces.j4] at H
                                        by_cases c37 : x103_31 = true
                                        · subst c37
                                          have H1 : (some false) = some r := by rw [if_pos rfl] at H; exact H
                                          clear H
                                          have H := H1
                                          clear H1
                                          obtain rfl := Option.some.inj H
                                          go_wp2
                                          repeat (go_quiet (fail); try go_wp2)
                                          go_ret
                                          exact ⟨by first | rfl | (simp [errW_none, errW_some] <;> rfl) | (simp [*, errW_none, errW_some] <;> rfl), by repeat (first | (with_reducible first | exact HB.out | apply below_alloc | apply pw_below_drewN | apply below_drew1) | exact HB.out)⟩
                                        · replace c37 := Bool.eq_false_iff.mpr c37
                                          subst c37
                                          have H1 : (cleanselaw07_LexerPlaces.l0 kj31 a0 t190 t191 t193 (wrap64 (x10_3 + 1)) (wrap64 (x8_1 + 1))) = some r := by rw [if_neg (show ¬ (false = true) by decide)] at H; exact H
                                          clear H
                                          have H := H1
                                          clear H1
                                          have H' := Aside0.mk H
                                          clear H
                                          go_wp2
                                          repeat (go_quiet (fail); try go_wp2)
                                          go_roundg kj31
                                          case measure => have := HK1.out; have := HJ10.out; have := HK3.out; have := HJ22.out; have := HJ31.out; omega
                                          case rel => exact ⟨(wrap64 (x10_3 + 1)), (wrap64 (x8_1 + 1)), (by first | rfl | (simp; done) | (simp [*]; done)), (by first | rfl | (simp; done) | (simp [*]; done)), H', ⟨by have := HK1.out; have := HJ10.out; have := HK3.out; have := HJ22.out; have := HJ31.out; omega⟩, ⟨by (with_reducible repeat (first | apply Kd.R_alloc | apply Kd.R_drewN | apply Kd.R_drew)); exact HO_4.out⟩, ⟨by repeat (first | (with_reducible first | exact HB.out | apply below_alloc | apply pw_below_drewN | apply below_drew1) | exact HB.out)⟩⟩
                        · rw [if_neg c22] at H
                          have c22b0 : (((rd_T30 t191 x8_1).f0) == 3) = false := beq_eq_false_iff_ne.mpr c22
                          have c22b1 : (((rd_T30 t191 x8_1).f0) != 3) = true := bne_iff_ne.mpr c22
                          by_cases c38 : (wrap64 (((rd_T30 t191 x8_1).f3) + (((rd_T30 t191 x8_1).f1).size : Int))) > (a0.size : Int)
                          · rw [if_pos c38] at H
                            have c38b0 : decide ((a0.size : Int) < (wrap64 (((rd_T30 t191 x8_1).f3) + (((rd_T30 t191 x8_1).f1).size : Int)))) = true := decide_eq_true c38
                            clear c38
                            obtain rfl := Option.some.inj H
                            have p199 : 0 ≤ (x8_1 : Int) := of_decide_eq_true (by first | (with_reducible assumption) | assumption)
                            have q199 : x8_1 < (t191.length : Int) := of_decide_eq_true (by first | (with_reducible assumption) | assumption)
                            obtain ⟨ad199, e199, hx199_0, hx199_1, hx199_2, hx199_3⟩ := at_T30 (Kd.R_reads' HO_4.out).2.2 x8_1 p199 q199
                            obtain rfl : ad197 = ad199 := (by injection e199)
                            replace p199 := eq_true p199
                            replace q199 := eq_true q199
                            have p200 : 0 ≤ (x8_1 : Int) := of_decide_eq_true (by first | (with_reducible assumption) | assumption)
                            have q200 : x8_1 < (t191.length : Int) := of_decide_eq_true (by first | (with_reducible assumption) | assumption)
                            obtain ⟨ad200, e200, hx200_0, hx200_1, hx200_2, hx200_3⟩ := at_T30 (Kd.R_reads' HO_4.out).2.2 x8_1 p200 q200
                            obtain rfl : ad197 = ad200 := (by injection e200)
                            replace p200 := eq_true p200
                            replace q200 := eq_true q200
                            go_wp2
                            repeat (go_quiet (fail); try go_wp2)
                            go_ret
                            exact ⟨by first | rfl | (simp [errW_none, errW_some] <;> rfl) | (simp [*, errW_none, errW_some] <;> rfl), by repeat (first | (with_reducible first | exact HB.out | apply below_alloc | apply pw_below_drewN | apply below_drew1) | exact HB.out)⟩
                          · rw [if_neg c38] at H
                            have c38b0 : decide ((a0.size : Int) < (wrap64 (((rd_T30 t191 x8_1).f3) + (((rd_T30 t191 x8_1).f1).size : Int)))) = false := decide_eq_false c38
                            clear c38
                            by_cases c39 : (((rd_T30 t191 x8_1).f1).size : Int) = 0
                            · rw [if_pos c39] at H
                              have c39b0 : ((((rd_T30 t191 x8_1).f1).size : Int) == 0) = true := beq_iff_eq.mpr c39
                              have c39b1 : ((((rd_T30 t191 x8_1).f1).size : Int) != 0) = false := bne_eq_false_iff_eq.mpr c39
                              clear c39
                              obtain rfl := Option.some.inj H
                              have p199 : 0 ≤ (x8_1 : Int) := of_decide_eq_true (by first | (with_reducible assumption) | assumption)
                              have q199 : x8_1 < (t191.length : Int) := of_decide_eq_true (by first | (with_reducible assumption) | assumption)
                              obtain ⟨ad199, e199, hx199_0, hx199_1, hx199_2, hx199_3⟩ := at_T30 (Kd.R_reads' HO_4.out).2.2 x8_1 p199 q199
                              obtain rfl : ad197 = ad199 := (by injection e199)
                              replace p199 := eq_true p199
                              replace q199 := eq_true q199
                              have p200 : 0 ≤ (x8_1 : Int) := of_decide_eq_true (by first | (with_reducible assumption) | assumption)
                              have q200 : x8_1 < (t191.length : Int) := of_decide_eq_true (by first | (with_reducible assumption) | assumption)
                              obtain ⟨ad200, e200, hx200_0, hx200_1, hx200_2, hx200_3⟩ := at_T30 (Kd.R_reads' HO_4.out).2.2 x8_1 p200 q200
                              obtain rfl : ad197 = ad200 := (by injection e200)
                              replace p200 := eq_true p200
                              replace q200 := eq_true q200
                              have p201 : 0 ≤ (x8_1 : Int) := of_decide_eq_true (by first | (with_reducible assumption) | assumption)
                              have q201 : x8_1 < (t191.length : Int) := of_decide_eq_true (by first | (with_reducible assumption) | assumption)
                              obtain ⟨ad201, e201, hx201_0, hx201_1, hx201_2, hx201_3⟩ := at_T30 (Kd.R_reads' HO_4.out).2.2 x8_1 p201 q201
                              obtain rfl : ad197 = ad201 := (by injection e201)
                              replace p201 := eq_true p201
                              replace q201 := eq_true q201
                              go_wp2
                              repeat (go_quiet (fail); try go_wp2)
                              go_ret
                              exact ⟨by first | rfl | (simp [errW_none, errW_some] <;> rfl) | (simp [*, errW_none, errW_some] <;> rfl), by repeat (first | (with_reducible first | exact HB.out | apply below_alloc | apply pw_below_drewN | apply below_drew1) | exact HB.out)⟩
                            · rw [if_neg c39] at H
                              have c39b0 : ((((rd_T30 t191 x8_1).f1).size : Int) == 0) = false := beq_eq_false_iff_ne.mpr c39
                              have c39b1 : ((((rd_T30 t191 x8_1).f1).size : Int) != 0) = true := bne_iff_ne.mpr c39
                              by_cases c40 : 0 ≤ ((rd_T30 t191 x8_1).f3)
                              · rw [if_pos c40] at H
                                have c40b0 := eq_true c40
                                have c40b1 : decide (0 ≤ ((rd_T30 t191 x8_1).f3)) = true := decide_eq_true c40
                                clear c40
                                by_cases c41 : ((rd_T30 t191 x8_1).f3) ≤ (wrap64 (((rd_T30 t191 x8_1).f3) + (((rd_T30 t191 x8_1).f1).size : Int)))
                                · rw [if_pos c41] at H
                                  have c41b0 := eq_true c41
                                  have c41b1 : decide (((rd_T30 t191 x8_1).f3) ≤ (wrap64 (((rd_T30 t191 x8_1).f3) + (((rd_T30 t191 x8_1).f1).size : Int)))) = true := decide_eq_true c41
                                  by_cases c42 : (wrap64 (((rd_T30 t191 x8_1).f3) + (((rd_T30 t191 x8_1).f1).size : Int))) ≤ (a0.size : Int)
                                  · rw [if_pos c42] at H
                                    have c42b0 := eq_true c42
                                    have c42b1 : decide ((wrap64 (((rd_T30 t191 x8_1).f3) + (((rd_T30 t191 x8_1).f1).size : Int))) ≤ (a0.size : Int)) = true := decide_eq_true c42
                                    by_cases c43 : (a0.extract (((rd_T30 t191 x8_1).f3) : Int).toNat ((wrap64 (((rd_T30 t191 x8_1).f3) + (((rd_T30 t191 x8_1).f1).size : Int))) : Int).toNat).toList = ((rd_T30 t191 x8_1).f1).toList
                                    · rw [if_pos c43] at H
                                      have c43b0 : ((a0.extract (((rd_T30 t191 x8_1).f3) : Int).toNat ((wrap64 (((rd_T30 t191 x8_1).f3) + (((rd_T30 t191 x8_1).f1).size : Int))) : Int).toNat).toList == ((rd_T30 t191 x8_1).f1).toList) = true := beq_iff_eq.mpr c43
                                      have c43b1 : ((a0.extract (((rd_T30 t191 x8_1).f3) : Int).toNat ((wrap64 (((rd_T30 t191 x8_1).f3) + (((rd_T30 t191 x8_1).f1).size : Int))) : Int).toNat).toList != ((rd_T30 t191 x8_1).f1).toList) = false := bne_eq_false_iff_eq.mpr c43
                                      clear c43
                                      have H' := Aside0.mk H
                                      clear H
                                      have p199 : 0 ≤ (x8_1 : Int) := of_decide_eq_true (by first | (with_reducible assumption) | assumption)
                                      have q199 : x8_1 < (t191.length : Int) := of_decide_eq_true (by first | (with_reducible assumption) | assumption)
                                      obtain ⟨ad199, e199, hx199_0, hx199_1, hx199_2, hx199_3⟩ := at_T30 (Kd.R_reads' HO_4.out).2.2 x8_1 p199 q199
                                      obtain rfl : ad197 = ad199 := (by injection e199)
                                      replace p199 := eq_true p199
                                      replace q199 := eq_true q199
                                      have p200 : 0 ≤ (x8_1 : Int) := of_decide_eq_true (by first | (with_reducible assumption) | assumption)
                                      have q200 : x8_1 < (t191.length : Int) := of_decide_eq_true (by first | (with_reducible assumption) | assumption)
                                      obtain ⟨ad200, e200, hx200_0, hx200_1, hx200_2, hx200_3⟩ := at_T30 (Kd.R_reads' HO_4.out).2.2 x8_1 p200 q200
                                      obtain rfl : ad197 = ad200 := (by injection e200)
                                      replace p200 := eq_true p200
                                      replace q200 := eq_true q200
                                      have p201 : 0 ≤ (x8_1 : Int) := of_decide_eq_true (by first | (with_reducible assumption) | assumption)
                                      have q201 : x8_1 < (t191.length : Int) := of_decide_eq_true (by first | (with_reducible assumption) | assumption)
                                      obtain ⟨ad201, e201, hx201_0, hx201_1, hx201_2, hx201_3⟩ := at_T30 (Kd.R_reads' HO_4.out).2.2 x8_1 p201 q201
                                      obtain rfl : ad197 = ad201 := (by injection e201)
                                      replace p201 := eq_true p201
                                      replace q201 := eq_true q201
                                      have p202 : 0 ≤ (x8_1 : Int) := of_decide_eq_true (by first | (with_reducible assumption) | assumption)
                                      have q202 : x8_1 < (t191.length : Int) := of_decide_eq_true (by first | (with_reducible assumption) | assumption)
                                      obtain ⟨ad202, e202, hx202_0, hx202_1, hx202_2, hx202_3⟩ := at_T30 (Kd.R_reads' HO_4.out).2.2 x8_1 p202 q202
                                      obtain rfl : ad197 = ad202 := (by injection e202)
                                      replace p202 := eq_true p202
                                      replace q202 := eq_true q202
                                      have p203 : 0 ≤ (x8_1 : Int) := of_decide_eq_true (by first | (with_reducible assumption) | assumption)
                                      have q203 : x8_1 < (t191.length : Int) := of_decide_eq_true (by first | (with_reducible assumption) | assumption)
                                      obtain ⟨ad203, e203, hx203_0, hx203_1, hx203_2, hx203_3⟩ := at_T30 (Kd.R_reads' HO_4.out).2.2 x8_1 p203 q203
                                      obtain rfl : ad197 = ad203 := (by injection e203)
                                      replace p203 := eq_true p203
                                      replace q203 := eq_true q203
                                      have p204 : 0 ≤ (x8_1 : Int) := of_decide_eq_true (by first | (with_reducible assumption) | assumption)
                                      have q204 : x8_1 < (t191.length : Int) := of_decide_eq_true (by first | (with_reducible assumption) | assumption)
                                      obtain ⟨ad204, e204, hx204_0, hx204_1, hx204_2, hx204_3⟩ := at_T30 (Kd.R_reads' HO_4.out).2.2 x8_1 p204 q204
                                      obtain rfl : ad197 = ad204 := (by injection e204)
                                      replace p204 := eq_true p204
                                      replace q204 := eq_true q204
                                      go_wp2
                                      repeat (go_quiet (fail); try go_wp2)
                                      go_roundg kj10
                                      case measure => have := HK1.out; have := HJ10.out; omega
                                      case rel => exact ⟨(wrap64 (((rd_T30 t191 x8_1).f3) + (((rd_T30 t191 x8_1).f1).size : Int))), (wrap64 (x8_1 + 1)), (by first | rfl | (simp; done) | (simp [*]; done)), (by first | rfl | (simp; done) | (simp [*]; done)), H', ⟨by have := HK1.out; have := HJ10.out; omega⟩, ⟨by (with_reducible repeat (first | apply Kd.R_alloc | apply Kd.R_drewN | apply Kd.R_drew)); exact HO_4.out⟩, ⟨by repeat (first | (with_reducible first | exact HB.out | apply below_alloc | apply pw_below_drewN | apply below_drew1) | exact HB.out)⟩⟩
                                    · rw [if_neg c43] at H
                                      have c43b0 : ((a0.extract (((rd_T30 t191 x8_1).f3) : Int).toNat ((wrap64 (((rd_T30 t191 x8_1).f3) + (((rd_T30 t191 x8_1).f1).size : Int))) : Int).toNat).toList == ((rd_T30 t191 x8_1).f1).toList) = false := beq_eq_false_iff_ne.mpr c43
                                      have c43b1 : ((a0.extract (((rd_T30 t191 x8_1).f3) : Int).toNat ((wrap64 (((rd_T30 t191 x8_1).f3) + (((rd_T30 t191 x8_1).f1).size : Int))) : Int).toNat).toList != ((rd_T30 t191 x8_1).f1).toList) = true := bne_iff_ne.mpr c43
                                      obtain rfl := Option.some.inj H
                                      have p199 : 0 ≤ (x8_1 : Int) := of_decide_eq_true (by first | (with_reducible assumption) | assumption)
                                      have q199 : x8_1 < (t191.length : Int) := of_decide_eq_true (by first | (with_reducible assumption) | assumption)
                                      obtain ⟨ad199, e199, hx199_0, hx199_1, hx199_2, hx199_3⟩ := at_T30 (Kd.R_reads' HO_4.out).2.2 x8_1 p199 q199
                                      obtain rfl : ad197 = ad199 := (by injection e199)
                                      replace p199 := eq_true p199
                                      replace q199 := eq_true q199
                                      have p200 : 0 ≤ (x8_1 : Int) := of_decide_eq_true (by first | (with_reducible assumption) | assumption)
                                      have q200 : x8_1 < (t191.length : Int) := of_decide_eq_true (by first | (with_reducible assumption) | assumption)
                                      obtain ⟨ad200, e200, hx200_0, hx200_1, hx200_2, hx200_3⟩ := at_T30 (Kd.R_reads' HO_4.out).2.2 x8_1 p200 q200
                                      obtain rfl : ad197 = ad200 := (by injection e200)
                                      replace p200 := eq_true p200
                                      replace q200 := eq_true q200
                                      have p201 : 0 ≤ (x8_1 : Int) := of_decide_eq_true (by first | (with_reducible assumption) | assumption)
                                      have q201 : x8_1 < (t191.length : Int) := of_decide_eq_true (by first | (with_reducible assumption) | assumption)
                                      obtain ⟨ad201, e201, hx201_0, hx201_1, hx201_2, hx201_3⟩ := at_T30 (Kd.R_reads' HO_4.out).2.2 x8_1 p201 q201
                                      obtain rfl : ad197 = ad201 := (by injection e201)
                                      replace p201 := eq_true p201
                                      replace q201 := eq_true q201
                                      have p202 : 0 ≤ (x8_1 : Int) := of_decide_eq_true (by first | (with_reducible assumption) | assumption)
                                      have q202 : x8_1 < (t191.length : Int) := of_decide_eq_true (by first | (with_reducible assumption) | assumption)
                                      obtain ⟨ad202, e202, hx202_0, hx202_1, hx202_2, hx202_3⟩ := at_T30 (Kd.R_reads' HO_4.out).2.2 x8_1 p202 q202
                                      obtain rfl : ad197 = ad202 := (by injection e202)
                                      replace p202 := eq_true p202
                                      replace q202 := eq_true q202
                                      have p203 : 0 ≤ (x8_1 : Int) := of_decide_eq_true (by first | (with_reducible assumption) | assumption)
                                      have q203 : x8_1 < (t191.length : Int) := of_decide_eq_true (by first | (with_reducible assumption) | assumption)
                                      obtain ⟨ad203, e203, hx203_0, hx203_1, hx203_2, hx203_3⟩ := at_T30 (Kd.R_reads' HO_4.out).2.2 x8_1 p203 q203
                                      obtain rfl : ad197 = ad203 := (by injection e203)
                                      replace p203 := eq_true p203
                                      replace q203 := eq_true q203
                                      go_wp2
                                      repeat (go_quiet (fail); try go_wp2)
                                      go_ret
                                      exact ⟨by first | rfl | (simp [errW_none, errW_some] <;> rfl) | (simp [*, errW_none, errW_some] <;> rfl), by repeat (first | (with_reducible first | exact HB.out | apply below_alloc | apply pw_below_drewN | apply below_drew1) | exact HB.out)⟩
                                  · rw [if_neg c42] at H
                                    exact absurd H (by simp)
                                · rw [if_neg c41] at H
                                  exact absurd H (by simp)
                              · rw [if_neg c40] at H
                                exact absurd H (by simp)
                      · rw [if_neg c21] at H
                        exact absurd H (by simp)
                    · rw [if_neg c20] at H
                      exact absurd H (by simp)
            · rw [if_neg c10] at H
              exact absurd H (by simp)
          · rw [if_neg c9] at H
            have c9b0 : decide (x8_1 < (t191.length : Int)) = false := decide_eq_false c9
            clear c9
            by_cases c44 : t190 = true
            · subst c44
              have H1 : (if t193 = 0 then (if 0 ≤ x7_1 then (if x7_1 ≤ (a0.size : Int) then ((cleanseref07_Gaps.f k1 (a0.extract (x7_1 : Int).toNat a0.size)).bind fun t196 => (some t196)) else (none)) else (none)) else (some false)) = some r := by rw [if_pos rfl] at H; exact H
              clear H
              have H := H1
              clear H1
              by_cases c45 : t193 = 0
              · rw [if_pos c45] at H
                have c45b0 : (t193 == 0) = true := beq_iff_eq.mpr c45
                have c45b1 : (t193 != 0) = false := bne_eq_false_iff_eq.mpr c45
                clear c45
                by_cases c46 : 0 ≤ x7_1
                · rw [if_pos c46] at H
                  have c46b0 := eq_true c46
                  have c46b1 : decide (0 ≤ x7_1) = true := decide_eq_true c46
                  clear c46
                  by_cases c47 : x7_1 ≤ (a0.size : Int)
                  · rw [if_pos c47] at H
                    have c47b0 := eq_true c47
                    have c47b1 : decide (x7_1 ≤ (a0.size : Int)) = true := decide_eq_true c47
                    clear c47
                    replace H := Option.bind_eq_some_iff.mp H
                    obtain ⟨t196, A480, H⟩ := H
                    replace H : (some t196) = some r := H
                    have A48 := Aside0.mk A480
                    clear A480
                    obtain rfl := Option.some.inj H
                    obtain ⟨Ao49, co49, eo49⟩ := Kd.R_slice HO_4.out
                    subst eo49
                    go_wp2_with (first | (go_at_call 12; (with_reducible refine (cleanseref07_Gaps.calls k1 (a0.extract (x7_1 : Int).toNat a0.size) t196 _ A48.out).mono ?_); rintro e w' ⟨rfl, ⟨nd, rfl⟩⟩; (try first | exact ⟨rfl, _, World.drewN_drewN _ _ _⟩ | exact ⟨rfl, _, Eq.trans (World.drewN_drewN _ _ _) (congrArg (World.drewN _) (Nat.add_assoc _ _ _))⟩)))
                    repeat (go_quiet (first | (go_at_call 12; (with_reducible refine (cleanseref07_Gaps.calls k1 (a0.extract (x7_1 : Int).toNat a0.size) t196 _ A48.out).mono ?_); rintro e w' ⟨rfl, ⟨nd, rfl⟩⟩; (try first | exact ⟨rfl, _, World.drewN_drewN _ _ _⟩ | exact ⟨rfl, _, Eq.trans (World.drewN_drewN _ _ _) (congrArg (World.drewN _) (Nat.add_assoc _ _ _))⟩))); try go_wp2_with (first | (go_at_call 12; (with_reducible refine (cleanseref07_Gaps.calls k1 (a0.extract (x7_1 : Int).toNat a0.size) t196 _ A48.out).mono ?_); rintro e w' ⟨rfl, ⟨nd, rfl⟩⟩; (try first | exact ⟨rfl, _, World.drewN_drewN _ _ _⟩ | exact ⟨rfl, _, Eq.trans (World.drewN_drewN _ _ _) (congrArg (World.drewN _) (Nat.add_assoc _ _ _))⟩))))
                    go_ret
                    exact ⟨by first | rfl | (simp [errW_none, errW_some] <;> rfl) | (simp [*, errW_none, errW_some] <;> rfl), by repeat (first | (with_reducible first | exact HB.out | apply below_alloc | apply pw_below_drewN | apply below_drew1) | exact HB.out)⟩
                  · rw [if_neg c47] at H
                    exact absurd H (by simp)
                · rw [if_neg c46] at H
                  exact absurd H (by simp)
              · rw [if_neg c45] at H
                have c45b0 : (t193 == 0) = false := beq_eq_false_iff_ne.mpr c45
                have c45b1 : (t193 != 0) = true := bne_iff_ne.mpr c45
                obtain rfl := Option.some.inj H
                obtain ⟨Ao50, co50, eo50⟩ := Kd.R_slice HO_4.out
                subst eo50
                go_wp2
                repeat (go_quiet (fail); try go_wp2)
                go_ret
                exact ⟨by first | rfl | (simp [errW_none, errW_some] <;> rfl) | (simp [*, errW_none, errW_some] <;> rfl), by repeat (first | (with_reducible first | exact HB.out | apply below_alloc | apply pw_below_drewN | apply below_drew1) | exact HB.out)⟩
            · replace c44 := Bool.eq_false_iff.mpr c44
              subst c44
              have H1 : (some false) = some r := by rw [if_neg (show ¬ (false = true) by decide)] at H; exact H
              clear H
              have H := H1
              clear H1
              obtain rfl := Option.some.inj H
              obtain ⟨Ao51, co51, eo51⟩ := Kd.R_slice HO_4.out
              subst eo51
              go_wp2
              repeat (go_quiet (fail); try go_wp2)
              go_ret
              exact ⟨by first | rfl | (simp [errW_none, errW_some] <;> rfl) | (simp [*, errW_none, errW_some] <;> rfl), by repeat (first | (with_reducible first | exact HB.out | apply below_alloc | apply pw_below_drewN | apply below_drew1) | exact HB.out)⟩
    · rw [if_neg c6] at H
      have c6b0 : (t192 == 0) = false := beq_eq_false_iff_ne.mpr c6
      have c6b1 : (t192 != 0) = true := bne_iff_ne.mpr c6
      by_cases c52 : t190 = true
      · subst c52
        have H1 : (if (t191.length : Int) = 0 then (if t193 ≥ 0 then (some (decide (t193 < (a0.size : Int)))) else (some false)) else (some false)) = some r := by rw [if_pos rfl] at H; exact H
        clear H
        have H := H1
        clear H1
        by_cases c53 : (t191.length : Int) = 0
        · rw [if_pos c53] at H
          have c53b0 : ((t191.length : Int) == 0) = true := beq_iff_eq.mpr c53
          have c53b1 : ((t191.length : Int) != 0) = false := bne_eq_false_iff_eq.mpr c53
          clear c53
          by_cases c54 : t193 ≥ 0
          · rw [if_pos c54] at H
            have c54b0 : decide (0 ≤ t193) = true := decide_eq_true c54
            clear c54
            obtain rfl := Option.some.inj H
            go_enter Tryd.func4, Tryd.ntmps4
            go_wp2_with (first | (go_at_call 8; (with_reducible refine (cleanselaw07_head.calls  true _ A2.out).mono ?_); rintro e w55 ⟨rfl, hb⟩; have n0_ := Aside0.mk (below_step (by repeat (first | (with_reducible first | exact HB.out | apply below_alloc | apply pw_below_drewN | apply below_drew1) | exact HB.out)) hb); clear HB; have HB := n0_; clear n0_; (try clear hb); (try clear hb2); (try clear hk); (try clear hi)) | (go_at_call 9; (with_reducible refine (X.lexer_Lex.calls a0 t191 t192 t193 _ A5.out).mono ?_); rintro e w56 ⟨v194, rfl, ho0, hb⟩; have n0_ := Aside0.mk (Kd.R_lower ho0 (below_size (by repeat (first | (with_reducible first | exact HB.out | apply below_alloc | apply pw_below_drewN | apply below_drew1) | exact HB.out)))); have n1_ := Aside0.mk (below_step (by repeat (first | (with_reducible first | exact HB.out | apply below_alloc | apply pw_below_drewN | apply below_drew1) | exact HB.out)) hb); clear HB; have HO195 := n0_; have HB := n1_; clear n0_ n1_; (try clear hb); (try clear hb2); (try clear hk); (try clear hi); (try clear ho0); obtain ⟨Ao57, co57, eo57⟩ := Kd.R_slice HO195.out; subst eo57))
            repeat (go_quiet (first | (go_at_call 8; (with_reducible refine (cleanselaw07_head.calls  true _ A2.out).mono ?_); rintro e w55 ⟨rfl, hb⟩; have n0_ := Aside0.mk (below_step (by repeat (first | (with_reducible first | exact HB.out | apply below_alloc | apply pw_below_drewN | apply below_drew1) | exact HB.out)) hb); clear HB; have HB := n0_; clear n0_; (try clear hb); (try clear hb2); (try clear hk); (try clear hi)) | (go_at_call 9; (with_reducible refine (X.lexer_Lex.calls a0 t191 t192 t193 _ A5.out).mono ?_); rintro e w56 ⟨v194, rfl, ho0, hb⟩; have n0_ := Aside0.mk (Kd.R_lower ho0 (below_size (by repeat (first | (with_reducible first | exact HB.out | apply below_alloc | apply pw_below_drewN | apply below_drew1) | exact HB.out)))); have n1_ := Aside0.mk (below_step (by repeat (first | (with_reducible first | exact HB.out | apply below_alloc | apply pw_below_drewN | apply below_drew1) | exact HB.out)) hb); clear HB; have HO195 := n0_; have HB := n1_; clear n0_ n1_; (try clear hb); (try clear hb2); (try clear hk); (try clear hi); (try clear ho0); obtain ⟨Ao57, co57, eo57⟩ := Kd.R_slice HO195.out; subst eo57)); try go_wp2_with (first | (go_at_call 8; (with_reducible refine (cleanselaw07_head.calls  true _ A2.out).mono ?_); rintro e w55 ⟨rfl, hb⟩; have n0_ := Aside0.mk (below_step (by repeat (first | (with_reducible first | exact HB.out | apply below_alloc | apply pw_below_drewN | apply below_drew1) | exact HB.out)) hb); clear HB; have HB := n0_; clear n0_; (try clear hb); (try clear hb2); (try clear hk); (try clear hi)) | (go_at_call 9; (with_reducible refine (X.lexer_Lex.calls a0 t191 t192 t193 _ A5.out).mono ?_); rintro e w56 ⟨v194, rfl, ho0, hb⟩; have n0_ := Aside0.mk (Kd.R_lower ho0 (below_size (by repeat (first | (with_reducible first | exact HB.out | apply below_alloc | apply pw_below_drewN | apply below_drew1) | exact HB.out)))); have n1_ := Aside0.mk (below_step (by repeat (first | (with_reducible first | exact HB.out | apply below_alloc | apply pw_below_drewN | apply below_drew1) | exact HB.out)) hb); clear HB; have HO195 := n0_; have HB := n1_; clear n0_ n1_; (try clear hb); (try clear hb2); (try clear hk); (try clear hi); (try clear ho0); obtain ⟨Ao57, co57, eo57⟩ := Kd.R_slice HO195.out; subst eo57)))
            go_ret
            exact ⟨by first | rfl | (simp [errW_none, errW_some] <;> rfl) | (simp [*, errW_none, errW_some] <;> rfl), by repeat (first | (with_reducible first | exact HB.out | apply below_alloc | apply pw_below_drewN | apply below_drew1) | exact HB.out)⟩
          · rw [if_neg c54] at H
            have c54b0 : decide (0 ≤ t193) = false := decide_eq_false c54
            clear c54
            obtain rfl := Option.some.inj H
            go_enter Tryd.func4, Tryd.ntmps4
            go_wp2_with (first | (go_at_call 8; (with_reducible refine (cleanselaw07_head.calls  true _ A2.out).mono ?_); rintro e w58 ⟨rfl, hb⟩; have n0_ := Aside0.mk (below_step (by repeat (first | (with_reducible first | exact HB.out | apply below_alloc | apply pw_below_drewN | apply below_drew1) | exact HB.out)) hb); clear HB; have HB := n0_; clear n0_; (try clear hb); (try clear hb2); (try clear hk); (try clear hi)) | (go_at_call 9; (with_reducible refine (X.lexer_Lex.calls a0 t191 t192 t193 _ A5.out).mono ?_); rintro e w59 ⟨v194, rfl, ho0, hb⟩; have n0_ := Aside0.mk (Kd.R_lower ho0 (below_size (by repeat (first | (with_reducible first | exact HB.out | apply below_alloc | apply pw_below_drewN | apply below_drew1) | exact HB.out)))); have n1_ := Aside0.mk (below_step (by repeat (first | (with_reducible first | exact HB.out | apply below_alloc | apply pw_below_drewN | apply below_drew1) | exact HB.out)) hb); clear HB; have HO195 := n0_; have HB := n1_; clear n0_ n1_; (try clear hb); (try clear hb2); (try clear hk); (try clear hi); (try clear ho0); obtain ⟨Ao60, co60, eo60⟩ := Kd.R_slice HO195.out; subst eo60))
            repeat (go_quiet (first | (go_at_call 8; (with_reducible refine (cleanselaw07_head.calls  true _ A2.out).mono ?_); rintro e w58 ⟨rfl, hb⟩; have n0_ := Aside0.mk (below_step (by repeat (first | (with_reducible first | exact HB.out | apply below_alloc | apply pw_below_drewN | apply below_drew1) | exact HB.out)) hb); clear HB; have HB := n0_; clear n0_; (try clear hb); (try clear hb2); (try clear hk); (try clear hi)) | (go_at_call 9; (with_reducible refine (X.lexer_Lex.calls a0 t191 t192 t193 _ A5.out).mono ?_); rintro e w59 ⟨v194, rfl, ho0, hb⟩; have n0_ := Aside0.mk (Kd.R_lower ho0 (below_size (by repeat (first | (with_reducible first | exact HB.out | apply below_alloc | apply pw_below_drewN | apply below_drew1) | exact HB.out)))); have n1_ := Aside0.mk (below_step (by repeat (first | (with_reducible first | exact HB.out | apply below_alloc | apply pw_below_drewN | apply below_drew1) | exact HB.out)) hb); clear HB; have HO195 := n0_; have HB := n1_; clear n0_ n1_; (try clear hb); (try clear hb2); (try clear hk); (try clear hi); (try clear ho0); obtain ⟨Ao60, co60, eo60⟩ := Kd.R_slice HO195.out; subst eo60)); try go_wp2_with (first | (go_at_call 8; (with_reducible refine (cleanselaw07_head.calls  true _ A2.out).mono ?_); rintro e w58 ⟨rfl, hb⟩; have n0_ := Aside0.mk (below_step (by repeat (first | (with_reducible first | exact HB.out | apply below_alloc | apply pw_below_drewN | apply below_drew1) | exact HB.out)) hb); clear HB; have HB := n0_; clear n0_; (try clear hb); (try clear hb2); (try clear hk); (try clear hi)) | (go_at_call 9; (with_reducible refine (X.lexer_Lex.calls a0 t191 t192 t193 _ A5.out).mono ?_); rintro e w59 ⟨v194, rfl, ho0, hb⟩; have n0_ := Aside0.mk (Kd.R_lower ho0 (below_size (by repeat (first | (with_reducible first | exact HB.out | apply below_alloc | apply pw_below_drewN | apply below_drew1) | exact HB.out)))); have n1_ := Aside0.mk (below_step (by repeat (first | (with_reducible first | exact HB.out | apply below_alloc | apply pw_below_drewN | apply below_drew1) | exact HB.out)) hb); clear HB; have HO195 := n0_; have HB := n1_; clear n0_ n1_; (try clear hb); (try clear hb2); (try clear hk); (try clear hi); (try clear ho0); obtain ⟨Ao60, co60, eo60⟩ := Kd.R_slice HO195.out; subst eo60)))
            go_ret
            exact ⟨by first | rfl | (simp [errW_none, errW_some] <;> rfl) | (simp [*, errW_none, errW_some] <;> rfl), by repeat (first | (with_reducible first | exact HB.out | apply below_alloc | apply pw_below_drewN | apply below_drew1) | exact HB.out)⟩
        · rw [if_neg c53] at H
          have c53b0 : ((t191.length : Int) == 0) = false := beq_eq_false_iff_ne.mpr c53
          have c53b1 : ((t191.length : Int) != 0) = true := bne_iff_ne.mpr c53
          have c53b2 : ¬ (t191 = []) := fun h_ => c53 (by rw [h_]; rfl)
          obtain rfl := Option.some.inj H
          go_enter Tryd.func4, Tryd.ntmps4
          go_wp2_with (first | (go_at_call 8; (with_reducible refine (cleanselaw07_head.calls  true _ A2.out).mono ?_); rintro e w61 ⟨rfl, hb⟩; have n0_ := Aside0.mk (below_step (by repeat (first | (with_reducible first | exact HB.out | apply below_alloc | apply pw_below_drewN | apply below_drew1) | exact HB.out)) hb); clear HB; have HB := n0_; clear n0_; (try clear hb); (try clear hb2); (try clear hk); (try clear hi)) | (go_at_call 9; (with_reducible refine (X.lexer_Lex.calls a0 t191 t192 t193 _ A5.out).mono ?_); rintro e w62 ⟨v194, rfl, ho0, hb⟩; have n0_ := Aside0.mk (Kd.R_lower ho0 (below_size (by repeat (first | (with_reducible first | exact HB.out | apply below_alloc | apply pw_below_drewN | apply below_drew1) | exact HB.out)))); have n1_ := Aside0.mk (below_step (by repeat (first | (with_reducible first | exact HB.out | apply below_alloc | apply pw_below_drewN | apply below_drew1) | exact HB.out)) hb); clear HB; have HO195 := n0_; have HB := n1_; clear n0_ n1_; (try clear hb); (try clear hb2); (try clear hk); (try clear hi); (try clear ho0); obtain ⟨Ao63, co63, eo63⟩ := Kd.R_slice HO195.out; subst eo63))
          repeat (go_quiet (first | (go_at_call 8; (with_reducible refine (cleanselaw07_head.calls  true _ A2.out).mono ?_); rintro e w61 ⟨rfl, hb⟩; have n0_ := Aside0.mk (below_step (by repeat (first | (with_reducible first | exact HB.out | apply below_alloc | apply pw_below_drewN | apply below_drew1) | exact HB.out)) hb); clear HB; have HB := n0_; clear n0_; (try clear hb); (try clear hb2); (try clear hk); (try clear hi)) | (go_at_call 9; (with_reducible refine (X.lexer_Lex.calls a0 t191 t192 t193 _ A5.out).mono ?_); rintro e w62 ⟨v194, rfl, ho0, hb⟩; have n0_ := Aside0.mk (Kd.R_lower ho0 (below_size (by repeat (first | (with_reducible first | exact HB.out | apply below_alloc | apply pw_below_drewN | apply below_drew1) | exact HB.out)))); have n1_ := Aside0.mk (below_step (by repeat (first | (with_reducible first | exact HB.out | apply below_alloc | apply pw_below_drewN | apply below_drew1) | exact HB.out)) hb); clear HB; have HO195 := n0_; have HB := n1_; clear n0_ n1_; (try clear hb); (try clear hb2); (try clear hk); (try clear hi); (try clear ho0); obtain ⟨Ao63, co63, eo63⟩ := Kd.R_slice HO195.out; subst eo63)); try go_wp2_with (first | (go_at_call 8; (with_reducible refine (cleanselaw07_head.calls  true _ A2.out).mono ?_); rintro e w61 ⟨rfl, hb⟩; have n0_ := Aside0.mk (below_step (by repeat (first | (with_reducible first | exact HB.out | apply below_alloc | apply pw_below_drewN | apply below_drew1) | exact HB.out)) hb); clear HB; have HB := n0_; clear n0_; (try clear hb); (try clear hb2); (try clear hk); (try clear hi)) | (go_at_call 9; (with_reducible refine (X.lexer_Lex.calls a0 t191 t192 t193 _ A5.out).mono ?_); rintro e w62 ⟨v194, rfl, ho0, hb⟩; have n0_ := Aside0.mk (Kd.R_lower ho0 (below_size (by repeat (first | (with_reducible first | exact HB.out | apply below_alloc | apply pw_below_drewN | apply below_drew1) | exact HB.out)))); have n1_ := Aside0.mk (below_step (by repeat (first | (with_reducible first | exact HB.out | apply below_alloc | apply pw_below_drewN | apply below_drew1) | exact HB.out)) hb); clear HB; have HO195 := n0_; have HB := n1_; clear n0_ n1_; (try clear hb); (try clear hb2); (try clear hk); (try clear hi); (try clear ho0); obtain ⟨Ao63, co63, eo63⟩ := Kd.R_slice HO195.out; subst eo63)))
          go_ret
          exact ⟨by first | rfl | (simp [errW_none, errW_some] <;> rfl) | (simp [*, errW_none, errW_some] <;> rfl), by repeat (first | (with_reducible first | exact HB.out | apply below_alloc | apply pw_below_drewN | apply below_drew1) | exact HB.out)⟩
      · replace c52 := Bool.eq_false_iff.mpr c52
        subst c52
        have H1 : (some false) = some r := by rw [if_neg (show ¬ (false = true) by decide)] at H; exact H
        clear H
        have H := H1
        clear H1
        obtain rfl := Option.some.inj H
        go_enter Tryd.func4, Tryd.ntmps4
        go_wp2_with (first | (go_at_call 8; (with_reducible refine (cleanselaw07_head.calls  false _ A2.out).mono ?_); rintro e w64 ⟨rfl, hb⟩; have n0_ := Aside0.mk (below_step (by repeat (first | (with_reducible first | exact HB.out | apply below_alloc | apply pw_below_drewN | apply below_drew1) | exact HB.out)) hb); clear HB; have HB := n0_; clear n0_; (try clear hb); (try clear hb2); (try clear hk); (try clear hi)) | (go_at_call 9; (with_reducible refine (X.lexer_Lex.calls a0 t191 t192 t193 _ A5.out).mono ?_); rintro e w65 ⟨v194, rfl, ho0, hb⟩; have n0_ := Aside0.mk (Kd.R_lower ho0 (below_size (by repeat (first | (with_reducible first | exact HB.out | apply below_alloc | apply pw_below_drewN | apply below_drew1) | exact HB.out)))); have n1_ := Aside0.mk (below_step (by repeat (first | (with_reducible first | exact HB.out | apply below_alloc | apply pw_below_drewN | apply below_drew1) | exact HB.out)) hb); clear HB; have HO195 := n0_; have HB := n1_; clear n0_ n1_; (try clear hb); (try clear hb2); (try clear hk); (try clear hi); (try clear ho0)))
        repeat (go_quiet (first | (go_at_call 8; (with_reducible refine (cleanselaw07_head.calls  false _ A2.out).mono ?_); rintro e w64 ⟨rfl, hb⟩; have n0_ := Aside0.mk (below_step (by repeat (first | (with_reducible first | exact HB.out | apply below_alloc | apply pw_below_drewN | apply below_drew1) | exact HB.out)) hb); clear HB; have HB := n0_; clear n0_; (try clear hb); (try clear hb2); (try clear hk); (try clear hi)) | (go_at_call 9; (with_reducible refine (X.lexer_Lex.calls a0 t191 t192 t193 _ A5.out).mono ?_); rintro e w65 ⟨v194, rfl, ho0, hb⟩; have n0_ := Aside0.mk (Kd.R_lower ho0 (below_size (by repeat (first | (with_reducible first | exact HB.out | apply below_alloc | apply pw_below_drewN | apply below_drew1) | exact HB.out)))); have n1_ := Aside0.mk (below_step (by repeat (first | (with_reducible first | exact HB.out | apply below_alloc | apply pw_below_drewN | apply below_drew1) | exact HB.out)) hb); clear HB; have HO195 := n0_; have HB := n1_; clear n0_ n1_; (try clear hb); (try clear hb2); (try clear hk); (try clear hi); (try clear ho0))); try go_wp2_with (first | (go_at_call 8; (with_reducible refine (cleanselaw07_head.calls  false _ A2.out).mono ?_); rintro e w64 ⟨rfl, hb⟩; have n0_ := Aside0.mk (below_step (by repeat (first | (with_reducible first | exact HB.out | apply below_alloc | apply pw_below_drewN | apply below_drew1) | exact HB.out)) hb); clear HB; have HB := n0_; clear n0_; (try clear hb); (try clear hb2); (try clear hk); (try clear hi)) | (go_at_call 9; (with_reducible refine (X.lexer_Lex.calls a0 t191 t192 t193 _ A5.out).mono ?_); rintro e w65 ⟨v194, rfl, ho0, hb⟩; have n0_ := Aside0.mk (Kd.R_lower ho0 (below_size (by repeat (first | (with_reducible first | exact HB.out | apply below_alloc | apply pw_below_drewN | apply below_drew1) | exact HB.out)))); have n1_ := Aside0.mk (below_step (by repeat (first | (with_reducible first | exact HB.out | apply below_alloc | apply pw_below_drewN | apply below_drew1) | exact HB.out)) hb); clear HB; have HO195 := n0_; have HB := n1_; clear n0_ n1_; (try clear hb); (try clear hb2); (try clear hk); (try clear hi); (try clear ho0))))
        go_ret
        exact ⟨by first | rfl | (simp [errW_none, errW_some] <;> rfl) | (simp [*, errW_none, errW_some] <;> rfl), by repeat (first | (with_reducible first | exact HB.out | apply below_alloc | apply pw_below_drewN | apply below_drew1) | exact HB.out)⟩

end Go.Proofs.YtemjgafocgnccaaDoor.Px
