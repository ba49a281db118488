/- Go functions as Lean functions, each with the proof that the Go code answers as it does (written by a program of this session: myprint.py, over the kit's printer). -/
import Derived.Test.YtiobkccmgigmhaaDoorPx0
import Derived.Test.YtiobkccmgigmhaaDoorPx2
import Derived.Test.YtiobkccmgigmhaaDoorPx8
import Derived.Test.YtiobkccmgigmhaaDoorX3
namespace Go.Proofs.YtiobkccmgigmhaaDoor.Px
open Go.RowKit Go.Proofs.YtiobkccmgigmhaaDoorW.PrintWords Go.Proofs.YtiobkccmgigmhaaDoorW.PrintLast Go.Proofs.YtiobkccmgigmhaaDoorW.PrintMore
attribute [local go_sem] max2_int min2_int max_two min_two max_three min_three max_four min_four   -- for this text's walks alone
set_option linter.unusedVariables false
set_option linter.unusedSimpArgs false

/-! ### cleanselaw05_SketchShorter: function 9 -/
mutual
def cleanselaw05_SketchShorter.j0 : Nat → List ByteArray → Bool → List Int → Bool → Option (Bool)
  | 0, _, _, _, _ => none
  | k + 1, x0, x7, x12, x77 => if x77 = true then (some false) else (cleanselaw05_SketchShorter.l0 k x0 x7 x12 0)
def cleanselaw05_SketchShorter.l0 : Nat → List ByteArray → Bool → List Int → Int → Option (Bool)
  | 0, _, _, _, _ => none
  | k + 1, x0, x7, x12, x14 => if x14 < (x12.length : Int) then (if (x0.length : Int) = 0 then (if 0 ≤ x14 then (cleanselaw05_SketchShorter.j2 k x0 x7 x12 x14 ((rd x12 x14) == (-1))) else (none)) else (cleanselaw05_SketchShorter.j2 k x0 x7 x12 x14 false)) else (some x7)
def cleanselaw05_SketchShorter.j2 : Nat → List ByteArray → Bool → List Int → Int → Bool → Option (Bool)
  | 0, _, _, _, _, _ => none
  | k + 1, x0, x7, x12, x14, x15 => cleanselaw05_SketchShorter.l1 k x0 x7 x12 x14 x15 0
def cleanselaw05_SketchShorter.l1 : Nat → List ByteArray → Bool → List Int → Int → Bool → Int → Option (Bool)
  | 0, _, _, _, _, _, _ => none
  | k + 1, x0, x7, x12, x14, x15, x16 => if x16 < (x0.length : Int) then (if 0 ≤ x16 then ((X.sketch_Hash.f (rdOf ByteArray.empty x0 x16) x14).bind fun t379 => (if x15 = true then (if 0 ≤ x14 then (if x14 < (x12.length : Int) then (if t379 < (rd x12 x14) then (some false) else (cleanselaw05_SketchShorter.l1 k x0 x7 x12 x14 true (wrap64 (x16 + 1)))) else (none)) else (none)) else (if 0 ≤ x14 then (if x14 < (x12.length : Int) then (if t379 < (rd x12 x14) then (some false) else (cleanselaw05_SketchShorter.l1 k x0 x7 x12 x14 (t379 == (rd x12 x14)) (wrap64 (x16 + 1)))) else (none)) else (none)))) else (none)) else (if x15 = true then (cleanselaw05_SketchShorter.l0 k x0 x7 x12 (wrap64 (x14 + 1))) else (some false))
end
def cleanselaw05_SketchShorter.f (k : Nat) (l0 : List ByteArray) (a1 : Int) (a2 : Int) : Option (Bool) := (X.cleanselaw05_head.f).bind fun t362 => ((cleanselaw05_few.f k l0).bind fun t363 => (if t363 = true then ((sketch_Make.f k l0 (mn (wrap64 (1 + (Int.tmod (wrap64 (a1)) 64))) (wrap64 (1 + (Int.tmod (wrap64 (a2)) 64))))).bind fun bt364 => ((sketch_Make.f k l0 (mx (wrap64 (1 + (Int.tmod (wrap64 (a1)) 64))) (wrap64 (1 + (Int.tmod (wrap64 (a2)) 64))))).bind fun bt368 => (if bt364.2 = 0 then (if bt368.2 = 0 then (if (bt364.1.length : Int) = (mn (wrap64 (1 + (Int.tmod (wrap64 (a1)) 64))) (wrap64 (1 + (Int.tmod (wrap64 (a2)) 64)))) then (if (bt368.1.length : Int) = (mx (wrap64 (1 + (Int.tmod (wrap64 (a1)) 64))) (wrap64 (1 + (Int.tmod (wrap64 (a2)) 64)))) then (if 0 ≤ (bt364.1.length : Int) then (if (bt364.1.length : Int) ≤ (bt368.1.length : Int) then ((cleanseref05_Ints.f k bt364.1 (bt368.1.take ((bt364.1.length : Int) : Int).toNat)).bind fun t376 => (cleanselaw05_SketchShorter.j0 k l0 t362 bt368.1 (!t376))) else (none)) else (none)) else (cleanselaw05_SketchShorter.j0 k l0 t362 bt368.1 true)) else (cleanselaw05_SketchShorter.j0 k l0 t362 bt368.1 true)) else (cleanselaw05_SketchShorter.j0 k l0 t362 bt368.1 true)) else (cleanselaw05_SketchShorter.j0 k l0 t362 bt368.1 true)))) else (some t362)))
theorem cleanselaw05_SketchShorter.mono_l : ∀ k, (∀ y0 y1 y2 y3, LeO (cleanselaw05_SketchShorter.j0 k y0 y1 y2 y3) (cleanselaw05_SketchShorter.j0 (k + 1) y0 y1 y2 y3)) ∧ (∀ y0 y1 y2 y3, LeO (cleanselaw05_SketchShorter.l0 k y0 y1 y2 y3) (cleanselaw05_SketchShorter.l0 (k + 1) y0 y1 y2 y3)) ∧ (∀ y0 y1 y2 y3 y4, LeO (cleanselaw05_SketchShorter.j2 k y0 y1 y2 y3 y4) (cleanselaw05_SketchShorter.j2 (k + 1) y0 y1 y2 y3 y4)) ∧ (∀ y0 y1 y2 y3 y4 y5, LeO (cleanselaw05_SketchShorter.l1 k y0 y1 y2 y3 y4 y5) (cleanselaw05_SketchShorter.l1 (k + 1) y0 y1 y2 y3 y4 y5))
  | 0 => ⟨fun _ _ _ _ r h => by simp [cleanselaw05_SketchShorter.j0] at h, fun _ _ _ _ r h => by simp [cleanselaw05_SketchShorter.l0] at h, fun _ _ _ _ _ r h => by simp [cleanselaw05_SketchShorter.j2] at h, fun _ _ _ _ _ _ r h => by simp [cleanselaw05_SketchShorter.l1] at h⟩
  | k + 1 => by
    obtain ⟨ih0, ih1, ih2, ih3⟩ := cleanselaw05_SketchShorter.mono_l k
    refine ⟨?_, ?_, ?_, ?_⟩
    · intro y0 y1 y2 y3
      unfold cleanselaw05_SketchShorter.j0
      repeat' first
      | (with_reducible exact ih0 _ _ _ _)
      | (with_reducible exact ih1 _ _ _ _)
      | (with_reducible exact ih2 _ _ _ _ _)
      | (with_reducible exact ih3 _ _ _ _ _ _)
      | (with_reducible exact cleanselaw05_few.mono _ _)
      | (with_reducible exact cleanseref05_Ints.mono _ _ _)
      | (with_reducible exact sketch_Make.mono _ _ _)
      | (with_reducible exact LeO.refl _)
      | (with_reducible exact LeO.none _)
      | (with_reducible refine LeO.ite ?_ ?_)
      | (with_reducible refine LeO.bind ?_ (fun _ => ?_))
      | exact ih0 _ _ _ _
      | exact ih1 _ _ _ _
      | exact ih2 _ _ _ _ _
      | exact ih3 _ _ _ _ _ _
      | exact cleanselaw05_few.mono _ _
      | exact cleanseref05_Ints.mono _ _ _
      | exact sketch_Make.mono _ _ _
      | exact LeO.none _
      | refine LeO.ite ?_ ?_
      | refine LeO.bind ?_ (fun _ => ?_)
    · intro y0 y1 y2 y3
      unfold cleanselaw05_SketchShorter.l0
      repeat' first
      | (with_reducible exact ih0 _ _ _ _)
      | (with_reducible exact ih1 _ _ _ _)
      | (with_reducible exact ih2 _ _ _ _ _)
      | (with_reducible exact ih3 _ _ _ _ _ _)
      | (with_reducible exact cleanselaw05_few.mono _ _)
      | (with_reducible exact cleanseref05_Ints.mono _ _ _)
      | (with_reducible exact sketch_Make.mono _ _ _)
      | (with_reducible exact LeO.refl _)
      | (with_reducible exact LeO.none _)
      | (with_reducible refine LeO.ite ?_ ?_)
      | (with_reducible refine LeO.bind ?_ (fun _ => ?_))
      | exact ih0 _ _ _ _
      | exact ih1 _ _ _ _
      | exact ih2 _ _ _ _ _
      | exact ih3 _ _ _ _ _ _
      | exact cleanselaw05_few.mono _ _
      | exact cleanseref05_Ints.mono _ _ _
      | exact sketch_Make.mono _ _ _
      | exact LeO.none _
      | refine LeO.ite ?_ ?_
      | refine LeO.bind ?_ (fun _ => ?_)
    · intro y0 y1 y2 y3 y4
      unfold cleanselaw05_SketchShorter.j2
      repeat' first
      | (with_reducible exact ih0 _ _ _ _)
      | (with_reducible exact ih1 _ _ _ _)
      | (with_reducible exact ih2 _ _ _ _ _)
      | (with_reducible exact ih3 _ _ _ _ _ _)
      | (with_reducible exact cleanselaw05_few.mono _ _)
      | (with_reducible exact cleanseref05_Ints.mono _ _ _)
      | (with_reducible exact sketch_Make.mono _ _ _)
      | (with_reducible exact LeO.refl _)
      | (with_reducible exact LeO.none _)
      | (with_reducible refine LeO.ite ?_ ?_)
      | (with_reducible refine LeO.bind ?_ (fun _ => ?_))
      | exact ih0 _ _ _ _
      | exact ih1 _ _ _ _
      | exact ih2 _ _ _ _ _
      | exact ih3 _ _ _ _ _ _
      | exact cleanselaw05_few.mono _ _
      | exact cleanseref05_Ints.mono _ _ _
      | exact sketch_Make.mono _ _ _
      | exact LeO.none _
      | refine LeO.ite ?_ ?_
      | refine LeO.bind ?_ (fun _ => ?_)
    · intro y0 y1 y2 y3 y4 y5
      unfold cleanselaw05_SketchShorter.l1
      repeat' first
      | (with_reducible exact ih0 _ _ _ _)
      | (with_reducible exact ih1 _ _ _ _)
      | (with_reducible exact ih2 _ _ _ _ _)
      | (with_reducible exact ih3 _ _ _ _ _ _)
      | (with_reducible exact cleanselaw05_few.mono _ _)
      | (with_reducible exact cleanseref05_Ints.mono _ _ _)
      | (with_reducible exact sketch_Make.mono _ _ _)
      | (with_reducible exact LeO.refl _)
      | (with_reducible exact LeO.none _)
      | (with_reducible refine LeO.ite ?_ ?_)
      | (with_reducible refine LeO.bind ?_ (fun _ => ?_))
      | exact ih0 _ _ _ _
      | exact ih1 _ _ _ _
      | exact ih2 _ _ _ _ _
      | exact ih3 _ _ _ _ _ _
      | exact cleanselaw05_few.mono _ _
      | exact cleanseref05_Ints.mono _ _ _
      | exact sketch_Make.mono _ _ _
      | exact LeO.none _
      | refine LeO.ite ?_ ?_
      | refine LeO.bind ?_ (fun _ => ?_)
theorem cleanselaw05_SketchShorter.mono : ∀ a0 a1 a2 k, LeO (cleanselaw05_SketchShorter.f k a0 a1 a2) (cleanselaw05_SketchShorter.f (k + 1) a0 a1 a2) := by
  intro a0 a1 a2 k
  obtain ⟨ih0, ih1, ih2, ih3⟩ := cleanselaw05_SketchShorter.mono_l k
  unfold cleanselaw05_SketchShorter.f
  repeat' first
      | (with_reducible exact ih0 _ _ _ _)
      | (with_reducible exact ih1 _ _ _ _)
      | (with_reducible exact ih2 _ _ _ _ _)
      | (with_reducible exact ih3 _ _ _ _ _ _)
      | (with_reducible exact cleanselaw05_few.mono _ _)
      | (with_reducible exact cleanseref05_Ints.mono _ _ _)
      | (with_reducible exact sketch_Make.mono _ _ _)
      | (with_reducible exact LeO.refl _)
      | (with_reducible exact LeO.none _)
      | (with_reducible refine LeO.ite ?_ ?_)
      | (with_reducible refine LeO.bind ?_ (fun _ => ?_))
      | exact ih0 _ _ _ _
      | exact ih1 _ _ _ _
      | exact ih2 _ _ _ _ _
      | exact ih3 _ _ _ _ _ _
      | exact cleanselaw05_few.mono _ _
      | exact cleanseref05_Ints.mono _ _ _
      | exact sketch_Make.mono _ _ _
      | exact LeO.none _
      | refine LeO.ite ?_ ?_
      | refine LeO.bind ?_ (fun _ => ?_)
set_option maxHeartbeats 8000000 in
set_option maxRecDepth 100000 in
theorem cleanselaw05_SketchShorter.calls (k : Nat) (A0 : Option Addr) (c0 : Nat) (l0 : List ByteArray) (a1 : Int) (a2 : Int) (r : Bool) (w : World) (hr0 : Kd.C Kd.string w A0 l0.length l0) (hc0 : l0.length ≤ c0) (hG : X.GT w) (h : cleanselaw05_SketchShorter.f k l0 a1 a2 = some r) :
    Calls Tryd.prog 9 #[.slice A0 l0.length c0, .int .u8 a1, .int .u8 a2] w fun e w' => e = .returned (.bool r) ∧ Below w.heap.size w w' := by
  have HR0 := Aside0.mk hr0
  have HC0 := Aside0.mk hc0
  clear hr0 hc0
  have HB := Aside0.mk (Below.refl w.heap.size w)
  have HG := Aside0.mk hG
  clear hG
  have H : ((X.cleanselaw05_head.f).bind fun t362 => ((cleanselaw05_few.f k l0).bind fun t363 => (if t363 = true then ((sketch_Make.f k l0 (mn (wrap64 (1 + (Int.tmod (wrap64 (a1)) 64))) (wrap64 (1 + (Int.tmod (wrap64 (a2)) 64))))).bind fun bt364 => ((sketch_Make.f k l0 (mx (wrap64 (1 + (Int.tmod (wrap64 (a1)) 64))) (wrap64 (1 + (Int.tmod (wrap64 (a2)) 64))))).bind fun bt368 => (if bt364.2 = 0 then (if bt368.2 = 0 then (if (bt364.1.length : Int) = (mn (wrap64 (1 + (Int.tmod (wrap64 (a1)) 64))) (wrap64 (1 + (Int.tmod (wrap64 (a2)) 64)))) then (if (bt368.1.length : Int) = (mx (wrap64 (1 + (Int.tmod (wrap64 (a1)) 64))) (wrap64 (1 + (Int.tmod (wrap64 (a2)) 64)))) then (if 0 ≤ (bt364.1.length : Int) then (if (bt364.1.length : Int) ≤ (bt368.1.length : Int) then ((cleanseref05_Ints.f k bt364.1 (bt368.1.take ((bt364.1.length : Int) : Int).toNat)).bind fun t376 => (cleanselaw05_SketchShorter.j0 k l0 t362 bt368.1 (!t376))) else (none)) else (none)) else (cleanselaw05_SketchShorter.j0 k l0 t362 bt368.1 true)) else (cleanselaw05_SketchShorter.j0 k l0 t362 bt368.1 true)) else (cleanselaw05_SketchShorter.j0 k l0 t362 bt368.1 true)) else (cleanselaw05_SketchShorter.j0 k l0 t362 bt368.1 true)))) else (some t362)))) = some r := h
  clear h
  replace H := Option.bind_eq_some_iff.mp H
  obtain ⟨t362, A40, H⟩ := H
  replace H : ((cleanselaw05_few.f k l0).bind fun t363 => (if t363 = true then ((sketch_Make.f k l0 (mn (wrap64 (1 + (Int.tmod (wrap64 (a1)) 64))) (wrap64 (1 + (Int.tmod (wrap64 (a2)) 64))))).bind fun bt364 => ((sketch_Make.f k l0 (mx (wrap64 (1 + (Int.tmod (wrap64 (a1)) 64))) (wrap64 (1 + (Int.tmod (wrap64 (a2)) 64))))).bind fun bt368 => (if bt364.2 = 0 then (if bt368.2 = 0 then (if (bt364.1.length : Int) = (mn (wrap64 (1 + (Int.tmod (wrap64 (a1)) 64))) (wrap64 (1 + (Int.tmod (wrap64 (a2)) 64)))) then (if (bt368.1.length : Int) = (mx (wrap64 (1 + (Int.tmod (wrap64 (a1)) 64))) (wrap64 (1 + (Int.tmod (wrap64 (a2)) 64)))) then (if 0 ≤ (bt364.1.length : Int) then (if (bt364.1.length : Int) ≤ (bt368.1.length : Int) then ((cleanseref05_Ints.f k bt364.1 (bt368.1.take ((bt364.1.length : Int) : Int).toNat)).bind fun t376 => (cleanselaw05_SketchShorter.j0 k l0 t362 bt368.1 (!t376))) else (none)) else (none)) else (cleanselaw05_SketchShorter.j0 k l0 t362 bt368.1 true)) else (cleanselaw05_SketchShorter.j0 k l0 t362 bt368.1 true)) else (cleanselaw05_SketchShorter.j0 k l0 t362 bt368.1 true)) else (cleanselaw05_SketchShorter.j0 k l0 t362 bt368.1 true)))) else (some t362))) = some r := H
  have A4 := Aside0.mk A40
  clear A40
  replace H := Option.bind_eq_some_iff.mp H
  obtain ⟨t363, A50, H⟩ := H
  replace H : (if t363 = true then ((sketch_Make.f k l0 (mn (wrap64 (1 + (Int.tmod (wrap64 (a1)) 64))) (wrap64 (1 + (Int.tmod (wrap64 (a2)) 64))))).bind fun bt364 => ((sketch_Make.f k l0 (mx (wrap64 (1 + (Int.tmod (wrap64 (a1)) 64))) (wrap64 (1 + (Int.tmod (wrap64 (a2)) 64))))).bind fun bt368 => (if bt364.2 = 0 then (if bt368.2 = 0 then (if (bt364.1.length : Int) = (mn (wrap64 (1 + (Int.tmod (wrap64 (a1)) 64))) (wrap64 (1 + (Int.tmod (wrap64 (a2)) 64)))) then (if (bt368.1.length : Int) = (mx (wrap64 (1 + (Int.tmod (wrap64 (a1)) 64))) (wrap64 (1 + (Int.tmod (wrap64 (a2)) 64)))) then (if 0 ≤ (bt364.1.length : Int) then (if (bt364.1.length : Int) ≤ (bt368.1.length : Int) then ((cleanseref05_Ints.f k bt364.1 (bt368.1.take ((bt364.1.length : Int) : Int).toNat)).bind fun t376 => (cleanselaw05_SketchShorter.j0 k l0 t362 bt368.1 (!t376))) else (none)) else (none)) else (cleanselaw05_SketchShorter.j0 k l0 t362 bt368.1 true)) else (cleanselaw05_SketchShorter.j0 k l0 t362 bt368.1 true)) else (cleanselaw05_SketchShorter.j0 k l0 t362 bt368.1 true)) else (cleanselaw05_SketchShorter.j0 k l0 t362 bt368.1 true)))) else (some t362)) = some r := H
  have A5 := Aside0.mk A50
  clear A50
  by_cases c6 : t363 = true
  · subst c6
    have H1 : ((sketch_Make.f k l0 (mn (wrap64 (1 + (Int.tmod (wrap64 (a1)) 64))) (wrap64 (1 + (Int.tmod (wrap64 (a2)) 64))))).bind fun bt364 => ((sketch_Make.f k l0 (mx (wrap64 (1 + (Int.tmod (wrap64 (a1)) 64))) (wrap64 (1 + (Int.tmod (wrap64 (a2)) 64))))).bind fun bt368 => (if bt364.2 = 0 then (if bt368.2 = 0 then (if (bt364.1.length : Int) = (mn (wrap64 (1 + (Int.tmod (wrap64 (a1)) 64))) (wrap64 (1 + (Int.tmod (wrap64 (a2)) 64)))) then (if (bt368.1.length : Int) = (mx (wrap64 (1 + (Int.tmod (wrap64 (a1)) 64))) (wrap64 (1 + (Int.tmod (wrap64 (a2)) 64)))) then (if 0 ≤ (bt364.1.length : Int) then (if (bt364.1.length : Int) ≤ (bt368.1.length : Int) then ((cleanseref05_Ints.f k bt364.1 (bt368.1.take ((bt364.1.length : Int) : Int).toNat)).bind fun t376 => (cleanselaw05_SketchShorter.j0 k l0 t362 bt368.1 (!t376))) else (none)) else (none)) else (cleanselaw05_SketchShorter.j0 k l0 t362 bt368.1 true)) else (cleanselaw05_SketchShorter.j0 k l0 t362 bt368.1 true)) else (cleanselaw05_SketchShorter.j0 k l0 t362 bt368.1 true)) else (cleanselaw05_SketchShorter.j0 k l0 t362 bt368.1 true)))) = some r := by rw [if_pos rfl] at H; exact H
    clear H
    have H := H1
    clear H1
    obtain ⟨ji7, hji7⟩ : ∃ j_ : Int, (mn (wrap64 (1 + (Int.tmod (wrap64 (a1)) 64))) (wrap64 (1 + (Int.tmod (wrap64 (a2)) 64)))) = j_ := ⟨_, rfl⟩
    replace H : ((sketch_Make.f k l0 (ji7)).bind fun bt364 => ((sketch_Make.f k l0 (mx (wrap64 (1 + (Int.tmod (wrap64 (a1)) 64))) (wrap64 (1 + (Int.tmod (wrap64 (a2)) 64))))).bind fun bt368 => (if bt364.2 = 0 then (if bt368.2 = 0 then (if (bt364.1.length : Int) = (ji7) then (if (bt368.1.length : Int) = (mx (wrap64 (1 + (Int.tmod (wrap64 (a1)) 64))) (wrap64 (1 + (Int.tmod (wrap64 (a2)) 64)))) then (if 0 ≤ (bt364.1.length : Int) then (if (bt364.1.length : Int) ≤ (bt368.1.length : Int) then ((cleanseref05_Ints.f k bt364.1 (bt368.1.take ((bt364.1.length : Int) : Int).toNat)).bind fun t376 => (cleanselaw05_SketchShorter.j0 k l0 t362 bt368.1 (!t376))) else (none)) else (none)) else (cleanselaw05_SketchShorter.j0 k l0 t362 bt368.1 true)) else (cleanselaw05_SketchShorter.j0 k l0 t362 bt368.1 true)) else (cleanselaw05_SketchShorter.j0 k l0 t362 bt368.1 true)) else (cleanselaw05_SketchShorter.j0 k l0 t362 bt368.1 true)))) = some r := by first | (rw [hji7] at H; exact H) | (simp only [hji7] at H ⊢; exact H)
    (try rw [hji7] at A4)
    (try rw [hji7] at A5)
    have hji7_ : (if (wrap64 (1 + (Int.tmod (wrap64 (a2)) 64))) < (wrap64 (1 + (Int.tmod (wrap64 (a1)) 64))) then (wrap64 (1 + (Int.tmod (wrap64 (a2)) 64))) else (wrap64 (1 + (Int.tmod (wrap64 (a1)) 64)))) = ji7 := hji7
    replace H := Option.bind_eq_some_iff.mp H
    obtain ⟨⟨t364, t365⟩, A80, H⟩ := H
    replace H : ((sketch_Make.f k l0 (mx (wrap64 (1 + (Int.tmod (wrap64 (a1)) 64))) (wrap64 (1 + (Int.tmod (wrap64 (a2)) 64))))).bind fun bt368 => (if t365 = 0 then (if bt368.2 = 0 then (if (t364.length : Int) = (ji7) then (if (bt368.1.length : Int) = (mx (wrap64 (1 + (Int.tmod (wrap64 (a1)) 64))) (wrap64 (1 + (Int.tmod (wrap64 (a2)) 64)))) then (if 0 ≤ (t364.length : Int) then (if (t364.length : Int) ≤ (bt368.1.length : Int) then ((cleanseref05_Ints.f k t364 (bt368.1.take ((t364.length : Int) : Int).toNat)).bind fun t376 => (cleanselaw05_SketchShorter.j0 k l0 t362 bt368.1 (!t376))) else (none)) else (none)) else (cleanselaw05_SketchShorter.j0 k l0 t362 bt368.1 true)) else (cleanselaw05_SketchShorter.j0 k l0 t362 bt368.1 true)) else (cleanselaw05_SketchShorter.j0 k l0 t362 bt368.1 true)) else (cleanselaw05_SketchShorter.j0 k l0 t362 bt368.1 true))) = some r := H
    have A8 := Aside0.mk A80
    clear A80
    obtain ⟨ji9, hji9⟩ : ∃ j_ : Int, (mx (wrap64 (1 + (Int.tmod (wrap64 (a1)) 64))) (wrap64 (1 + (Int.tmod (wrap64 (a2)) 64)))) = j_ := ⟨_, rfl⟩
    replace H : ((sketch_Make.f k l0 (ji9)).bind fun bt368 => (if t365 = 0 then (if bt368.2 = 0 then (if (t364.length : Int) = (ji7) then (if (bt368.1.length : Int) = (ji9) then (if 0 ≤ (t364.length : Int) then (if (t364.length : Int) ≤ (bt368.1.length : Int) then ((cleanseref05_Ints.f k t364 (bt368.1.take ((t364.length : Int) : Int).toNat)).bind fun t376 => (cleanselaw05_SketchShorter.j0 k l0 t362 bt368.1 (!t376))) else (none)) else (none)) else (cleanselaw05_SketchShorter.j0 k l0 t362 bt368.1 true)) else (cleanselaw05_SketchShorter.j0 k l0 t362 bt368.1 true)) else (cleanselaw05_SketchShorter.j0 k l0 t362 bt368.1 true)) else (cleanselaw05_SketchShorter.j0 k l0 t362 bt368.1 true))) = some r := by first | (rw [hji9] at H; exact H) | (simp only [hji9] at H ⊢; exact H)
    (try rw [hji9] at A4)
    (try rw [hji9] at A5)
    (try rw [hji9] at A8)
    have hji9_ : (if (wrap64 (1 + (Int.tmod (wrap64 (a1)) 64))) < (wrap64 (1 + (Int.tmod (wrap64 (a2)) 64))) then (wrap64 (1 + (Int.tmod (wrap64 (a2)) 64))) else (wrap64 (1 + (Int.tmod (wrap64 (a1)) 64)))) = ji9 := hji9
    replace H := Option.bind_eq_some_iff.mp H
    obtain ⟨⟨t368, t369⟩, A100, H⟩ := H
    replace H : (if t365 = 0 then (if t369 = 0 then (if (t364.length : Int) = (ji7) then (if (t368.length : Int) = (ji9) then (if 0 ≤ (t364.length : Int) then (if (t364.length : Int) ≤ (t368.length : Int) then ((cleanseref05_Ints.f k t364 (t368.take ((t364.length : Int) : Int).toNat)).bind fun t376 => (cleanselaw05_SketchShorter.j0 k l0 t362 t368 (!t376))) else (none)) else (none)) else (cleanselaw05_SketchShorter.j0 k l0 t362 t368 true)) else (cleanselaw05_SketchShorter.j0 k l0 t362 t368 true)) else (cleanselaw05_SketchShorter.j0 k l0 t362 t368 true)) else (cleanselaw05_SketchShorter.j0 k l0 t362 t368 true)) = some r := H
    have A10 := Aside0.mk A100
    clear A100
    have HC11 := Aside0.mk H
    clear H
    go_enter Tryd.func9, Tryd.ntmps9
    go_upto_region 8 with (first | ((with_reducible refine gate_callee (f := 10) rfl ?_); refine goesL_ (some 18) rfl rfl Tryd.func10 (by kernel_rfl) rfl #[] rfl (by (try simp only [List.map_toArray, List.map_cons, List.map_nil]); first | done | rfl | (simp only [List.length_drop, List.length_take]; rfl)) ?_; (with_reducible refine (X.cleanselaw05_head.calls  t362 _ ?side1 A4.out).mono ?_); (case side1 => exact X.GT.below HG.out (by repeat (first | (with_reducible first | exact HB.out | apply below_alloc | apply pw_below_drewN | apply below_drew1) | exact HB.out))); rintro e w12 ⟨rfl, hb⟩; refine ⟨_, rfl, ?_⟩; have n0_ := Aside0.mk (below_step (by repeat (first | (with_reducible first | exact HB.out | apply below_alloc | apply pw_below_drewN | apply below_drew1) | exact HB.out)) hb); clear HB; have HB := n0_; clear n0_; (try clear hb); (try clear hb2); (try clear hk); (try clear hi)) | ((with_reducible refine gate_callee (f := 11) rfl ?_); refine goesL_ (some 20) rfl rfl Tryd.func11 (by kernel_rfl) rfl #[.slice A0 l0.length c0] rfl (by (try simp only [List.map_toArray, List.map_cons, List.map_nil]); first | done | rfl | (simp only [List.length_drop, List.length_take]; rfl)) ?_; (with_reducible refine (cleanselaw05_few.calls k _ _ l0 true _ ?side1 ?side2 A5.out).mono ?_); (case side1 => repeat (first | exact (Kd.C_below HR0.out HB.out) | (with_reducible refine Kd.C_alloc ?_ _) | (with_reducible refine Kd.C_drewN ?_ _) | (with_reducible refine Kd.C_drew ?_))); (case side2 => exact HC0.out); rintro e w' ⟨rfl, ⟨nd, rfl⟩⟩; refine ⟨_, rfl, ?_⟩) | ((with_reducible refine gate_callee (f := 12) rfl ?_); refine goesL_ (some 36) rfl rfl Tryd.func12 (by kernel_rfl) rfl #[.slice A0 l0.length c0, .int .i64 ji7] rfl (by (try simp only [List.map_toArray, List.map_cons, List.map_nil]); first | done | (simp only [hji7]; rfl) | rfl | (simp only [List.length_drop, List.length_take]; rfl)) ?_; (with_reducible refine (sketch_Make.calls k _ _ l0 ji7 t364 t365 _ ?side1 ?side2 A8.out).mono ?_); (case side1 => repeat (first | exact (Kd.C_below HR0.out (by repeat (first | (with_reducible first | exact HB.out | apply below_alloc | apply pw_below_drewN | apply below_drew1) | exact HB.out))) | (with_reducible refine Kd.C_alloc ?_ _) | (with_reducible refine Kd.C_drewN ?_ _) | (with_reducible refine Kd.C_drew ?_))); (case side2 => exact HC0.out); rintro e w13 ⟨v366, rfl, ho0, hb⟩; refine ⟨_, rfl, ?_⟩; have n0_ := Aside0.mk (Kd.R_lower ho0 (below_size (by repeat (first | (with_reducible first | exact HB.out | apply below_alloc | apply pw_below_drewN | apply below_drew1) | exact HB.out)))); have n1_ := Aside0.mk (below_step (by repeat (first | (with_reducible first | exact HB.out | apply below_alloc | apply pw_below_drewN | apply below_drew1) | exact HB.out)) hb); clear HB; have HO367 := n0_; have HB := n1_; clear n0_ n1_; (try clear hb); (try clear hb2); (try clear hk); (try clear hi); (try clear ho0)) | ((with_reducible refine gate_callee (f := 12) rfl ?_); refine goesL_ (some 44) rfl rfl Tryd.func12 (by kernel_rfl) rfl #[.slice A0 l0.length c0, .int .i64 ji9] rfl (by (try simp only [List.map_toArray, List.map_cons, List.map_nil]); first | done | (simp only [hji9]; rfl) | rfl | (simp only [List.length_drop, List.length_take]; rfl)) ?_; (with_reducible refine (sketch_Make.calls k _ _ l0 ji9 t368 t369 _ ?side1 ?side2 A10.out).mono ?_); (case side1 => repeat (first | exact (Kd.C_below HR0.out HB.out) | (with_reducible refine Kd.C_alloc ?_ _) | (with_reducible refine Kd.C_drewN ?_ _) | (with_reducible refine Kd.C_drew ?_))); (case side2 => exact HC0.out); rintro e w14 ⟨v370, rfl, ho0, hb⟩; refine ⟨_, rfl, ?_⟩; have n0_ := Aside0.mk (Kd.R_elder' (by (with_reducible repeat (first | apply Kd.R_alloc | apply Kd.R_drewN | apply Kd.R_drew)); exact HO367.out) (Kd.R_base ho0) hb); have n1_ := Aside0.mk (Kd.R_lower (Kd.R_new' ho0 (Kd.R_lt (by (with_reducible repeat (first | apply Kd.R_alloc | apply Kd.R_drewN | apply Kd.R_drew)); exact HO367.out))) (below_size (by repeat (first | (with_reducible first | exact HB.out | apply below_alloc | apply pw_below_drewN | apply below_drew1) | exact HB.out)))); have n2_ := Aside0.mk (below_step (by repeat (first | (with_reducible first | exact HB.out | apply below_alloc | apply pw_below_drewN | apply below_drew1) | exact HB.out)) hb); clear HO367; clear HB; have HO367 := n0_; have HO371 := n1_; have HB := n2_; clear n0_ n1_ n2_; (try clear hb); (try clear hb2); (try clear hk); (try clear hi); (try clear ho0)))
    (try simp only [Act.put, List.setIfInBounds_toArray, List.set_cons_zero, List.set_cons_succ])
    go_cut [77] (fun v77 wc => ∃ (kq : Nat) (x77_10 : Bool), v77 = .bool x77_10 ∧ Aside0 (cleanselaw05_SketchShorter.j0 kq l0 t362 t368 x77_10 = some r) ∧ Aside0 (kq ≤ k) ∧ Aside0 (Kd.R (Kd.int .i64) 3 wc w.heap.size (fun _ => True) v370 t368) ∧ Aside0 (Below w.heap.size w wc))
    case first =>
      have H := HC11.out
      clear HC11
      by_cases c15 : t365 = 0
      · rw [if_pos c15] at H
        have c15b0 : (t365 == 0) = true := beq_iff_eq.mpr c15
        have c15b1 : (t365 != 0) = false := bne_eq_false_iff_eq.mpr c15
        clear c15
        (first | rw [c15b0] | (simp only [i64_w, i32_w]; rw [c15b0]) | skip)
        by_cases c16 : t369 = 0
        · rw [if_pos c16] at H
          have c16b0 : (t369 == 0) = true := beq_iff_eq.mpr c16
          have c16b1 : (t369 != 0) = false := bne_eq_false_iff_eq.mpr c16
          clear c16
          by_cases c17 : (t364.length : Int) = (ji7)
          · rw [if_pos c17] at H
            have c17b0 : ((t364.length : Int) == (ji7)) = true := beq_iff_eq.mpr c17
            have c17b1 : ((t364.length : Int) != (ji7)) = false := bne_eq_false_iff_eq.mpr c17
            clear c17
            by_cases c18 : (t368.length : Int) = (ji9)
            · rw [if_pos c18] at H
              have c18b0 : ((t368.length : Int) == (ji9)) = true := beq_iff_eq.mpr c18
              have c18b1 : ((t368.length : Int) != (ji9)) = false := bne_eq_false_iff_eq.mpr c18
              clear c18
              by_cases c19 : 0 ≤ (t364.length : Int)
              · rw [if_pos c19] at H
                have c19b0 := eq_true c19
                have c19b1 : decide (0 ≤ (t364.length : Int)) = true := decide_eq_true c19
                clear c19
                by_cases c20 : (t364.length : Int) ≤ (t368.length : Int)
                · rw [if_pos c20] at H
                  have c20b0 := eq_true c20
                  have c20b1 : decide ((t364.length : Int) ≤ (t368.length : Int)) = true := decide_eq_true c20
                  clear c20
                  obtain ⟨y372, hy372⟩ : ∃ y_ : List Int, y_ = (t368.take ((t364.length : Int) : Int).toNat) := ⟨_, rfl⟩
                  replace H : ((cleanseref05_Ints.f k t364 y372).bind fun t376 => (cleanselaw05_SketchShorter.j0 k l0 t362 t368 (!t376))) = some r := by first | (rw [hy372]; with_reducible exact H) | (have H2_ := (Option.bind_some _ _).symm.trans H; rw [hy372]; with_reducible exact H2_) | (have H2_ := (Option.bind_some _ _).symm.trans H; with_reducible exact H2_) | with_reducible exact H | (rw [hy372]; exact H) | exact H
                  have Ny372 := Aside0.mk hy372
                  clear hy372
                  replace H := Option.bind_eq_some_iff.mp H
                  obtain ⟨t376, A210, H⟩ := H
                  replace H : (cleanselaw05_SketchShorter.j0 k l0 t362 t368 (!t376)) = some r := H
                  have A21 := Aside0.mk A210
                  clear A210
                  have H' := Aside0.mk H
                  clear H
                  obtain ⟨Ao22, co22, eo22⟩ := Kd.R_slice HO367.out
                  subst eo22
                  obtain ⟨Ao23, co23, eo23⟩ := Kd.R_slice HO371.out
                  subst eo23
                  have q24 : ((t364.length : Int) : Int) ≤ ((t368.length : Int) : Int) := of_decide_eq_true (by first | (with_reducible assumption) | assumption)
                  obtain ⟨i024, hi024, _, hsz24, _⟩ := info_parts info3
                  have hroom24 : t368.length ≤ co23 := (Kd.R_reads' HO371.out).2.1
                  have hC24 : Kd.C (Kd.int .i64) _ Ao23 t368.length t368 := (Kd.R_reads' HO371.out).2.2
                  have hcut24 := cut_to (P := Tryd.prog) 23 3 .i64 Tryd.underlying23 hi024 Ao23 t368.length co23 (t364.length : Int) (of_decide_eq_true (by first | (with_reducible assumption) | assumption)) q24 hroom24
                  have hr24 := Kd.C_take (m := ((t364.length : Int) : Int).toNat) hC24 (by omega)
                  have hy24 : y372.length = ((t364.length : Int) : Int).toNat := (by rw [Ny372.out, List.length_take]; omega)
                  rw [← Ny372.out] at hr24
                  rw [← hy24] at hcut24
                  have HR375 := Aside0.mk hr24
                  have HC375 := Aside0.mk (show y372.length ≤ co23 from by omega)
                  clear hr24 hC24 hroom24 hi024 hsz24
                  have KY24 := Aside0.mk hy24
                  clear hy24
                  have KL24 := Aside0.mk (show ((t364.length : Int) : Int).toNat ≤ t368.length from by omega)
                  replace q24 := eq_true q24
                  go_wp2_with (first | (go_at_call 22; (with_reducible refine (cleanseref05_Ints.calls k _ _ t364 _ _ y372 t376 _ ?side1 ?side2 ?side3 ?side4 A21.out).mono ?_); (case side1 => repeat (first | exact (Kd.R_reads' HO367.out).2.2 | (with_reducible refine Kd.C_alloc ?_ _) | (with_reducible refine Kd.C_drewN ?_ _) | (with_reducible refine Kd.C_drew ?_))); (case side2 => exact (Kd.R_reads' HO367.out).2.1); (case side3 => repeat (first | exact (by repeat (first | (with_reducible exact HR375.out) | (with_reducible refine Kd.C_alloc ?_ _) | (with_reducible refine Kd.C_drewN ?_ _) | (with_reducible refine Kd.C_drew ?_) | exact HR375.out)) | (with_reducible refine Kd.C_alloc ?_ _) | (with_reducible refine Kd.C_drewN ?_ _) | (with_reducible refine Kd.C_drew ?_))); (case side4 => exact HC375.out); rintro e w' ⟨rfl, ⟨nd, rfl⟩⟩))
                  go_meet
                  case rel => exact ⟨_, (!t376), (by first | rfl | (simp; done) | (simp [*]; done)), H', ⟨by first | omega | exact Nat.le_refl _⟩, ⟨by (with_reducible repeat (first | apply Kd.R_alloc | apply Kd.R_drewN | apply Kd.R_drew)); exact Kd.R_mono HO371.out (fun _ hk => trivial)⟩, ⟨by repeat (first | (with_reducible first | exact HB.out | apply below_alloc | apply pw_below_drewN | apply below_drew1) | exact HB.out)⟩⟩
                · rw [if_neg c20] at H
                  exact absurd H (by simp)
              · rw [if_neg c19] at H
                exact absurd H (by simp)
            · rw [if_neg c18] at H
              have c18b0 : ((t368.length : Int) == (ji9)) = false := beq_eq_false_iff_ne.mpr c18
              have c18b1 : ((t368.length : Int) != (ji9)) = true := bne_iff_ne.mpr c18
              have H' := Aside0.mk H
              clear H
              obtain ⟨Ao25, co25, eo25⟩ := Kd.R_slice HO367.out
              subst eo25
              obtain ⟨Ao26, co26, eo26⟩ := Kd.R_slice HO371.out
              subst eo26
              go_wp2
              go_meet
              case rel => exact ⟨_, (true), (by first | rfl | (simp; done) | (simp [*]; done)), H', ⟨by first | omega | exact Nat.le_refl _⟩, ⟨by (with_reducible repeat (first | apply Kd.R_alloc | apply Kd.R_drewN | apply Kd.R_drew)); exact Kd.R_mono HO371.out (fun _ hk => trivial)⟩, ⟨by repeat (first | (with_reducible first | exact HB.out | apply below_alloc | apply pw_below_drewN | apply below_drew1) | exact HB.out)⟩⟩
          · rw [if_neg c17] at H
            have c17b0 : ((t364.length : Int) == (ji7)) = false := beq_eq_false_iff_ne.mpr c17
            have c17b1 : ((t364.length : Int) != (ji7)) = true := bne_iff_ne.mpr c17
            have H' := Aside0.mk H
            clear H
            obtain ⟨Ao27, co27, eo27⟩ := Kd.R_slice HO367.out
            subst eo27
            go_wp2
            go_meet
            case rel => exact ⟨_, (true), (by first | rfl | (simp; done) | (simp [*]; done)), H', ⟨by first | omega | exact Nat.le_refl _⟩, ⟨by (with_reducible repeat (first | apply Kd.R_alloc | apply Kd.R_drewN | apply Kd.R_drew)); exact Kd.R_mono HO371.out (fun _ hk => trivial)⟩, ⟨by repeat (first | (with_reducible first | exact HB.out | apply below_alloc | apply pw_below_drewN | apply below_drew1) | exact HB.out)⟩⟩
        · rw [if_neg c16] at H
          have c16b0 : (t369 == 0) = false := beq_eq_false_iff_ne.mpr c16
          have c16b1 : (t369 != 0) = true := bne_iff_ne.mpr c16
          have H' := Aside0.mk H
          clear H
          go_wp2
          go_meet
          case rel => exact ⟨_, (true), (by first | rfl | (simp; done) | (simp [*]; done)), H', ⟨by first | omega | exact Nat.le_refl _⟩, ⟨by (with_reducible repeat (first | apply Kd.R_alloc | apply Kd.R_drewN | apply Kd.R_drew)); exact Kd.R_mono HO371.out (fun _ hk => trivial)⟩, ⟨by repeat (first | (with_reducible first | exact HB.out | apply below_alloc | apply pw_below_drewN | apply below_drew1) | exact HB.out)⟩⟩
      · rw [if_neg c15] at H
        have c15b0 : (t365 == 0) = false := beq_eq_false_iff_ne.mpr c15
        have c15b1 : (t365 != 0) = true := bne_iff_ne.mpr c15
        (first | rw [c15b0] | (simp only [i64_w, i32_w]; rw [c15b0]) | skip)
        have H' := Aside0.mk H
        clear H
        go_wp2
        go_meet
        case rel => exact ⟨_, (true), (by first | rfl | (simp; done) | (simp [*]; done)), H', ⟨by first | omega | exact Nat.le_refl _⟩, ⟨by (with_reducible repeat (first | apply Kd.R_alloc | apply Kd.R_drewN | apply Kd.R_drew)); exact Kd.R_mono HO371.out (fun _ hk => trivial)⟩, ⟨by repeat (first | (with_reducible first | exact HB.out | apply below_alloc | apply pw_below_drewN | apply below_drew1) | exact HB.out)⟩⟩
    case rest =>
      clear HC11
      try clear c1
      try clear c2
      try clear p2
      try clear q2
      try clear c6
      try clear p6
      try clear c9
      try clear c10
      try clear c11
      try clear c12
      try clear c15
      try clear c15b0
      try clear c15b1
      try clear c16
      try clear c16b0
      try clear c16b1
      try clear c17
      try clear c17b0
      try clear c17b1
      try clear c18
      try clear c18b0
      try clear c18b1
      try clear c19
      try clear c19b0
      try clear c19b1
      try clear c20
      try clear c20b0
      try clear c20b1
      try clear q24
      try clear q24
      obtain ⟨kq, x77_10, rfl, HA, HJ10, HO_12, HB⟩ := hcut
      cases kq with
      | zero => exact absurd HA.out (by simp [cleanselaw05_SketchShorter.j0])
      | succ kj10 =>
        have H := HA.out
        clear HA
        simp only [cleanselaw05_SketchShorter.j0] at H
        by_cases c28 : x77_10 = true
        · subst c28
          have H1 : (some false) = some r := by rw [if_pos rfl] at H; exact H
          clear H
          have H := H1
          clear H1
          obtain rfl := Option.some.inj H
          go_wp2
          go_ret
          exact ⟨by first | rfl | (simp [errW_none, errW_some] <;> rfl) | (simp only [← hji7, ← hji9]; first | rfl | (simp [errW_none, errW_some] <;> rfl)) | (simp [*, errW_none, errW_some] <;> rfl), by repeat (first | (with_reducible first | exact HB.out | apply below_alloc | apply pw_below_drewN | apply below_drew1) | exact HB.out)⟩
        · replace c28 := Bool.eq_false_iff.mpr c28
          subst c28
          have H1 : (cleanselaw05_SketchShorter.l0 kj10 l0 t362 t368 0) = some r := by rw [if_neg (show ¬ (false = true) by decide)] at H; exact H
          clear H
          have H := H1
          clear H1
          have H' := Aside0.mk H
          clear H
          go_wp2
          go_loopg [14] kj10 (fun kq v14 w' => ∃ (x14_2 : Int), v14 = .int .i64 x14_2 ∧ Aside0 (cleanselaw05_SketchShorter.l0 kq l0 t362 t368 x14_2 = some r) ∧ Aside0 (kq ≤ kj10) ∧ Aside0 (Kd.R (Kd.int .i64) 3 w' w.heap.size (fun _ => True) v370 t368) ∧ Aside0 (Below w.heap.size w w'))
          case atStart => exact ⟨(0), (by first | rfl | (simp; done) | (simp [*]; done)), H', ⟨Nat.le_refl _⟩, ⟨by (with_reducible repeat (first | apply Kd.R_alloc | apply Kd.R_drewN | apply Kd.R_drew)); exact HO_12.out⟩, ⟨by repeat (first | (with_reducible first | exact HB.out | apply below_alloc | apply pw_below_drewN | apply below_drew1) | exact HB.out)⟩⟩
          case round =>
            clear H'
            try clear c1
            try clear c2
            try clear p2
            try clear q2
            try clear c6
            try clear p6
            try clear c9
            try clear c10
            try clear c11
            try clear c12
            try clear c15
            try clear c15b0
            try clear c15b1
            try clear c16
            try clear c16b0
            try clear c16b1
            try clear c17
            try clear c17b0
            try clear c17b1
            try clear c18
            try clear c18b0
            try clear c18b1
            try clear c19
            try clear c19b0
            try clear c19b1
            try clear c20
            try clear c20b0
            try clear c20b1
            try clear q24
            try clear c28
            try clear p2
            try clear p6
            try clear q2
            try clear q24
            obtain ⟨x14_2, rfl, HA, HK2, HO_12, HB⟩ := hrel
            cases gk with
            | zero => exact absurd HA.out (by simp [cleanselaw05_SketchShorter.l0])
            | succ k2 =>
              have H := HA.out
              clear HA
              simp only [cleanselaw05_SketchShorter.l0] at H
              by_cases c29 : x14_2 < (t368.length : Int)
              · rw [if_pos c29] at H
                have c29b0 : decide (x14_2 < (t368.length : Int)) = true := decide_eq_true c29
                clear c29
                have HC30 := Aside0.mk H
                clear H
                obtain ⟨Ao31, co31, eo31⟩ := Kd.R_slice HO_12.out
                subst eo31
                go_upto_region 13 with (fail)
                go_cut [15] (fun v15 wc => ∃ (kq : Nat) (x15_29 : Bool), v15 = .bool x15_29 ∧ Aside0 (cleanselaw05_SketchShorter.j2 kq l0 t362 t368 x14_2 x15_29 = some r) ∧ Aside0 (kq ≤ k2) ∧ Aside0 (Kd.R (Kd.int .i64) 3 wc w.heap.size (fun _ => True) (.slice Ao31 t368.length co31) t368) ∧ Aside0 (Below w.heap.size w wc))
                case first =>
                  have H := HC30.out
                  clear HC30
                  by_cases c32 : (l0.length : Int) = 0
                  · rw [if_pos c32] at H
                    have c32b0 : ((l0.length : Int) == 0) = true := beq_iff_eq.mpr c32
                    have c32b1 : ((l0.length : Int) != 0) = false := bne_eq_false_iff_eq.mpr c32
                    clear c32
                    (first | rw [c32b0] | (simp only [i64_w, i32_w]; rw [c32b0]) | skip)
                    by_cases c33 : 0 ≤ x14_2
                    · rw [if_pos c33] at H
                      have c33b0 : decide (0 ≤ x14_2) = true := decide_eq_true c33
                      clear c33
                      have H' := Aside0.mk H
                      clear H
                      have p377 : 0 ≤ (x14_2 : Int) := of_decide_eq_true (by first | (with_reducible assumption) | assumption)
                      have q377 : x14_2 < (t368.length : Int) := of_decide_eq_true (by first | (with_reducible assumption) | assumption)
                      obtain ⟨ad377, e377, hx377_0⟩ := Kd.at_int (Kd.R_reads' HO_12.out).2.2 x14_2 p377 q377
                      cases e377
                      replace p377 := eq_true p377
                      replace q377 := eq_true q377
                      go_wp2
                      go_meet
                      case rel => exact ⟨_, (((rd t368 x14_2) == (-1))), (by first | rfl | (simp; done) | (simp [*]; done)), H', ⟨by have := HJ10.out; have := HK2.out; first | omega | exact Nat.le_refl _⟩, ⟨by (with_reducible repeat (first | apply Kd.R_alloc | apply Kd.R_drewN | apply Kd.R_drew)); exact HO_12.out⟩, ⟨by repeat (first | (with_reducible first | exact HB.out | apply below_alloc | apply pw_below_drewN | apply below_drew1) | exact HB.out)⟩⟩
                    · rw [if_neg c33] at H
                      exact absurd H (by simp)
                  · rw [if_neg c32] at H
                    have c32b0 : ((l0.length : Int) == 0) = false := beq_eq_false_iff_ne.mpr c32
                    have c32b1 : ((l0.length : Int) != 0) = true := bne_iff_ne.mpr c32
                    have c32b2 : ¬ (l0 = []) := fun h_ => c32 (by rw [h_]; rfl)
                    (first | rw [c32b0] | (simp only [i64_w, i32_w]; rw [c32b0]) | skip)
                    have H' := Aside0.mk H
                    clear H
                    go_wp2
                    go_meet
                    case rel => exact ⟨_, (false), (by first | rfl | (simp; done) | (simp [*]; done)), H', ⟨by have := HJ10.out; have := HK2.out; first | omega | exact Nat.le_refl _⟩, ⟨by (with_reducible repeat (first | apply Kd.R_alloc | apply Kd.R_drewN | apply Kd.R_drew)); exact HO_12.out⟩, ⟨by repeat (first | (with_reducible first | exact HB.out | apply below_alloc | apply pw_below_drewN | apply below_drew1) | exact HB.out)⟩⟩
                case rest =>
                  clear HC30
                  try clear c1
                  try clear c2
                  try clear p2
                  try clear q2
                  try clear c3
                  try clear p3
                  try clear q3
                  try clear hx3
                  try clear c6
                  try clear p6
                  try clear c9
                  try clear c10
                  try clear c11
                  try clear c12
                  try clear c15
                  try clear c15b0
                  try clear c15b1
                  try clear c16
                  try clear c16b0
                  try clear c16b1
                  try clear c17
                  try clear c17b0
                  try clear c17b1
                  try clear c18
                  try clear c18b0
                  try clear c18b1
                  try clear c19
                  try clear c19b0
                  try clear c19b1
                  try clear c20
                  try clear c20b0
                  try clear c20b1
                  try clear q24
                  try clear c28
                  try clear c29
                  try clear c29b0
                  try clear c32
                  try clear c32b0
                  try clear c32b1
                  try clear c32b2
                  try clear c33
                  try clear c33b0
                  try clear hx377_0
                  try clear p2
                  try clear p377
                  try clear p6
                  try clear q2
                  try clear q24
                  try clear q377
                  obtain ⟨kq, x15_29, rfl, HA, HJ29, HO_12, HB⟩ := hcut
                  cases kq with
                  | zero => exact absurd HA.out (by simp [cleanselaw05_SketchShorter.j2])
                  | succ kj29 =>
                    have H := HA.out
                    clear HA
                    simp only [cleanselaw05_SketchShorter.j2] at H
                    have H' := Aside0.mk H
                    clear H
                    go_wp2
                    go_loopg [15, 16] kj29 (fun kq v15 v16 w' => ∃ (x15_4 : Bool) (x16_4 : Int), v15 = .bool x15_4 ∧ v16 = .int .i64 x16_4 ∧ Aside0 (cleanselaw05_SketchShorter.l1 kq l0 t362 t368 x14_2 x15_4 x16_4 = some r) ∧ Aside0 (kq ≤ kj29) ∧ Aside0 (Kd.R (Kd.int .i64) 3 w' w.heap.size (fun _ => True) (.slice Ao31 t368.length co31) t368) ∧ Aside0 (Below w.heap.size w w'))
                    case atStart => exact ⟨(x15_29), (0), (by first | rfl | (simp; done) | (simp [*]; done)), (by first | rfl | (simp; done) | (simp [*]; done)), H', ⟨Nat.le_refl _⟩, ⟨by (with_reducible repeat (first | apply Kd.R_alloc | apply Kd.R_drewN | apply Kd.R_drew)); exact HO_12.out⟩, ⟨by repeat (first | (with_reducible first | exact HB.out | apply below_alloc | apply pw_below_drewN | apply below_drew1) | exact HB.out)⟩⟩
                    case round =>
                      clear H'
                      try clear c1
                      try clear c2
                      try clear p2
                      try clear q2
                      try clear c3
                      try clear p3
                      try clear q3
                      try clear hx3
                      try clear c6
                      try clear p6
                      try clear c9
                      try clear c10
                      try clear c11
                      try clear c12
                      try clear c15
                      try clear c15b0
                      try clear c15b1
                      try clear c16
                      try clear c16b0
                      try clear c16b1
                      try clear c17
                      try clear c17b0
                      try clear c17b1
                      try clear c18
                      try clear c18b0
                      try clear c18b1
                      try clear c19
                      try clear c19b0
                      try clear c19b1
                      try clear c20
                      try clear c20b0
                      try clear c20b1
                      try clear q24
                      try clear c28
                      try clear c29
                      try clear c29b0
                      try clear c32
                      try clear c32b0
                      try clear c32b1
                      try clear c32b2
                      try clear c33
                      try clear c33b0
                      try clear hx377_0
                      try clear p2
                      try clear p3
                      try clear p377
                      try clear p6
                      try clear q2
                      try clear q24
                      try clear q3
                      try clear q377
                      obtain ⟨x15_4, x16_4, rfl, rfl, HA, HK4, HO_12, HB⟩ := hrel
                      cases gk with
                      | zero => exact absurd HA.out (by simp [cleanselaw05_SketchShorter.l1])
                      | succ k4 =>
                        have H := HA.out
                        clear HA
                        simp only [cleanselaw05_SketchShorter.l1] at H
                        by_cases c34 : x16_4 < (l0.length : Int)
                        · rw [if_pos c34] at H
                          have c34b0 : decide (x16_4 < (l0.length : Int)) = true := decide_eq_true c34
                          clear c34
                          by_cases c35 : 0 ≤ x16_4
                          · rw [if_pos c35] at H
                            have c35b0 : decide (0 ≤ x16_4) = true := decide_eq_true c35
                            clear c35
                            replace H := Option.bind_eq_some_iff.mp H
                            obtain ⟨t379, A360, H⟩ := H
                            replace H : (if x15_4 = true then (if 0 ≤ x14_2 then (if x14_2 < (t368.length : Int) then (if t379 < (rd t368 x14_2) then (some false) else (cleanselaw05_SketchShorter.l1 k4 l0 t362 t368 x14_2 true (wrap64 (x16_4 + 1)))) else (none)) else (none)) else (if 0 ≤ x14_2 then (if x14_2 < (t368.length : Int) then (if t379 < (rd t368 x14_2) then (some false) else (cleanselaw05_SketchShorter.l1 k4 l0 t362 t368 x14_2 (t379 == (rd t368 x14_2)) (wrap64 (x16_4 + 1)))) else (none)) else (none))) = some r := H
                            have A36 := Aside0.mk A360
                            clear A360
                            by_cases c37 : x15_4 = true
                            · subst c37
                              have H1 : (if 0 ≤ x14_2 then (if x14_2 < (t368.length : Int) then (if t379 < (rd t368 x14_2) then (some false) else (cleanselaw05_SketchShorter.l1 k4 l0 t362 t368 x14_2 true (wrap64 (x16_4 + 1)))) else (none)) else (none)) = some r := by rw [if_pos rfl] at H; exact H
                              clear H
                              have H := H1
                              clear H1
                              by_cases c38 : 0 ≤ x14_2
                              · rw [if_pos c38] at H
                                have c38b0 : decide (0 ≤ x14_2) = true := decide_eq_true c38
                                clear c38
                                by_cases c39 : x14_2 < (t368.length : Int)
                                · rw [if_pos c39] at H
                                  have c39b0 : decide (x14_2 < (t368.length : Int)) = true := decide_eq_true c39
                                  clear c39
                                  by_cases c40 : t379 < (rd t368 x14_2)
                                  · rw [if_pos c40] at H
                                    have c40b0 : decide (t379 < (rd t368 x14_2)) = true := decide_eq_true c40
                                    clear c40
                                    obtain rfl := Option.some.inj H
                                    have p378 : 0 ≤ (x16_4 : Int) := of_decide_eq_true (by first | (with_reducible assumption) | assumption)
                                    have q378 : x16_4 < (l0.length : Int) := of_decide_eq_true (by first | (with_reducible assumption) | assumption)
                                    obtain ⟨ad378, e378, hx378_0⟩ := Kd.at_string HR0.out x16_4 p378 q378
                                    cases e378
                                    replace hx378_0 := (HB.out.cell (World.block_lt_of_cell? w _ hx378_0)).trans hx378_0
                                    replace p378 := eq_true p378
                                    replace q378 := eq_true q378
                                    go_wp2_with (first | ((with_reducible refine gate_callee (f := 20) rfl ?_); refine goesL_ (some 105) rfl rfl Tryd.func20 (by kernel_rfl) rfl #[.string (rdOf ByteArray.empty l0 x16_4), .int .i64 x14_2] rfl (by (try simp only [List.map_toArray, List.map_cons, List.map_nil]); first | done | rfl | (simp only [List.length_drop, List.length_take]; rfl)) ?_; (with_reducible refine (X.sketch_Hash.calls (rdOf ByteArray.empty l0 x16_4) x14_2 t379 _ A36.out).mono ?_); rintro e w41 ⟨rfl, hb⟩; refine ⟨_, rfl, ?_⟩; have n0_ := Aside0.mk (Kd.R_below (by (with_reducible repeat (first | apply Kd.R_alloc | apply Kd.R_drewN | apply Kd.R_drew)); exact HO_12.out) hb); have n1_ := Aside0.mk (below_step (by repeat (first | (with_reducible first | exact HB.out | apply below_alloc | apply pw_below_drewN | apply below_drew1) | exact HB.out)) hb); clear HO_12; clear HB; have HO_12 := n0_; have HB := n1_; clear n0_ n1_; (try clear hb); (try clear hb2); (try clear hk); (try clear hi); have p380 : 0 ≤ (x14_2 : Int) := of_decide_eq_true (by first | (with_reducible assumption) | assumption); have q380 : x14_2 < (t368.length : Int) := of_decide_eq_true (by first | (with_reducible assumption) | assumption); obtain ⟨ad380, e380, hx380_0⟩ := Kd.at_int (Kd.R_reads' HO_12.out).2.2 x14_2 p380 q380; cases e380; replace p380 := eq_true p380; replace q380 := eq_true q380))
                                    go_ret
                                    exact ⟨by first | rfl | (simp [errW_none, errW_some] <;> rfl) | (simp only [← hji7, ← hji9]; first | rfl | (simp [errW_none, errW_some] <;> rfl)) | (simp [*, errW_none, errW_some] <;> rfl), by repeat (first | (with_reducible first | exact HB.out | apply below_alloc | apply pw_below_drewN | apply below_drew1) | exact HB.out)⟩
                                  · rw [if_neg c40] at H
                                    have c40b0 : decide (t379 < (rd t368 x14_2)) = false := decide_eq_false c40
                                    clear c40
                                    have H' := Aside0.mk H
                                    clear H
                                    have p378 : 0 ≤ (x16_4 : Int) := of_decide_eq_true (by first | (with_reducible assumption) | assumption)
                                    have q378 : x16_4 < (l0.length : Int) := of_decide_eq_true (by first | (with_reducible assumption) | assumption)
                                    obtain ⟨ad378, e378, hx378_0⟩ := Kd.at_string HR0.out x16_4 p378 q378
                                    cases e378
                                    replace hx378_0 := (HB.out.cell (World.block_lt_of_cell? w _ hx378_0)).trans hx378_0
                                    replace p378 := eq_true p378
                                    replace q378 := eq_true q378
                                    go_wp2_with (first | ((with_reducible refine gate_callee (f := 20) rfl ?_); refine goesL_ (some 105) rfl rfl Tryd.func20 (by kernel_rfl) rfl #[.string (rdOf ByteArray.empty l0 x16_4), .int .i64 x14_2] rfl (by (try simp only [List.map_toArray, List.map_cons, List.map_nil]); first | done | rfl | (simp only [List.length_drop, List.length_take]; rfl)) ?_; (with_reducible refine (X.sketch_Hash.calls (rdOf ByteArray.empty l0 x16_4) x14_2 t379 _ A36.out).mono ?_); rintro e w42 ⟨rfl, hb⟩; refine ⟨_, rfl, ?_⟩; have n0_ := Aside0.mk (Kd.R_below (by (with_reducible repeat (first | apply Kd.R_alloc | apply Kd.R_drewN | apply Kd.R_drew)); exact HO_12.out) hb); have n1_ := Aside0.mk (below_step (by repeat (first | (with_reducible first | exact HB.out | apply below_alloc | apply pw_below_drewN | apply below_drew1) | exact HB.out)) hb); clear HO_12; clear HB; have HO_12 := n0_; have HB := n1_; clear n0_ n1_; (try clear hb); (try clear hb2); (try clear hk); (try clear hi); have p380 : 0 ≤ (x14_2 : Int) := of_decide_eq_true (by first | (with_reducible assumption) | assumption); have q380 : x14_2 < (t368.length : Int) := of_decide_eq_true (by first | (with_reducible assumption) | assumption); obtain ⟨ad380, e380, hx380_0⟩ := Kd.at_int (Kd.R_reads' HO_12.out).2.2 x14_2 p380 q380; cases e380; replace p380 := eq_true p380; replace q380 := eq_true q380))
                                    go_roundg k4
                                    case measure => have := HJ10.out; have := HK2.out; have := HJ29.out; have := HK4.out; omega
                                    case rel => exact ⟨(true), (wrap64 (x16_4 + 1)), (by first | rfl | (simp; done) | (simp [*]; done)), (by first | rfl | (simp; done) | (simp [*]; done)), H', ⟨by have := HJ10.out; have := HK2.out; have := HJ29.out; have := HK4.out; omega⟩, ⟨by (with_reducible repeat (first | apply Kd.R_alloc | apply Kd.R_drewN | apply Kd.R_drew)); exact HO_12.out⟩, ⟨by repeat (first | (with_reducible first | exact HB.out | apply below_alloc | apply pw_below_drewN | apply below_drew1) | exact HB.out)⟩⟩
                                · rw [if_neg c39] at H
                                  exact absurd H (by simp)
                              · rw [if_neg c38] at H
                                exact absurd H (by simp)
                            · replace c37 := Bool.eq_false_iff.mpr c37
                              subst c37
                              have H1 : (if 0 ≤ x14_2 then (if x14_2 < (t368.length : Int) then (if t379 < (rd t368 x14_2) then (some false) else (cleanselaw05_SketchShorter.l1 k4 l0 t362 t368 x14_2 (t379 == (rd t368 x14_2)) (wrap64 (x16_4 + 1)))) else (none)) else (none)) = some r := by rw [if_neg (show ¬ (false = true) by decide)] at H; exact H
                              clear H
                              have H := H1
                              clear H1
                              by_cases c43 : 0 ≤ x14_2
                              · rw [if_pos c43] at H
                                have c43b0 : decide (0 ≤ x14_2) = true := decide_eq_true c43
                                clear c43
                                by_cases c44 : x14_2 < (t368.length : Int)
                                · rw [if_pos c44] at H
                                  have c44b0 : decide (x14_2 < (t368.length : Int)) = true := decide_eq_true c44
                                  clear c44
                                  by_cases c45 : t379 < (rd t368 x14_2)
                                  · rw [if_pos c45] at H
                                    have c45b0 : decide (t379 < (rd t368 x14_2)) = true := decide_eq_true c45
                                    clear c45
                                    obtain rfl := Option.some.inj H
                                    have p378 : 0 ≤ (x16_4 : Int) := of_decide_eq_true (by first | (with_reducible assumption) | assumption)
                                    have q378 : x16_4 < (l0.length : Int) := of_decide_eq_true (by first | (with_reducible assumption) | assumption)
                                    obtain ⟨ad378, e378, hx378_0⟩ := Kd.at_string HR0.out x16_4 p378 q378
                                    cases e378
                                    replace hx378_0 := (HB.out.cell (World.block_lt_of_cell? w _ hx378_0)).trans hx378_0
                                    replace p378 := eq_true p378
                                    replace q378 := eq_true q378
                                    go_wp2_with (first | ((with_reducible refine gate_callee (f := 20) rfl ?_); refine goesL_ (some 105) rfl rfl Tryd.func20 (by kernel_rfl) rfl #[.string (rdOf ByteArray.empty l0 x16_4), .int .i64 x14_2] rfl (by (try simp only [List.map_toArray, List.map_cons, List.map_nil]); first | done | rfl | (simp only [List.length_drop, List.length_take]; rfl)) ?_; (with_reducible refine (X.sketch_Hash.calls (rdOf ByteArray.empty l0 x16_4) x14_2 t379 _ A36.out).mono ?_); rintro e w46 ⟨rfl, hb⟩; refine ⟨_, rfl, ?_⟩; have n0_ := Aside0.mk (Kd.R_below (by (with_reducible repeat (first | apply Kd.R_alloc | apply Kd.R_drewN | apply Kd.R_drew)); exact HO_12.out) hb); have n1_ := Aside0.mk (below_step (by repeat (first | (with_reducible first | exact HB.out | apply below_alloc | apply pw_below_drewN | apply below_drew1) | exact HB.out)) hb); clear HO_12; clear HB; have HO_12 := n0_; have HB := n1_; clear n0_ n1_; (try clear hb); (try clear hb2); (try clear hk); (try clear hi); have p381 : 0 ≤ (x14_2 : Int) := of_decide_eq_true (by first | (with_reducible assumption) | assumption); have q381 : x14_2 < (t368.length : Int) := of_decide_eq_true (by first | (with_reducible assumption) | assumption); obtain ⟨ad381, e381, hx381_0⟩ := Kd.at_int (Kd.R_reads' HO_12.out).2.2 x14_2 p381 q381; cases e381; replace p381 := eq_true p381; replace q381 := eq_true q381; have p382 : 0 ≤ (x14_2 : Int) := of_decide_eq_true (by first | (with_reducible assumption) | assumption); have q382 : x14_2 < (t368.length : Int) := of_decide_eq_true (by first | (with_reducible assumption) | assumption); obtain ⟨ad382, e382, hx382_0⟩ := Kd.at_int (Kd.R_reads' HO_12.out).2.2 x14_2 p382 q382; obtain rfl : ad381 = ad382 := (by injection e382); replace p382 := eq_true p382; replace q382 := eq_true q382))
                                    go_ret
                                    exact ⟨by first | rfl | (simp [errW_none, errW_some] <;> rfl) | (simp only [← hji7, ← hji9]; first | rfl | (simp [errW_none, errW_some] <;> rfl)) | (simp [*, errW_none, errW_some] <;> rfl), by repeat (first | (with_reducible first | exact HB.out | apply below_alloc | apply pw_below_drewN | apply below_drew1) | exact HB.out)⟩
                                  · rw [if_neg c45] at H
                                    have c45b0 : decide (t379 < (rd t368 x14_2)) = false := decide_eq_false c45
                                    clear c45
                                    have H' := Aside0.mk H
                                    clear H
                                    have p378 : 0 ≤ (x16_4 : Int) := of_decide_eq_true (by first | (with_reducible assumption) | assumption)
                                    have q378 : x16_4 < (l0.length : Int) := of_decide_eq_true (by first | (with_reducible assumption) | assumption)
                                    obtain ⟨ad378, e378, hx378_0⟩ := Kd.at_string HR0.out x16_4 p378 q378
                                    cases e378
                                    replace hx378_0 := (HB.out.cell (World.block_lt_of_cell? w _ hx378_0)).trans hx378_0
                                    replace p378 := eq_true p378
                                    replace q378 := eq_true q378
                                    go_wp2_with (first | ((with_reducible refine gate_callee (f := 20) rfl ?_); refine goesL_ (some 105) rfl rfl Tryd.func20 (by kernel_rfl) rfl #[.string (rdOf ByteArray.empty l0 x16_4), .int .i64 x14_2] rfl (by (try simp only [List.map_toArray, List.map_cons, List.map_nil]); first | done | rfl | (simp only [List.length_drop, List.length_take]; rfl)) ?_; (with_reducible refine (X.sketch_Hash.calls (rdOf ByteArray.empty l0 x16_4) x14_2 t379 _ A36.out).mono ?_); rintro e w47 ⟨rfl, hb⟩; refine ⟨_, rfl, ?_⟩; have n0_ := Aside0.mk (Kd.R_below (by (with_reducible repeat (first | apply Kd.R_alloc | apply Kd.R_drewN | apply Kd.R_drew)); exact HO_12.out) hb); have n1_ := Aside0.mk (below_step (by repeat (first | (with_reducible first | exact HB.out | apply below_alloc | apply pw_below_drewN | apply below_drew1) | exact HB.out)) hb); clear HO_12; clear HB; have HO_12 := n0_; have HB := n1_; clear n0_ n1_; (try clear hb); (try clear hb2); (try clear hk); (try clear hi); have p381 : 0 ≤ (x14_2 : Int) := of_decide_eq_true (by first | (with_reducible assumption) | assumption); have q381 : x14_2 < (t368.length : Int) := of_decide_eq_true (by first | (with_reducible assumption) | assumption); obtain ⟨ad381, e381, hx381_0⟩ := Kd.at_int (Kd.R_reads' HO_12.out).2.2 x14_2 p381 q381; cases e381; replace p381 := eq_true p381; replace q381 := eq_true q381; have p382 : 0 ≤ (x14_2 : Int) := of_decide_eq_true (by first | (with_reducible assumption) | assumption); have q382 : x14_2 < (t368.length : Int) := of_decide_eq_true (by first | (with_reducible assumption) | assumption); obtain ⟨ad382, e382, hx382_0⟩ := Kd.at_int (Kd.R_reads' HO_12.out).2.2 x14_2 p382 q382; obtain rfl : ad381 = ad382 := (by injection e382); replace p382 := eq_true p382; replace q382 := eq_true q382))
                                    go_roundg k4
                                    case measure => have := HJ10.out; have := HK2.out; have := HJ29.out; have := HK4.out; omega
                                    case rel => exact ⟨((t379 == (rd t368 x14_2))), (wrap64 (x16_4 + 1)), (by first | rfl | (simp; done) | (simp [*]; done)), (by first | rfl | (simp; done) | (simp [*]; done)), H', ⟨by have := HJ10.out; have := HK2.out; have := HJ29.out; have := HK4.out; omega⟩, ⟨by (with_reducible repeat (first | apply Kd.R_alloc | apply Kd.R_drewN | apply Kd.R_drew)); exact HO_12.out⟩, ⟨by repeat (first | (with_reducible first | exact HB.out | apply below_alloc | apply pw_below_drewN | apply below_drew1) | exact HB.out)⟩⟩
                                · rw [if_neg c44] at H
                                  exact absurd H (by simp)
                              · rw [if_neg c43] at H
                                exact absurd H (by simp)
                          · rw [if_neg c35] at H
                            exact absurd H (by simp)
                        · rw [if_neg c34] at H
                          have c34b0 : decide (x16_4 < (l0.length : Int)) = false := decide_eq_false c34
                          clear c34
                          by_cases c48 : x15_4 = true
                          · subst c48
                            have H1 : (cleanselaw05_SketchShorter.l0 k4 l0 t362 t368 (wrap64 (x14_2 + 1))) = some r := by rw [if_pos rfl] at H; exact H
                            clear H
                            have H := H1
                            clear H1
                            have H' := Aside0.mk H
                            clear H
                            go_wp2
                            go_roundg k4
                            case measure => have := HJ10.out; have := HK2.out; have := HJ29.out; have := HK4.out; omega
                            case rel => exact ⟨(wrap64 (x14_2 + 1)), (by first | rfl | (simp; done) | (simp [*]; done)), H', ⟨by have := HJ10.out; have := HK2.out; have := HJ29.out; have := HK4.out; omega⟩, ⟨by (with_reducible repeat (first | apply Kd.R_alloc | apply Kd.R_drewN | apply Kd.R_drew)); exact HO_12.out⟩, ⟨by repeat (first | (with_reducible first | exact HB.out | apply below_alloc | apply pw_below_drewN | apply below_drew1) | exact HB.out)⟩⟩
                          · replace c48 := Bool.eq_false_iff.mpr c48
                            subst c48
                            have H1 : (some false) = some r := by rw [if_neg (show ¬ (false = true) by decide)] at H; exact H
                            clear H
                            have H := H1
                            clear H1
                            obtain rfl := Option.some.inj H
                            go_wp2
                            go_ret
                            exact ⟨by first | rfl | (simp [errW_none, errW_some] <;> rfl) | (simp only [← hji7, ← hji9]; first | rfl | (simp [errW_none, errW_some] <;> rfl)) | (simp [*, errW_none, errW_some] <;> rfl), by repeat (first | (with_reducible first | exact HB.out | apply below_alloc | apply pw_below_drewN | apply below_drew1) | exact HB.out)⟩
              · rw [if_neg c29] at H
                have c29b0 : decide (x14_2 < (t368.length : Int)) = false := decide_eq_false c29
                clear c29
                obtain rfl := Option.some.inj H
                obtain ⟨Ao49, co49, eo49⟩ := Kd.R_slice HO_12.out
                subst eo49
                go_wp2
                go_ret
                exact ⟨by first | rfl | (simp [errW_none, errW_some] <;> rfl) | (simp only [← hji7, ← hji9]; first | rfl | (simp [errW_none, errW_some] <;> rfl)) | (simp [*, errW_none, errW_some] <;> rfl), by repeat (first | (with_reducible first | exact HB.out | apply below_alloc | apply pw_below_drewN | apply below_drew1) | exact HB.out)⟩
  · replace c6 := Bool.eq_false_iff.mpr c6
    subst c6
    have H1 : (some t362) = some r := by rw [if_neg (show ¬ (false = true) by decide)] at H; exact H
    clear H
    have H := H1
    clear H1
    obtain rfl := Option.some.inj H
    go_enter Tryd.func9, Tryd.ntmps9
    go_wp2_with (first | ((with_reducible refine gate_callee (f := 10) rfl ?_); refine goesL_ (some 18) rfl rfl Tryd.func10 (by kernel_rfl) rfl #[] rfl (by (try simp only [List.map_toArray, List.map_cons, List.map_nil]); first | done | rfl | (simp only [List.length_drop, List.length_take]; rfl)) ?_; (with_reducible refine (X.cleanselaw05_head.calls  t362 _ ?side1 A4.out).mono ?_); (case side1 => exact X.GT.below HG.out (by repeat (first | (with_reducible first | exact HB.out | apply below_alloc | apply pw_below_drewN | apply below_drew1) | exact HB.out))); rintro e w50 ⟨rfl, hb⟩; refine ⟨_, rfl, ?_⟩; have n0_ := Aside0.mk (below_step (by repeat (first | (with_reducible first | exact HB.out | apply below_alloc | apply pw_below_drewN | apply below_drew1) | exact HB.out)) hb); clear HB; have HB := n0_; clear n0_; (try clear hb); (try clear hb2); (try clear hk); (try clear hi)) | ((with_reducible refine gate_callee (f := 11) rfl ?_); refine goesL_ (some 20) rfl rfl Tryd.func11 (by kernel_rfl) rfl #[.slice A0 l0.length c0] rfl (by (try simp only [List.map_toArray, List.map_cons, List.map_nil]); first | done | rfl | (simp only [List.length_drop, List.length_take]; rfl)) ?_; (with_reducible refine (cleanselaw05_few.calls k _ _ l0 false _ ?side1 ?side2 A5.out).mono ?_); (case side1 => repeat (first | exact (Kd.C_below HR0.out HB.out) | (with_reducible refine Kd.C_alloc ?_ _) | (with_reducible refine Kd.C_drewN ?_ _) | (with_reducible refine Kd.C_drew ?_))); (case side2 => exact HC0.out); rintro e w' ⟨rfl, ⟨nd, rfl⟩⟩; refine ⟨_, rfl, ?_⟩))
    go_ret
    exact ⟨by first | rfl | (simp [errW_none, errW_some] <;> rfl) | (simp [*, errW_none, errW_some] <;> rfl), by repeat (first | (with_reducible first | exact HB.out | apply below_alloc | apply pw_below_drewN | apply below_drew1) | exact HB.out)⟩

end Go.Proofs.YtiobkccmgigmhaaDoor.Px
