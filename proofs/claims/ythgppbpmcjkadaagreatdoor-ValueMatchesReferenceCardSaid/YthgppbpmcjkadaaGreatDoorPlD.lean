/- Go functions as Lean functions, each with the proof that the Go code answers as it does (written by a program of this session: myprint.py, over the kit's printer). Go functions as Lean functions, each with the proof that the Go code answers as it does (written by a program of this session: myprint.py, over the kit's printer). The reference's way to read a text: guess a value, and write it: the same answers. What the reference's printed functions compute: validity, quoting, decimal texts, a value's text. What the reference's printed functions compute: a number guessed, a text unquoted. -/
import Derived.Test.YthgppbpmcjkadaaGreatDoorPx0
import Derived.Test.YthgppbpmcjkadaaGreatDoorPlA
import Derived.Test.YthgppbpmcjkadaaGreatDoorX6
import Derived.Test.YthgppbpmcjkadaaGreatDoorPx3 -- F cleanseref02_Text
namespace Go.Proofs.YthgppbpmcjkadaaGreatDoor.Px
open Go.RowKit Go.Proofs.YthgppbpmcjkadaaGreatDoorW.PrintWords Go.Proofs.YthgppbpmcjkadaaGreatDoorW.PrintLast Go.Proofs.YthgppbpmcjkadaaGreatDoorW.PrintMore
attribute [local go_sem] max2_int min2_int max_two min_two max_three min_three max_four min_four   -- for this text's walks alone
set_option linter.unusedVariables false
set_option linter.unusedSimpArgs false

/-! ### cleanseref02_Number: function 33 -/
mutual
def cleanseref02_Number.l0 : Nat → ByteArray → Int → Int → Option (Int)
  | 0, _, _, _ => none
  | k + 1, x0, x3, x4 => if x4 < (x0.size : Int) then (cleanseref02_Number.j1 k x0 x3 x4 (decide (x4 < 20))) else (cleanseref02_Number.j1 k x0 x3 x4 false)
def cleanseref02_Number.j1 : Nat → ByteArray → Int → Int → Bool → Option (Int)
  | 0, _, _, _, _ => none
  | k + 1, x0, x3, x4, x12 => if x12 = true then (if 0 ≤ x4 then (if x4 < (x0.size : Int) then (if (bt x0 x4) ≥ 48 then (if (bt x0 x4) ≤ 57 then (cleanseref02_Number.l0 k x0 (IntKind.u64.wrap ((IntKind.u64.wrap (x3 * 10)) + (((bt x0 x4) - 48) % 256))) (wrap64 (x4 + 1))) else (cleanseref02_Number.l0 k x0 x3 (wrap64 (x4 + 1)))) else (cleanseref02_Number.l0 k x0 x3 (wrap64 (x4 + 1)))) else (none)) else (none)) else (if x0.toList = ([] : List UInt8) then (some (wrap64 (x3))) else (if 0 < (x0.size : Int) then (if (bt x0 0) = 45 then (some (wrap64 (IntKind.u64.wrap (-x3)))) else (some (wrap64 (x3)))) else (none)))
end
def cleanseref02_Number.f (k : Nat) (a0 : ByteArray) : Option (Int) := cleanseref02_Number.l0 k a0 0 0
theorem cleanseref02_Number.mono_l : ∀ k, (∀ y0 y1 y2, LeO (cleanseref02_Number.l0 k y0 y1 y2) (cleanseref02_Number.l0 (k + 1) y0 y1 y2)) ∧ (∀ y0 y1 y2 y3, LeO (cleanseref02_Number.j1 k y0 y1 y2 y3) (cleanseref02_Number.j1 (k + 1) y0 y1 y2 y3))
  | 0 => ⟨fun _ _ _ r h => by simp [cleanseref02_Number.l0] at h, fun _ _ _ _ r h => by simp [cleanseref02_Number.j1] at h⟩
  | k + 1 => by
    obtain ⟨ih0, ih1⟩ := cleanseref02_Number.mono_l k
    refine ⟨?_, ?_⟩
    · intro y0 y1 y2
      unfold cleanseref02_Number.l0
      repeat' first
      | (with_reducible exact ih0 _ _ _)
      | (with_reducible exact ih1 _ _ _ _)
      | (with_reducible exact LeO.refl _)
      | (with_reducible exact LeO.none _)
      | (with_reducible refine LeO.ite ?_ ?_)
      | (with_reducible refine LeO.bind ?_ (fun _ => ?_))
      | exact ih0 _ _ _
      | exact ih1 _ _ _ _
      | exact LeO.none _
      | refine LeO.ite ?_ ?_
      | refine LeO.bind ?_ (fun _ => ?_)
    · intro y0 y1 y2 y3
      unfold cleanseref02_Number.j1
      repeat' first
      | (with_reducible exact ih0 _ _ _)
      | (with_reducible exact ih1 _ _ _ _)
      | (with_reducible exact LeO.refl _)
      | (with_reducible exact LeO.none _)
      | (with_reducible refine LeO.ite ?_ ?_)
      | (with_reducible refine LeO.bind ?_ (fun _ => ?_))
      | exact ih0 _ _ _
      | exact ih1 _ _ _ _
      | exact LeO.none _
      | refine LeO.ite ?_ ?_
      | refine LeO.bind ?_ (fun _ => ?_)
theorem cleanseref02_Number.mono : ∀ a0 k, LeO (cleanseref02_Number.f k a0) (cleanseref02_Number.f (k + 1) a0) := by
  intro a0 k
  obtain ⟨ih0, ih1⟩ := cleanseref02_Number.mono_l k
  unfold cleanseref02_Number.f
  repeat' first
      | (with_reducible exact ih0 _ _ _)
      | (with_reducible exact ih1 _ _ _ _)
      | (with_reducible exact LeO.refl _)
      | (with_reducible exact LeO.none _)
      | (with_reducible refine LeO.ite ?_ ?_)
      | (with_reducible refine LeO.bind ?_ (fun _ => ?_))
      | exact ih0 _ _ _
      | exact ih1 _ _ _ _
      | exact LeO.none _
      | refine LeO.ite ?_ ?_
      | refine LeO.bind ?_ (fun _ => ?_)
set_option maxHeartbeats 8000000 in
set_option maxRecDepth 100000 in
theorem cleanseref02_Number.calls (k : Nat) (a0 : ByteArray) (r : Int) (w : World) (h : cleanseref02_Number.f k a0 = some r) :
    Calls Tryz.prog 33 #[.string a0] w fun e w' => e = .returned (.int .i64 r) ∧ Drawn0 w w' := by
  have H : (cleanseref02_Number.l0 k a0 0 0) = some r := h
  clear h
  have H' := Aside0.mk H
  clear H
  go_enter Tryz.func33, Tryz.ntmps33
  go_wp2
  (try simp only [Act.put, List.setIfInBounds_toArray, List.set_cons_zero, List.set_cons_succ])
  go_loopg [3, 4] k (fun kq v3 v4 w' => ∃ (x3_1 : Int) (x4_1 : Int), v3 = .int .u64 x3_1 ∧ v4 = .int .i64 x4_1 ∧ Aside0 (cleanseref02_Number.l0 kq a0 x3_1 x4_1 = some r) ∧ Aside0 (kq ≤ k) ∧ Drawn0 w w')
  case atStart => exact ⟨(0), (0), (by first | rfl | (simp; done) | (simp [*]; done) | (simp [*]; generalize ByteArray.toList _ = l_; cases l_ <;> rfl)), (by first | rfl | (simp; done) | (simp [*]; done) | (simp [*]; generalize ByteArray.toList _ = l_; cases l_ <;> rfl)), H', ⟨Nat.le_refl _⟩, by repeat (first | exact Drawn0.refl _ | apply Drawn0.step)⟩
  case round =>
    clear H'
    obtain ⟨x3_1, x4_1, rfl, rfl, HA, HK1, ⟨m1, rfl⟩⟩ := hrel
    cases gk with
    | zero => exact absurd HA.out (by simp [cleanseref02_Number.l0])
    | succ k1 =>
      have H := HA.out
      clear HA
      simp only [cleanseref02_Number.l0] at H
      have HC2 := Aside0.mk H
      clear H
      go_upto_region 3 with (fail)
      go_cut [12] (fun v12 wc => ∃ (kq : Nat) (x12_1 : Bool), v12 = .bool x12_1 ∧ Aside0 (cleanseref02_Number.j1 kq a0 x3_1 x4_1 x12_1 = some r) ∧ Aside0 (kq ≤ k1) ∧ Drawn0 w wc)
      case first =>
        have H := HC2.out
        clear HC2
        by_cases c3 : x4_1 < (a0.size : Int)
        · rw [if_pos c3] at H
          have c3b0 : decide (x4_1 < (a0.size : Int)) = true := decide_eq_true c3
          clear c3
          (first | rw [c3b0] | (simp only [i64_w, i32_w]; rw [c3b0]) | skip)
          have H' := Aside0.mk H
          clear H
          go_wp2
          go_meet
          case rel => exact ⟨_, (decide (x4_1 < 20)), (by first | rfl | (simp; done) | (simp [*]; done) | (simp [*]; generalize ByteArray.toList _ = l_; cases l_ <;> rfl)), H', ⟨by have := HK1.out; first | omega | exact Nat.le_refl _⟩, by repeat (first | exact Drawn0.refl _ | apply Drawn0.step)⟩
        · rw [if_neg c3] at H
          have c3b0 : decide (x4_1 < (a0.size : Int)) = false := decide_eq_false c3
          clear c3
          (first | rw [c3b0] | (simp only [i64_w, i32_w]; rw [c3b0]) | skip)
          have H' := Aside0.mk H
          clear H
          go_wp2
          go_meet
          case rel => exact ⟨_, (false), (by first | rfl | (simp; done) | (simp [*]; done) | (simp [*]; generalize ByteArray.toList _ = l_; cases l_ <;> rfl)), H', ⟨by have := HK1.out; first | omega | exact Nat.le_refl _⟩, by repeat (first | exact Drawn0.refl _ | apply Drawn0.step)⟩
      case rest =>
        clear HC2
        try clear p2
        try clear c3
        try clear c3b0
        obtain ⟨kq, x12_1, rfl, HA, HJ1, ⟨mc1, rfl⟩⟩ := hcut
        cases kq with
        | zero => exact absurd HA.out (by simp [cleanseref02_Number.j1])
        | succ kj1 =>
          have H := HA.out
          clear HA
          simp only [cleanseref02_Number.j1] at H
          by_cases c4 : x12_1 = true
          · subst c4
            have H1 : (if 0 ≤ x4_1 then (if x4_1 < (a0.size : Int) then (if (bt a0 x4_1) ≥ 48 then (if (bt a0 x4_1) ≤ 57 then (cleanseref02_Number.l0 kj1 a0 (IntKind.u64.wrap ((IntKind.u64.wrap (x3_1 * 10)) + (((bt a0 x4_1) - 48) % 256))) (wrap64 (x4_1 + 1))) else (cleanseref02_Number.l0 kj1 a0 x3_1 (wrap64 (x4_1 + 1)))) else (cleanseref02_Number.l0 kj1 a0 x3_1 (wrap64 (x4_1 + 1)))) else (none)) else (none)) = some r := by rw [if_pos rfl] at H; exact H
            clear H
            have H := H1
            clear H1
            by_cases c5 : 0 ≤ x4_1
            · rw [if_pos c5] at H
              have c5b0 : decide (0 ≤ x4_1) = true := decide_eq_true c5
              clear c5
              by_cases c6 : x4_1 < (a0.size : Int)
              · rw [if_pos c6] at H
                have c6b0 : decide (x4_1 < (a0.size : Int)) = true := decide_eq_true c6
                clear c6
                by_cases c8 : (bt a0 x4_1) ≥ 48
                · rw [if_pos c8] at H
                  have c8b0 : decide (48 ≤ (bt a0 x4_1)) = true := decide_eq_true c8
                  clear c8
                  by_cases c10 : (bt a0 x4_1) ≤ 57
                  · rw [if_pos c10] at H
                    have c10b0 : decide ((bt a0 x4_1) ≤ 57) = true := decide_eq_true c10
                    clear c10
                    have H' := Aside0.mk H
                    clear H
                    have p7 : 0 ≤ (x4_1 : Int) := of_decide_eq_true (by first | (with_reducible assumption) | assumption)
                    have q7 : x4_1 < (a0.size : Int) := of_decide_eq_true (by first | (with_reducible assumption) | assumption)
                    have hx7 := bt_at a0 x4_1
                    replace p7 := eq_true p7
                    replace q7 := eq_true q7
                    have p9 : 0 ≤ (x4_1 : Int) := of_decide_eq_true (by first | (with_reducible assumption) | assumption)
                    have q9 : x4_1 < (a0.size : Int) := of_decide_eq_true (by first | (with_reducible assumption) | assumption)
                    have hx9 := bt_at a0 x4_1
                    replace p9 := eq_true p9
                    replace q9 := eq_true q9
                    have p11 : 0 ≤ (x4_1 : Int) := of_decide_eq_true (by first | (with_reducible assumption) | assumption)
                    have q11 : x4_1 < (a0.size : Int) := of_decide_eq_true (by first | (with_reducible assumption) | assumption)
                    have hx11 := bt_at a0 x4_1
                    replace p11 := eq_true p11
                    replace q11 := eq_true q11
                    go_wp2
                    go_roundg kj1
                    case measure => have := HK1.out; have := HJ1.out; omega
                    case rel => exact ⟨(IntKind.u64.wrap ((IntKind.u64.wrap (x3_1 * 10)) + (((bt a0 x4_1) - 48) % 256))), (wrap64 (x4_1 + 1)), (by first | rfl | (simp; done) | (simp [*]; done) | (simp [*]; generalize ByteArray.toList _ = l_; cases l_ <;> rfl)), (by first | rfl | (simp; done) | (simp [*]; done) | (simp [*]; generalize ByteArray.toList _ = l_; cases l_ <;> rfl)), H', ⟨by have := HK1.out; have := HJ1.out; omega⟩, by repeat (first | exact Drawn0.refl _ | apply Drawn0.step)⟩
                  · rw [if_neg c10] at H
                    have c10b0 : decide ((bt a0 x4_1) ≤ 57) = false := decide_eq_false c10
                    clear c10
                    have H' := Aside0.mk H
                    clear H
                    have p7 : 0 ≤ (x4_1 : Int) := of_decide_eq_true (by first | (with_reducible assumption) | assumption)
                    have q7 : x4_1 < (a0.size : Int) := of_decide_eq_true (by first | (with_reducible assumption) | assumption)
                    have hx7 := bt_at a0 x4_1
                    replace p7 := eq_true p7
                    replace q7 := eq_true q7
                    have p9 : 0 ≤ (x4_1 : Int) := of_decide_eq_true (by first | (with_reducible assumption) | assumption)
                    have q9 : x4_1 < (a0.size : Int) := of_decide_eq_true (by first | (with_reducible assumption) | assumption)
                    have hx9 := bt_at a0 x4_1
                    replace p9 := eq_true p9
                    replace q9 := eq_true q9
                    go_wp2
                    go_roundg kj1
                    case measure => have := HK1.out; have := HJ1.out; omega
                    case rel => exact ⟨(x3_1), (wrap64 (x4_1 + 1)), (by first | rfl | (simp; done) | (simp [*]; done) | (simp [*]; generalize ByteArray.toList _ = l_; cases l_ <;> rfl)), (by first | rfl | (simp; done) | (simp [*]; done) | (simp [*]; generalize ByteArray.toList _ = l_; cases l_ <;> rfl)), H', ⟨by have := HK1.out; have := HJ1.out; omega⟩, by repeat (first | exact Drawn0.refl _ | apply Drawn0.step)⟩
                · rw [if_neg c8] at H
                  have c8b0 : decide (48 ≤ (bt a0 x4_1)) = false := decide_eq_false c8
                  clear c8
                  have H' := Aside0.mk H
                  clear H
                  have p7 : 0 ≤ (x4_1 : Int) := of_decide_eq_true (by first | (with_reducible assumption) | assumption)
                  have q7 : x4_1 < (a0.size : Int) := of_decide_eq_true (by first | (with_reducible assumption) | assumption)
                  have hx7 := bt_at a0 x4_1
                  replace p7 := eq_true p7
                  replace q7 := eq_true q7
                  go_wp2
                  go_roundg kj1
                  case measure => have := HK1.out; have := HJ1.out; omega
                  case rel => exact ⟨(x3_1), (wrap64 (x4_1 + 1)), (by first | rfl | (simp; done) | (simp [*]; done) | (simp [*]; generalize ByteArray.toList _ = l_; cases l_ <;> rfl)), (by first | rfl | (simp; done) | (simp [*]; done) | (simp [*]; generalize ByteArray.toList _ = l_; cases l_ <;> rfl)), H', ⟨by have := HK1.out; have := HJ1.out; omega⟩, by repeat (first | exact Drawn0.refl _ | apply Drawn0.step)⟩
              · rw [if_neg c6] at H
                exact absurd H (by simp)
            · rw [if_neg c5] at H
              exact absurd H (by simp)
          · replace c4 := Bool.eq_false_iff.mpr c4
            subst c4
            have H1 : (if a0.toList = ([] : List UInt8) then (some (wrap64 (x3_1))) else (if 0 < (a0.size : Int) then (if (bt a0 0) = 45 then (some (wrap64 (IntKind.u64.wrap (-x3_1)))) else (some (wrap64 (x3_1)))) else (none))) = some r := by rw [if_neg (show ¬ (false = true) by decide)] at H; exact H
            clear H
            have H := H1
            clear H1
            by_cases c12 : a0.toList = ([] : List UInt8)
            · rw [if_pos c12] at H
              have c12b0 : (a0.toList == ([] : List UInt8)) = true := beq_iff_eq.mpr c12
              have c12b1 : (a0.toList != ([] : List UInt8)) = false := bne_eq_false_iff_eq.mpr c12
              clear c12
              obtain rfl := Option.some.inj H
              go_wp2
              go_ret
              exact ⟨by first | rfl | (simp; done) | (simp [*]; done), by repeat (first | exact Drawn0.refl _ | apply Drawn0.step)⟩
            · rw [if_neg c12] at H
              have c12b0 : (a0.toList == ([] : List UInt8)) = false := beq_eq_false_iff_ne.mpr c12
              have c12b1 : (a0.toList != ([] : List UInt8)) = true := bne_iff_ne.mpr c12
              by_cases c13 : 0 < (a0.size : Int)
              · rw [if_pos c13] at H
                have c13b0 : decide (0 < (a0.size : Int)) = true := decide_eq_true c13
                have c13b1 : decide (0 < a0.size) = true := decide_eq_true (by omega)
                clear c13
                by_cases c15 : (bt a0 0) = 45
                · rw [if_pos c15] at H
                  have c15b0 : ((bt a0 0) == 45) = true := beq_iff_eq.mpr c15
                  have c15b1 : ((bt a0 0) != 45) = false := bne_eq_false_iff_eq.mpr c15
                  clear c15
                  obtain rfl := Option.some.inj H
                  have p14 : 0 ≤ (0 : Int) := (by omega)
                  have q14 : 0 < a0.size := (by have : (0 : Int) < (a0.size : Int) := of_decide_eq_true (by first | (with_reducible assumption) | assumption); omega)
                  have hx14 : ∀ h : 0 < a0.size, ((a0[0]'h).toNat : Int) = bt a0 0 := bt_at a0 0
                  clear p14
                  have qi14 : (0 < (a0.size : Int)) = True := eq_true (of_decide_eq_true (by first | (with_reducible assumption) | assumption))
                  replace q14 := eq_true q14
                  go_wp2
                  go_ret
                  exact ⟨by first | rfl | (simp; done) | (simp [*]; done), by repeat (first | exact Drawn0.refl _ | apply Drawn0.step)⟩
                · rw [if_neg c15] at H
                  have c15b0 : ((bt a0 0) == 45) = false := beq_eq_false_iff_ne.mpr c15
                  have c15b1 : ((bt a0 0) != 45) = true := bne_iff_ne.mpr c15
                  obtain rfl := Option.some.inj H
                  have p14 : 0 ≤ (0 : Int) := (by omega)
                  have q14 : 0 < a0.size := (by have : (0 : Int) < (a0.size : Int) := of_decide_eq_true (by first | (with_reducible assumption) | assumption); omega)
                  have hx14 : ∀ h : 0 < a0.size, ((a0[0]'h).toNat : Int) = bt a0 0 := bt_at a0 0
                  clear p14
                  have qi14 : (0 < (a0.size : Int)) = True := eq_true (of_decide_eq_true (by first | (with_reducible assumption) | assumption))
                  replace q14 := eq_true q14
                  go_wp2
                  go_ret
                  exact ⟨by first | rfl | (simp; done) | (simp [*]; done), by repeat (first | exact Drawn0.refl _ | apply Drawn0.step)⟩
              · rw [if_neg c13] at H
                exact absurd H (by simp)

end Go.Proofs.YthgppbpmcjkadaaGreatDoor.Px
namespace Go.Proofs.YthgppbpmcjkadaaGreatDoor.Px
open Go.RowKit Go.Proofs.YthgppbpmcjkadaaGreatDoorW.PrintWords Go.Proofs.YthgppbpmcjkadaaGreatDoorW.PrintLast Go.Proofs.YthgppbpmcjkadaaGreatDoorW.PrintMore
attribute [local go_sem] max2_int min2_int max_two min_two max_three min_three max_four min_four   -- for this text's walks alone
set_option linter.unusedVariables false
set_option linter.unusedSimpArgs false

/-! ### cleanseref02_unquoted: function 34 -/
def cleanseref02_unquoted.l0 : Nat → ByteArray → ByteArray → Int → Option (ByteArray)
  | 0, _, _, _ => none
  | k + 1, x0, x3, x4 => if (wrap64 (x4 + 1)) < (x0.size : Int) then (if 0 ≤ x4 then (if x4 ≤ (wrap64 (x4 + 1)) then (if (wrap64 (x4 + 1)) ≤ (x0.size : Int) then (if (x0.extract (x4 : Int).toNat ((wrap64 (x4 + 1)) : Int).toNat).toList = ([92] : List UInt8) then (if 0 ≤ (wrap64 (x4 + 1)) then (if (wrap64 (x4 + 1)) ≤ (wrap64 ((wrap64 (x4 + 1)) + 1)) then (if (wrap64 ((wrap64 (x4 + 1)) + 1)) ≤ (x0.size : Int) then (if (x0.extract ((wrap64 (x4 + 1)) : Int).toNat ((wrap64 ((wrap64 (x4 + 1)) + 1)) : Int).toNat).toList = ([110] : List UInt8) then (if x3.size + 1 ≤ 9223372036854775807 then (cleanseref02_unquoted.l0 k x0 (x3 ++ (⟨#[10]⟩ : ByteArray)) (wrap64 ((wrap64 (x4 + 1)) + 1))) else (none)) else (if x3.size + (x0.extract ((wrap64 (x4 + 1)) : Int).toNat ((wrap64 ((wrap64 (x4 + 1)) + 1)) : Int).toNat).size ≤ 9223372036854775807 then (cleanseref02_unquoted.l0 k x0 (x3 ++ (x0.extract ((wrap64 (x4 + 1)) : Int).toNat ((wrap64 ((wrap64 (x4 + 1)) + 1)) : Int).toNat)) (wrap64 ((wrap64 (x4 + 1)) + 1))) else (none))) else (none)) else (none)) else (none)) else (if x3.size + (x0.extract (x4 : Int).toNat ((wrap64 (x4 + 1)) : Int).toNat).size ≤ 9223372036854775807 then (cleanseref02_unquoted.l0 k x0 (x3 ++ (x0.extract (x4 : Int).toNat ((wrap64 (x4 + 1)) : Int).toNat)) (wrap64 (x4 + 1))) else (none))) else (none)) else (none)) else (none)) else (some x3)
def cleanseref02_unquoted.f (k : Nat) (a0 : ByteArray) : Option (ByteArray) := cleanseref02_unquoted.l0 k a0 (⟨#[]⟩ : ByteArray) 1
theorem cleanseref02_unquoted.mono_l : ∀ k, (∀ y0 y1 y2, LeO (cleanseref02_unquoted.l0 k y0 y1 y2) (cleanseref02_unquoted.l0 (k + 1) y0 y1 y2))
  | 0 => fun _ _ _ r h => by simp [cleanseref02_unquoted.l0] at h
  | k + 1 => by
    have ih0 := cleanseref02_unquoted.mono_l k
    · intro y0 y1 y2
      unfold cleanseref02_unquoted.l0
      repeat' first
      | (with_reducible exact ih0 _ _ _)
      | (with_reducible exact LeO.refl _)
      | (with_reducible exact LeO.none _)
      | (with_reducible refine LeO.ite ?_ ?_)
      | (with_reducible refine LeO.bind ?_ (fun _ => ?_))
      | exact ih0 _ _ _
      | exact LeO.none _
      | refine LeO.ite ?_ ?_
      | refine LeO.bind ?_ (fun _ => ?_)
theorem cleanseref02_unquoted.mono : ∀ a0 k, LeO (cleanseref02_unquoted.f k a0) (cleanseref02_unquoted.f (k + 1) a0) := by
  intro a0 k
  have ih0 := cleanseref02_unquoted.mono_l k
  unfold cleanseref02_unquoted.f
  repeat' first
      | (with_reducible exact ih0 _ _ _)
      | (with_reducible exact LeO.refl _)
      | (with_reducible exact LeO.none _)
      | (with_reducible refine LeO.ite ?_ ?_)
      | (with_reducible refine LeO.bind ?_ (fun _ => ?_))
      | exact ih0 _ _ _
      | exact LeO.none _
      | refine LeO.ite ?_ ?_
      | refine LeO.bind ?_ (fun _ => ?_)
set_option maxHeartbeats 8000000 in
set_option maxRecDepth 100000 in
theorem cleanseref02_unquoted.calls (k : Nat) (a0 : ByteArray) (r : ByteArray) (w : World) (h : cleanseref02_unquoted.f k a0 = some r) :
    Calls Tryz.prog 34 #[.string a0] w fun e w' => e = .returned (.string r) ∧ Drawn0 w w' := by
  have H : (cleanseref02_unquoted.l0 k a0 (⟨#[]⟩ : ByteArray) 1) = some r := h
  clear h
  have H' := Aside0.mk H
  clear H
  go_enter Tryz.func34, Tryz.ntmps34
  go_wp2
  (try simp only [Act.put, List.setIfInBounds_toArray, List.set_cons_zero, List.set_cons_succ])
  go_loopg [3, 4] k (fun kq v3 v4 w' => ∃ (x3_1 : ByteArray) (x4_1 : Int), v3 = .string x3_1 ∧ v4 = .int .i64 x4_1 ∧ Aside0 (cleanseref02_unquoted.l0 kq a0 x3_1 x4_1 = some r) ∧ Aside0 (kq ≤ k) ∧ Drawn0 w w')
  case atStart => exact ⟨((⟨#[]⟩ : ByteArray)), (1), (by first | rfl | (simp; done) | (simp [*]; done) | (simp [*]; generalize ByteArray.toList _ = l_; cases l_ <;> rfl)), (by first | rfl | (simp; done) | (simp [*]; done) | (simp [*]; generalize ByteArray.toList _ = l_; cases l_ <;> rfl)), H', ⟨Nat.le_refl _⟩, by repeat (first | exact Drawn0.refl _ | apply Drawn0.step)⟩
  case round =>
    clear H'
    obtain ⟨x3_1, x4_1, rfl, rfl, HA, HK1, ⟨m1, rfl⟩⟩ := hrel
    cases gk with
    | zero => exact absurd HA.out (by simp [cleanseref02_unquoted.l0])
    | succ k1 =>
      have H := HA.out
      clear HA
      simp only [cleanseref02_unquoted.l0] at H
      by_cases c2 : (wrap64 (x4_1 + 1)) < (a0.size : Int)
      · rw [if_pos c2] at H
        have c2b0 : decide ((wrap64 (x4_1 + 1)) < (a0.size : Int)) = true := decide_eq_true c2
        clear c2
        by_cases c3 : 0 ≤ x4_1
        · rw [if_pos c3] at H
          have c3b0 := eq_true c3
          have c3b1 : decide (0 ≤ x4_1) = true := decide_eq_true c3
          clear c3
          by_cases c4 : x4_1 ≤ (wrap64 (x4_1 + 1))
          · rw [if_pos c4] at H
            have c4b0 := eq_true c4
            have c4b1 : decide (x4_1 ≤ (wrap64 (x4_1 + 1))) = true := decide_eq_true c4
            by_cases c5 : (wrap64 (x4_1 + 1)) ≤ (a0.size : Int)
            · rw [if_pos c5] at H
              have c5b0 := eq_true c5
              have c5b1 : decide ((wrap64 (x4_1 + 1)) ≤ (a0.size : Int)) = true := decide_eq_true c5
              by_cases c6 : (a0.extract (x4_1 : Int).toNat ((wrap64 (x4_1 + 1)) : Int).toNat).toList = ([92] : List UInt8)
              · rw [if_pos c6] at H
                have c6b0 : ((a0.extract (x4_1 : Int).toNat ((wrap64 (x4_1 + 1)) : Int).toNat).toList == ([92] : List UInt8)) = true := beq_iff_eq.mpr c6
                have c6b1 : ((a0.extract (x4_1 : Int).toNat ((wrap64 (x4_1 + 1)) : Int).toNat).toList != ([92] : List UInt8)) = false := bne_eq_false_iff_eq.mpr c6
                clear c6
                obtain ⟨ji7, hji7⟩ : ∃ j_ : Int, (wrap64 (x4_1 + 1)) = j_ := ⟨_, rfl⟩
                replace H : (if 0 ≤ (ji7) then (if (ji7) ≤ (wrap64 ((ji7) + 1)) then (if (wrap64 ((ji7) + 1)) ≤ (a0.size : Int) then (if (a0.extract ((ji7) : Int).toNat ((wrap64 ((ji7) + 1)) : Int).toNat).toList = ([110] : List UInt8) then (if x3_1.size + 1 ≤ 9223372036854775807 then (cleanseref02_unquoted.l0 k1 a0 (x3_1 ++ (⟨#[10]⟩ : ByteArray)) (wrap64 ((ji7) + 1))) else (none)) else (if x3_1.size + (a0.extract ((ji7) : Int).toNat ((wrap64 ((ji7) + 1)) : Int).toNat).size ≤ 9223372036854775807 then (cleanseref02_unquoted.l0 k1 a0 (x3_1 ++ (a0.extract ((ji7) : Int).toNat ((wrap64 ((ji7) + 1)) : Int).toNat)) (wrap64 ((ji7) + 1))) else (none))) else (none)) else (none)) else (none)) = some r := by first | (rw [hji7] at H; exact H) | (simp only [hji7] at H ⊢; exact H)
                (try rw [hji7] at c2b0)
                (try rw [hji7] at c4b0)
                (try rw [hji7] at c4b1)
                (try rw [hji7] at c4)
                (try rw [hji7] at c5b0)
                (try rw [hji7] at c5b1)
                (try rw [hji7] at c5)
                (try rw [hji7] at c6b0)
                (try rw [hji7] at c6b1)
                have hji7w : (IntKind.i64.wrap (x4_1 + 1)) = ji7 := (i64_w _).trans hji7
                by_cases c8 : 0 ≤ (ji7)
                · rw [if_pos c8] at H
                  have c8b0 := eq_true c8
                  have c8b1 : decide (0 ≤ (ji7)) = true := decide_eq_true c8
                  clear c8
                  by_cases c9 : (ji7) ≤ (wrap64 ((ji7) + 1))
                  · rw [if_pos c9] at H
                    have c9b0 := eq_true c9
                    have c9b1 : decide ((ji7) ≤ (wrap64 ((ji7) + 1))) = true := decide_eq_true c9
                    by_cases c10 : (wrap64 ((ji7) + 1)) ≤ (a0.size : Int)
                    · rw [if_pos c10] at H
                      have c10b0 := eq_true c10
                      have c10b1 : decide ((wrap64 ((ji7) + 1)) ≤ (a0.size : Int)) = true := decide_eq_true c10
                      by_cases c11 : (a0.extract ((ji7) : Int).toNat ((wrap64 ((ji7) + 1)) : Int).toNat).toList = ([110] : List UInt8)
                      · rw [if_pos c11] at H
                        have c11b0 : ((a0.extract ((ji7) : Int).toNat ((wrap64 ((ji7) + 1)) : Int).toNat).toList == ([110] : List UInt8)) = true := beq_iff_eq.mpr c11
                        have c11b1 : ((a0.extract ((ji7) : Int).toNat ((wrap64 ((ji7) + 1)) : Int).toNat).toList != ([110] : List UInt8)) = false := bne_eq_false_iff_eq.mpr c11
                        clear c11
                        by_cases c12 : x3_1.size + 1 ≤ 9223372036854775807
                        · rw [if_pos c12] at H
                          have c12b0 := eq_true c12
                          have c12b1 : decide (x3_1.size + 1 ≤ 9223372036854775807) = true := decide_eq_true c12
                          try have c12b2 : (9223372036854775807 < x3_1.size + 1) = False := eq_false (Nat.not_lt.2 c12)
                          have H' := Aside0.mk H
                          clear H
                          go_wp2
                          go_roundg k1
                          case measure => have := HK1.out; omega
                          case rel => exact ⟨(x3_1 ++ (⟨#[10]⟩ : ByteArray)), (wrap64 ((ji7) + 1)), (by first | rfl | (simp; done) | (simp [*]; done) | (simp [*]; generalize ByteArray.toList _ = l_; cases l_ <;> rfl)), (by first | rfl | (simp; done) | (simp only [← hji7] <;> (first | rfl | simp)) | (simp [*]; done)), H', ⟨by have := HK1.out; omega⟩, by repeat (first | exact Drawn0.refl _ | apply Drawn0.step)⟩
                        · rw [if_neg c12] at H
                          exact absurd H (by simp)
                      · rw [if_neg c11] at H
                        have c11b0 : ((a0.extract ((ji7) : Int).toNat ((wrap64 ((ji7) + 1)) : Int).toNat).toList == ([110] : List UInt8)) = false := beq_eq_false_iff_ne.mpr c11
                        have c11b1 : ((a0.extract ((ji7) : Int).toNat ((wrap64 ((ji7) + 1)) : Int).toNat).toList != ([110] : List UInt8)) = true := bne_iff_ne.mpr c11
                        by_cases c13 : x3_1.size + (a0.extract ((ji7) : Int).toNat ((wrap64 ((ji7) + 1)) : Int).toNat).size ≤ 9223372036854775807
                        · rw [if_pos c13] at H
                          have c13b0 := eq_true c13
                          have c13b1 : decide (x3_1.size + (a0.extract ((ji7) : Int).toNat ((wrap64 ((ji7) + 1)) : Int).toNat).size ≤ 9223372036854775807) = true := decide_eq_true c13
                          try have c13b2 : (9223372036854775807 < x3_1.size + (a0.extract ((ji7) : Int).toNat ((wrap64 ((ji7) + 1)) : Int).toNat).size) = False := eq_false (Nat.not_lt.2 c13)
                          have H' := Aside0.mk H
                          clear H
                          go_wp2
                          go_roundg k1
                          case measure => have := HK1.out; omega
                          case rel => exact ⟨(x3_1 ++ (a0.extract ((ji7) : Int).toNat ((wrap64 ((ji7) + 1)) : Int).toNat)), (wrap64 ((ji7) + 1)), (by first | rfl | (simp; done) | (simp only [← hji7] <;> (first | rfl | simp)) | (simp [*]; done)), (by first | rfl | (simp; done) | (simp only [← hji7] <;> (first | rfl | simp)) | (simp [*]; done)), H', ⟨by have := HK1.out; omega⟩, by repeat (first | exact Drawn0.refl _ | apply Drawn0.step)⟩
                        · rw [if_neg c13] at H
                          exact absurd H (by simp)
                    · rw [if_neg c10] at H
                      exact absurd H (by simp)
                  · rw [if_neg c9] at H
                    exact absurd H (by simp)
                · rw [if_neg c8] at H
                  exact absurd H (by simp)
              · rw [if_neg c6] at H
                have c6b0 : ((a0.extract (x4_1 : Int).toNat ((wrap64 (x4_1 + 1)) : Int).toNat).toList == ([92] : List UInt8)) = false := beq_eq_false_iff_ne.mpr c6
                have c6b1 : ((a0.extract (x4_1 : Int).toNat ((wrap64 (x4_1 + 1)) : Int).toNat).toList != ([92] : List UInt8)) = true := bne_iff_ne.mpr c6
                by_cases c14 : x3_1.size + (a0.extract (x4_1 : Int).toNat ((wrap64 (x4_1 + 1)) : Int).toNat).size ≤ 9223372036854775807
                · rw [if_pos c14] at H
                  have c14b0 := eq_true c14
                  have c14b1 : decide (x3_1.size + (a0.extract (x4_1 : Int).toNat ((wrap64 (x4_1 + 1)) : Int).toNat).size ≤ 9223372036854775807) = true := decide_eq_true c14
                  try have c14b2 : (9223372036854775807 < x3_1.size + (a0.extract (x4_1 : Int).toNat ((wrap64 (x4_1 + 1)) : Int).toNat).size) = False := eq_false (Nat.not_lt.2 c14)
                  have H' := Aside0.mk H
                  clear H
                  go_wp2
                  go_roundg k1
                  case measure => have := HK1.out; omega
                  case rel => exact ⟨(x3_1 ++ (a0.extract (x4_1 : Int).toNat ((wrap64 (x4_1 + 1)) : Int).toNat)), (wrap64 (x4_1 + 1)), (by first | rfl | (simp; done) | (simp [*]; done) | (simp [*]; generalize ByteArray.toList _ = l_; cases l_ <;> rfl)), (by first | rfl | (simp; done) | (simp [*]; done) | (simp [*]; generalize ByteArray.toList _ = l_; cases l_ <;> rfl)), H', ⟨by have := HK1.out; omega⟩, by repeat (first | exact Drawn0.refl _ | apply Drawn0.step)⟩
                · rw [if_neg c14] at H
                  exact absurd H (by simp)
            · rw [if_neg c5] at H
              exact absurd H (by simp)
          · rw [if_neg c4] at H
            exact absurd H (by simp)
        · rw [if_neg c3] at H
          exact absurd H (by simp)
      · rw [if_neg c2] at H
        have c2b0 : decide ((wrap64 (x4_1 + 1)) < (a0.size : Int)) = false := decide_eq_false c2
        clear c2
        obtain rfl := Option.some.inj H
        go_wp2
        go_ret
        exact ⟨by first | rfl | (simp; done) | (simp [*]; done), by repeat (first | exact Drawn0.refl _ | apply Drawn0.step)⟩

end Go.Proofs.YthgppbpmcjkadaaGreatDoor.Px
set_option linter.unusedVariables false
set_option linter.unusedSimpArgs false
namespace Go.Proofs.YthgppbpmcjkadaaGreatDoor.X
open Go.RowKit
def stepN (n : Int) (c : UInt8) : Int := if 48 ≤ (c.toNat : Int) ∧ (c.toNat : Int) ≤ 57 then IntKind.u64.wrap ((IntKind.u64.wrap (n * 10)) + (((c.toNat : Int) - 48) % 256)) else n
def numF (l : List UInt8) : Int := (l.take 20).foldl stepN 0
def numL (l : List UInt8) : Int := if l.head? = some 45 then wrap64 (IntKind.u64.wrap (-(numF l))) else wrap64 (numF l)
def unqL : List UInt8 → List UInt8
  | c :: d :: r => if c = 92 then (if d = 110 then 10 :: unqL r else d :: unqL r) else c :: unqL (d :: r)
  | _ => []
theorem u64_id {x : Int} (h0 : 0 ≤ x) (h1 : x < 18446744073709551616) : IntKind.u64.wrap x = x := by
  rw [show IntKind.u64.wrap x = x % 18446744073709551616 from rfl]; omega
theorem fold_val : ∀ (l : List UInt8) (a : Nat), (∀ c ∈ l, 48 ≤ c.toNat ∧ c.toNat ≤ 57) → l.foldl (fun a c => a * 10 + (c.toNat - 48)) a < 18446744073709551616 → l.foldl stepN (a : Int) = ((l.foldl (fun a c => a * 10 + (c.toNat - 48)) a : Nat) : Int)
  | [], a, _, _ => rfl
  | c :: l, a, hd, hb => by
    have hc := hd c List.mem_cons_self
    rw [List.foldl_cons] at hb ⊢
    rw [List.foldl_cons]
    have hg := foldl_ge l (a * 10 + (c.toNat - 48))
    have e : stepN (a : Int) c = ((a * 10 + (c.toNat - 48) : Nat) : Int) := by
      unfold stepN
      rw [if_pos (by omega), u64_id (x := (a : Int) * 10) (by omega) (by omega), u64_id (by omega) (by omega)]
      omega
    rw [e]
    exact fold_val l _ (fun d h => hd d (List.mem_cons_of_mem _ h)) hb
theorem ndig_le : ∀ (k u : Nat), u < 10 ^ (k + 1) → Lib.nDigits u ≤ k + 1
  | 0, u, h => by rw [Lib.nDigits_small (by simpa using h)]; exact Nat.le_refl _
  | k + 1, u, h => by
    by_cases h10 : u < 10
    · rw [Lib.nDigits_small h10]; omega
    · rw [Lib.nDigits_big h10]
      have := ndig_le k (u / 10) (by rw [Nat.pow_succ] at h; omega)
      omega
theorem num_dec (u : Nat) (h : u < 10000000000) : (Lib.decDigits u).length ≤ 10 ∧ (Lib.decDigits u).foldl stepN 0 = (u : Int) := by
  refine ⟨by rw [Lib.decDigits_length]; exact ndig_le 9 u h, ?_⟩
  have hv := val_dec u
  unfold val at hv
  have := fold_val (Lib.decDigits u) 0 (dec_digits u) (by rw [hv]; omega)
  rw [hv] at this
  exact this
theorem num_itoa (n : Int) (h0 : -1000000000 ≤ n) (h1 : n ≤ 1000000000) : numL (Lib.itoa n) = n := by
  by_cases hn : n < 0
  · have e : Lib.itoa n = 45 :: Lib.decDigits n.natAbs := by unfold Lib.itoa; rw [if_pos hn]
    obtain ⟨hl, hf⟩ := num_dec n.natAbs (by omega)
    unfold numL
    rw [e, if_pos (show (45 :: Lib.decDigits n.natAbs).head? = some 45 from rfl)]
    have hf2 : numF (45 :: Lib.decDigits n.natAbs) = (n.natAbs : Int) := by
      unfold numF
      rw [List.take_of_length_le (by simp; omega), List.foldl_cons]
      have : stepN 0 45 = 0 := by unfold stepN; rw [if_neg (by decide)]
      rw [this]; exact hf
    rw [hf2, show IntKind.u64.wrap (-(n.natAbs : Int)) = (-(n.natAbs : Int)) % 18446744073709551616 from rfl]
    unfold wrap64
    omega
  · have e : Lib.itoa n = Lib.decDigits n.toNat := by unfold Lib.itoa; rw [if_neg hn]
    obtain ⟨hl, hf⟩ := num_dec n.toNat (by omega)
    obtain ⟨c, r, hc, hd⟩ := dec_cons n.toNat
    unfold numL
    rw [e, if_neg (by rw [hc]; intro h; simp at h; subst h; exact absurd hd (by decide))]
    have hf2 : numF (Lib.decDigits n.toNat) = (n.toNat : Int) := by
      unfold numF
      rw [List.take_of_length_le (by omega)]
      exact hf
    rw [hf2]
    unfold wrap64
    omega
theorem unq_quote : ∀ t : List UInt8, unqL (quoteB t ++ [34]) = t
  | [] => rfl
  | b :: t => by
    have ih := unq_quote t
    rw [quote_cons, List.append_assoc]
    rcases esc_form b with ⟨h, e⟩ | ⟨h, e⟩ | ⟨h, e⟩ | ⟨h1, h2, h3, e⟩
    · subst h; rw [e]; simp [unqL, ih]
    · subst h; rw [e]; simp [unqL, ih]
    · subst h; rw [e]; simp [unqL, ih]
    · rw [e]
      cases hq : quoteB t ++ [34] with
      | nil => simp at hq
      | cons d r =>
        rw [List.singleton_append, show unqL (b :: d :: r) = if b = 92 then (if d = 110 then 10 :: unqL r else d :: unqL r) else b :: unqL (d :: r) from rfl, if_neg h2, ← hq, ih]
def guessZ (l : List UInt8) : Int × Int × List UInt8 :=
  if l.head? = some 110 then (0, 0, []) else if l.head? = some 116 then (4, 1, []) else if l.head? = some 102 then (4, 0, []) else if l.head? = some 64 then (3, numL l.tail, [])
  else if l.head? = some 34 then (1, 0, if l.length ≤ 402 then unqL l.tail else []) else (2, numL l, [])
def refZ (l : List UInt8) : Option (Int × Int × List UInt8) := if l = [] then none else if textL (guessZ l).1 (guessZ l).2.1 (guessZ l).2.2 = l then some (guessZ l) else none
theorem guess_text {k n : Int} {t : List UInt8} (h : ValidP k n t) : guessZ (textL k n t) = (k, n, t) := by
  have hv : validZ k n t = true := valid_iff.2 h
  unfold textL
  rw [if_pos hv]
  rcases h with ⟨rfl, rfl, rfl⟩ | ⟨rfl, rfl, ht⟩ | ⟨rfl, a, b, rfl⟩ | ⟨rfl, a, b, rfl⟩ | ⟨rfl, a, b, rfl⟩
  · rfl
  · rw [if_pos rfl]
    unfold guessZ
    have h2 := quote_size t
    have h3 := more_le t
    rw [if_neg (by simp), if_neg (by simp), if_neg (by simp), if_neg (by simp), if_pos (show (34 :: (quoteB t ++ [34])).head? = some 34 from rfl), if_pos (by simp; omega), List.tail_cons, unq_quote]
  · rw [if_neg (by omega), if_pos rfl]
    obtain ⟨h1, h2, h3, h4, h5⟩ := head_itoa n
    unfold guessZ
    rw [if_neg h3, if_neg h4, if_neg h5, if_neg h1, if_neg h2, num_itoa n a b]
  · rw [if_neg (by omega), if_neg (by omega), if_pos rfl]
    unfold guessZ
    rw [if_neg (by simp), if_neg (by simp), if_neg (by simp), if_pos (show (64 :: Lib.itoa n).head? = some 64 from rfl), List.tail_cons, num_itoa n (by omega) (by omega)]
  · have : n = 0 ∨ n = 1 := by omega
    rcases this with rfl | rfl <;> rfl
theorem ref_eq (l : List UInt8) : refZ l = parseZ l := by
  unfold refZ
  by_cases h0 : l = []
  · subst h0; rfl
  rw [if_neg h0]
  cases hp : parseZ l with
  | none =>
    rw [if_neg]
    intro e
    by_cases hv : ValidP (guessZ l).1 (guessZ l).2.1 (guessZ l).2.2
    · have := parse_text hv
      rw [e, hp] at this
      cases this
    · rw [text_none hv] at e
      exact h0 e.symm
  | some v =>
    obtain ⟨k, n, t⟩ := v
    obtain ⟨hv, ht⟩ := text_parse hp
    have hg := guess_text hv
    rw [ht] at hg
    rw [hg, if_pos ht]
end Go.Proofs.YthgppbpmcjkadaaGreatDoor.X
set_option linter.unusedVariables false
set_option linter.unusedSimpArgs false
namespace Go.Proofs.YthgppbpmcjkadaaGreatDoor.X
open Go.RowKit Go.Proofs.YthgppbpmcjkadaaGreatDoorW.PrintWords Go.Proofs.YthgppbpmcjkadaaGreatDoorW.PrintMore
theorem ref_valid (a b : Int) (c : ByteArray) : Px.cleanseref02_Valid.f a b c = some (validZ a b c.data.toList) := by
  unfold Px.cleanseref02_Valid.f
  have e1 : ∀ (l : List UInt8), (l == []) = decide (l = []) := fun l => by cases l <;> rfl
  have hl := len_list c
  rw [ByteArray.toList_eq, ← hl]
  generalize c.data.toList = t at *
  simp only [validZ, ValidP, e1]
  by_cases h0 : a = 0
  · subst h0; simp; split <;> simp_all
  by_cases h1 : a = 1
  · subst h1; simp; split <;> simp_all; omega
  by_cases h2 : a = 2
  · subst h2
    simp
    by_cases hb0 : -1000000000 ≤ b
    · by_cases hb1 : b ≤ 1000000000
      · simp [hb0, hb1]
      · simp [hb0, hb1]
    · simp [hb0]
  by_cases h3 : a = 3
  · subst h3
    simp
    by_cases hb0 : 0 ≤ b
    · by_cases hb1 : b ≤ 73048
      · simp [hb0, hb1]
      · simp [hb0, hb1]
    · simp [hb0]
  by_cases h4 : a = 4
  · subst h4
    simp
    by_cases hb0 : b = 0
    · subst hb0; simp
    by_cases hb1 : b = 1
    · subst hb1; simp
    simp [hb0, hb1]
    intro h5 h6; omega
  simp [h0, h1, h2, h3, h4]
theorem quoted_loop (c : ByteArray) (hc : c.size ≤ 1000000) : ∀ (d i k : Nat) (acc : List UInt8), i + d = c.size → d < k → acc.length ≤ 2 * i → Px.cleanseref02_Quoted.l0 k c (bs acc) (i : Int) = some (bs (34 :: (acc ++ quoteB (c.data.toList.drop i) ++ [34]))) := by
  intro d
  induction d with
  | zero =>
    intro i k acc hi hk ha
    obtain ⟨k, rfl⟩ : ∃ m, k = m + 1 := ⟨k - 1, by omega⟩
    have hq : ((⟨#[34]⟩ : ByteArray) ++ bs acc) = bs (34 :: acc) := bs_app [34] acc
    have hq2 : (bs (34 :: acc) ++ (⟨#[34]⟩ : ByteArray)) = bs ((34 :: acc) ++ [34]) := bs_app _ [34]
    simp only [Px.cleanseref02_Quoted.l0]
    rw [if_neg (by omega), if_pos (by rw [bs_size]; omega), hq, if_pos (by rw [bs_size, List.length_cons]; omega), hq2, List.drop_eq_nil_of_le (by rw [len_list]; omega)]
    simp [quoteB]
  | succ d ih =>
    intro i k acc hi hk ha
    obtain ⟨k, rfl⟩ : ∃ m, k = m + 1 := ⟨k - 1, by omega⟩
    have hw : wrap64 ((i : Int) + 1) = ((i + 1 : Nat) : Int) := by unfold wrap64; omega
    have hdr : c.data.toList.drop i = c.data.toList[i]'(by rw [len_list]; omega) :: c.data.toList.drop (i + 1) := List.drop_eq_getElem_cons _
    simp only [Px.cleanseref02_Quoted.l0]
    rw [if_pos (by omega), if_pos (by omega), bt_list c i (by omega), hw]
    have hex := ext_one c i (by omega)
    rw [hdr, quote_cons]
    generalize c.data.toList[i]'(by rw [len_list]; omega) = x at *
    have go : ∀ r : List UInt8, r.length ≤ 2 → escB x = r → Px.cleanseref02_Quoted.l0 k c (bs acc ++ bs r) ((i + 1 : Nat) : Int) = some (bs (34 :: (acc ++ (escB x ++ quoteB (c.data.toList.drop (i + 1))) ++ [34]))) := fun r hr he => by
      rw [bs_app, ih (i + 1) k (acc ++ r) (by omega) (by omega) (by rw [List.length_append]; omega), he]
      simp
    rcases esc_form x with ⟨h, e⟩ | ⟨h, e⟩ | ⟨h, e⟩ | ⟨h1, h2, h3, e⟩
    · subst h
      rw [if_neg (by decide), if_neg (by decide), if_pos (by decide), if_pos (by rw [bs_size]; omega)]
      exact go _ (by decide) e
    · subst h
      rw [if_neg (by decide), if_pos (by decide), if_pos (by rw [bs_size]; omega)]
      exact go _ (by decide) e
    · subst h
      rw [if_pos (by decide), if_pos (by rw [bs_size]; omega)]
      exact go _ (by decide) e
    · rw [if_neg (fun h => h3 ((byte_eq 34 (n := 34) rfl).1 h)), if_neg (fun h => h2 ((byte_eq 92 (n := 92) rfl).1 h)), if_neg (fun h => h1 ((byte_eq 10 (n := 10) rfl).1 h)), if_pos (by omega), if_pos (by omega)]
      simp only [Int.toNat_natCast]
      rw [hex, if_pos (by rw [bs_size, bs_size, List.length_singleton]; omega)]
      exact go _ (by simp) e
theorem quoted_spec (c : ByteArray) (hc : c.size ≤ 1000000) (k : Nat) (hk : c.size < k) : Px.cleanseref02_Quoted.f k c = some (bs (34 :: (quoteB c.data.toList ++ [34]))) := by
  have := quoted_loop c hc c.size 0 k [] (by omega) hk (by simp)
  exact this
theorem dig_one : ∀ i : Fin 10, ((⟨#[48, 49, 50, 51, 52, 53, 54, 55, 56, 57]⟩ : ByteArray).extract i.val (i.val + 1)).data = #[UInt8.ofNat (48 + i.val)] := by decide +kernel
theorem dig_ext (i : Nat) (h : i < 10) : (⟨#[48, 49, 50, 51, 52, 53, 54, 55, 56, 57]⟩ : ByteArray).extract i (i + 1) = bs [UInt8.ofNat (48 + i)] := by
  apply ByteArray.ext
  exact dig_one ⟨i, h⟩
theorem digits_spec : ∀ (k n : Nat), n < 10 ^ (k + 1) → n < 18446744073709551616 → Px.cleanseref02_digits.f (k + 1) (n : Int) = some (bs (Lib.decDigits n)) ∧ (Lib.decDigits n).length ≤ k + 1 := by
  intro k
  induction k with
  | zero =>
    intro n h hn
    have h10 : n < 10 := by simpa using h
    have hw : IntKind.u64.wrap ((n : Int) + 1) = ((n + 1 : Nat) : Int) := u64_id (by omega) (by omega)
    simp only [Px.cleanseref02_digits.f]
    rw [if_pos (by omega), hw, if_pos (by omega), if_pos (by omega), if_pos (by omega)]
    simp only [Int.toNat_natCast]
    rw [dig_ext n h10, Lib.decDigits_one h10]
    exact ⟨rfl, Nat.le_refl _⟩
  | succ k ih =>
    intro n h hn
    by_cases h10 : n < 10
    · have hw : IntKind.u64.wrap ((n : Int) + 1) = ((n + 1 : Nat) : Int) := u64_id (by omega) (by omega)
      rw [Px.cleanseref02_digits.f]
      rw [if_pos (by omega), hw, if_pos (by omega), if_pos (by omega), if_pos (by omega)]
      simp only [Int.toNat_natCast]
      rw [dig_ext n h10, Lib.decDigits_one h10]
      exact ⟨rfl, by simp⟩
    · have hd : IntKind.u64.wrap (Int.tdiv (n : Int) 10) = ((n / 10 : Nat) : Int) := by
        rw [show Int.tdiv (n : Int) 10 = ((n / 10 : Nat) : Int) from rfl]
        exact u64_id (by omega) (by omega)
      have hm : Int.tmod (n : Int) 10 = ((n % 10 : Nat) : Int) := rfl
      have hw : IntKind.u64.wrap (((n % 10 : Nat) : Int) + 1) = ((n % 10 + 1 : Nat) : Int) := u64_id (by omega) (by omega)
      obtain ⟨i1, i2⟩ := ih (n / 10) (by rw [Nat.pow_succ] at h; omega) (by omega)
      rw [Px.cleanseref02_digits.f]
      rw [if_neg (by omega), hd, i1]
      simp only [Option.bind_some]
      rw [hm, hw, if_pos (by omega), if_pos (by omega), if_pos (by omega)]
      simp only [Int.toNat_natCast]
      have hlt : n % 10 < 10 := by omega
      rw [dig_ext (n % 10) hlt, bs_size, bs_size, if_pos (by rw [List.length_singleton]; have := Lib.nDigits_le20 (n / 10) (by omega); rw [Lib.decDigits_length]; omega), bs_app]
      rw [Lib.decDigits.eq_1 n, dif_neg h10]
      refine ⟨rfl, ?_⟩
      rw [List.length_append, List.length_singleton]
      omega
theorem decimal_spec (n : Int) (h0 : -1000000000 ≤ n) (h1 : n ≤ 1000000000) (k : Nat) (hk : 12 ≤ k) : Px.cleanseref02_Decimal.f k n = some (bs (Lib.itoa n)) := by
  obtain ⟨k, rfl⟩ : ∃ m, k = m + 1 := ⟨k - 1, by omega⟩
  have hp : 10 ^ 12 ≤ 10 ^ (k + 1) := Nat.pow_le_pow_right (by omega) hk
  unfold Px.cleanseref02_Decimal.f Lib.itoa
  by_cases hn : n < 0
  · have e : IntKind.u64.wrap (-(IntKind.u64.wrap n)) = ((n.natAbs : Nat) : Int) := by
      rw [show IntKind.u64.wrap n = n % 18446744073709551616 from rfl, show IntKind.u64.wrap (-(n % 18446744073709551616)) = (-(n % 18446744073709551616)) % 18446744073709551616 from rfl]
      omega
    rw [if_pos hn, if_pos hn, e, (digits_spec k n.natAbs (by omega) (by omega)).1]
    simp only [Option.bind_some]
    have hl := Lib.nDigits_le20 n.natAbs (by omega)
    rw [if_pos (by rw [bs_size, Lib.decDigits_length]; omega)]
    exact congrArg some (bs_app [45] _)
  · have e : IntKind.u64.wrap n = ((n.toNat : Nat) : Int) := by
      rw [show IntKind.u64.wrap n = n % 18446744073709551616 from rfl]
      omega
    rw [if_neg hn, if_neg hn, e, (digits_spec k n.toNat (by omega) (by omega)).1]
    rfl
/-- The reference's Text. -/
theorem refText_spec (a b : Int) (c : ByteArray) (k : Nat) (hk : 300 ≤ k) : Px.cleanseref02_Text.f k a b c = some (bs (textL a b c.data.toList)) := by
  unfold Px.cleanseref02_Text.f textL
  rw [ref_valid]
  simp only [Option.bind_some]
  by_cases hv : validZ a b c.data.toList = true
  · rw [if_pos hv, if_pos hv]
    have hv' := valid_iff.1 hv
    rcases hv' with ⟨rfl, rfl, h⟩ | ⟨rfl, rfl, h⟩ | ⟨rfl, h1, h2, h⟩ | ⟨rfl, h1, h2, h⟩ | ⟨rfl, h1, h2, h⟩
    · rfl
    · simp only [Int.reduceEq, ↓reduceIte]
      rw [quoted_spec c (by rw [len_list] at h; omega) k (by rw [len_list] at h; omega)]
      rfl
    · simp only [Int.reduceEq, ↓reduceIte]
      rw [decimal_spec b h1 h2 k (by omega)]
      rfl
    · simp only [Int.reduceEq, ↓reduceIte]
      rw [decimal_spec b (by omega) (by omega) k (by omega)]
      simp only [Option.bind_some]
      have hl := Lib.itoa_length_le b (by omega) (by omega)
      rw [if_pos (by rw [bs_size]; omega)]
      exact congrArg some (bs_app [64] _)
    · simp only [Int.reduceEq, ↓reduceIte]
      by_cases hb : b = 1
      · rw [if_pos hb, if_pos hb]; rfl
      · rw [if_neg hb, if_neg hb]; rfl
  · rw [if_neg hv, if_neg hv]; rfl
end Go.Proofs.YthgppbpmcjkadaaGreatDoor.X
set_option linter.unusedVariables false
set_option linter.unusedSimpArgs false
namespace Go.Proofs.YthgppbpmcjkadaaGreatDoor.X
open Go.RowKit Go.Proofs.YthgppbpmcjkadaaGreatDoorW.PrintWords Go.Proofs.YthgppbpmcjkadaaGreatDoorW.PrintMore
theorem take_next {l : List UInt8} {i : Nat} (h : i < l.length) : l.take (i + 1) = l.take i ++ [l[i]] := (List.take_append_getElem h).symm
theorem u64_range (x : Int) : 0 ≤ IntKind.u64.wrap x ∧ IntKind.u64.wrap x < 18446744073709551616 := by
  rw [show IntKind.u64.wrap x = x % 18446744073709551616 from rfl]; omega
theorem number_loop (c : ByteArray) (hc : c.size ≤ 1000000) : ∀ (d i k : Nat), i + d = min c.size 20 → 2 * d + 2 ≤ k → Px.cleanseref02_Number.l0 k c ((c.data.toList.take i).foldl stepN 0) (i : Int) = some (numL c.data.toList) := by
  intro d
  induction d with
  | zero =>
    intro i k hi hk
    obtain ⟨k, rfl⟩ : ∃ m, k = m + 2 := ⟨k - 2, by omega⟩
    have hlen := len_list c
    have ht : (c.data.toList.take i).foldl stepN 0 = numF c.data.toList := by
      unfold numF
      by_cases h20 : c.size ≤ 20
      · rw [List.take_of_length_le (by omega), List.take_of_length_le (by omega)]
      · rw [show i = 20 by omega]
    have hj : Px.cleanseref02_Number.j1 (k + 1) c (numF c.data.toList) (i : Int) false = some (numL c.data.toList) := by
      simp only [Px.cleanseref02_Number.j1]
      rw [if_neg (by simp), ByteArray.toList_eq]
      unfold numL
      by_cases h0 : c.data.toList = []
      · rw [if_pos h0, h0]; rfl
      · rw [if_neg h0]
        have hp : 0 < c.size := by
          rcases Nat.eq_zero_or_pos c.size with h | h
          · exact absurd ((bytes_nil c).2 h) h0
          · exact h
        have hb := bt_list c 0 hp
        rw [show ((0 : Nat) : Int) = 0 from rfl] at hb
        rw [if_pos (by omega), hb]
        have hh : c.data.toList.head? = some (c.data.toList[0]'(by omega)) := by
          rw [List.head?_eq_getElem?, List.getElem?_eq_getElem]
        rw [hh]
        generalize c.data.toList[0]'(by omega) = x
        by_cases hx : x = 45
        · subst hx; rfl
        · rw [if_neg (fun h => hx ((byte_eq 45 (n := 45) rfl).1 h)), if_neg (fun h => hx (Option.some.inj h))]
    rw [ht]
    simp only [Px.cleanseref02_Number.l0]
    by_cases h1 : (i : Int) < (c.size : Int)
    · rw [if_pos h1, decide_eq_false (by omega)]; exact hj
    · rw [if_neg h1]; exact hj
  | succ d ih =>
    intro i k hi hk
    obtain ⟨k, rfl⟩ : ∃ m, k = m + 2 := ⟨k - 2, by omega⟩
    have hlen := len_list c
    have hw : wrap64 ((i : Int) + 1) = ((i + 1 : Nat) : Int) := by unfold wrap64; omega
    have hih := ih (i + 1) k (by omega) (by omega)
    rw [take_next (by omega), List.foldl_append, List.foldl_cons, List.foldl_nil] at hih
    simp only [Px.cleanseref02_Number.l0]
    rw [if_pos (by omega), decide_eq_true (by omega)]
    simp only [Px.cleanseref02_Number.j1]
    rw [if_pos trivial, if_pos (by omega), if_pos (by omega), bt_list c i (by omega), hw]
    generalize c.data.toList[i]'(by omega) = x at *
    generalize (c.data.toList.take i).foldl stepN 0 = v at *
    rw [← hih]
    unfold stepN
    by_cases h48 : (x.toNat : Int) ≥ 48
    · by_cases h57 : (x.toNat : Int) ≤ 57
      · rw [if_pos h48, if_pos h57, if_pos ⟨h48, h57⟩]
      · rw [if_pos h48, if_neg h57, if_neg (fun h => h57 h.2)]
    · rw [if_neg h48, if_neg (fun h => h48 h.1)]
theorem number_spec (c : ByteArray) (hc : c.size ≤ 1000000) (k : Nat) (hk : 50 ≤ k) : Px.cleanseref02_Number.f k c = some (numL c.data.toList) := by
  have := number_loop c hc (min c.size 20) 0 k (by omega) (by omega)
  exact this
theorem unq_loop (c : ByteArray) (hc : c.size ≤ 1000000) : ∀ (d i k : Nat) (acc : List UInt8), c.size - i ≤ d → d < k → 1 ≤ i → acc.length ≤ i → i ≤ c.size → Px.cleanseref02_unquoted.l0 k c (bs acc) (i : Int) = some (bs (acc ++ unqL (c.data.toList.drop i))) := by
  intro d
  induction d with
  | zero =>
    intro i k acc hi hk h1 ha hic
    obtain ⟨k, rfl⟩ : ∃ m, k = m + 1 := ⟨k - 1, by omega⟩
    have hw : wrap64 ((i : Int) + 1) = ((i + 1 : Nat) : Int) := by unfold wrap64; omega
    simp only [Px.cleanseref02_unquoted.l0]
    rw [hw, if_neg (by omega), List.drop_eq_nil_of_le (by rw [len_list]; omega)]
    simp [unqL]
  | succ d ih =>
    intro i k acc hi hk h1 ha hic
    obtain ⟨k, rfl⟩ : ∃ m, k = m + 1 := ⟨k - 1, by omega⟩
    have hlen := len_list c
    have hw : wrap64 ((i : Int) + 1) = ((i + 1 : Nat) : Int) := by unfold wrap64; omega
    have hw2 : wrap64 (((i + 1 : Nat) : Int) + 1) = ((i + 2 : Nat) : Int) := by unfold wrap64; omega
    simp only [Px.cleanseref02_unquoted.l0]
    rw [hw]
    by_cases h2 : i + 1 < c.size
    · rw [if_pos (by omega), if_pos (by omega), if_pos (by omega), if_pos (by omega)]
      simp only [Int.toNat_natCast]
      have e1 := ext_one c i (by omega)
      have e2 := ext_one c (i + 1) (by omega)
      have hdr : c.data.toList.drop i = c.data.toList[i]'(by omega) :: c.data.toList[i + 1]'(by omega) :: c.data.toList.drop (i + 2) := by
        rw [List.drop_eq_getElem_cons (by omega), List.drop_eq_getElem_cons (by omega)]
      have hdr1 : c.data.toList.drop (i + 1) = c.data.toList[i + 1]'(by omega) :: c.data.toList.drop (i + 2) := List.drop_eq_getElem_cons (by omega)
      rw [hdr, e1, hw2, ByteArray.toList_eq, bs_data]
      simp only [Int.toNat_natCast]
      rw [e2, ByteArray.toList_eq, bs_data]
      generalize c.data.toList[i]'(by omega) = x at *
      generalize c.data.toList[i + 1]'(by omega) = y at *
      have hu : unqL (x :: y :: c.data.toList.drop (i + 2)) = if x = 92 then (if y = 110 then 10 :: unqL (c.data.toList.drop (i + 2)) else y :: unqL (c.data.toList.drop (i + 2))) else x :: unqL (y :: c.data.toList.drop (i + 2)) := rfl
      rw [hu]
      by_cases hx : x = 92
      · subst hx
        rw [if_pos rfl, if_pos rfl, if_pos (by omega), if_pos (by omega), if_pos (by omega)]
        by_cases hy : y = 110
        · subst hy
          rw [if_pos rfl, if_pos rfl, if_pos (by rw [bs_size]; omega)]
          have := ih (i + 2) k (acc ++ [10]) (by omega) (by omega) (by omega) (by rw [List.length_append, List.length_singleton]; omega) (by omega)
          rw [← bs_app] at this
          rw [show (⟨#[10]⟩ : ByteArray) = bs [10] from rfl, this]
          simp
        · rw [if_neg (fun h => hy (List.cons.inj h).1), if_neg hy, if_pos (by rw [bs_size, bs_size, List.length_singleton]; omega)]
          have := ih (i + 2) k (acc ++ [y]) (by omega) (by omega) (by omega) (by rw [List.length_append, List.length_singleton]; omega) (by omega)
          rw [← bs_app] at this
          rw [this]
          simp
      · rw [if_neg (fun h => hx (List.cons.inj h).1), if_neg hx, if_pos (by rw [bs_size, bs_size, List.length_singleton]; omega)]
        have := ih (i + 1) k (acc ++ [x]) (by omega) (by omega) (by omega) (by rw [List.length_append, List.length_singleton]; omega) (by omega)
        rw [← bs_app, hdr1] at this
        rw [this]
        simp
    · rw [if_neg (by omega)]
      by_cases h3 : i = c.size
      · rw [List.drop_eq_nil_of_le (by omega)]; simp [unqL]
      · rw [List.drop_eq_getElem_cons (by omega), List.drop_eq_nil_of_le (by omega)]; simp [unqL]
theorem unq_spec (c : ByteArray) (h1 : 1 ≤ c.size) (hc : c.size ≤ 1000000) (k : Nat) (hk : c.size < k) : Px.cleanseref02_unquoted.f k c = some (bs (unqL c.data.toList.tail)) := by
  have := unq_loop c hc c.size 1 k [] (by omega) hk (by omega) (by simp) h1
  rw [List.drop_one] at this
  exact this
end Go.Proofs.YthgppbpmcjkadaaGreatDoor.X
