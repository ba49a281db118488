/- Go functions as Lean functions, each with the proof that the Go code answers as it does (written by a program of this session: myprint.py, over the kit's printer). -/
import Derived.Test.YtgblfdfagppejaaDoorPx0
import Derived.Test.YtgblfdfagppejaaDoorPx1
import Derived.Test.YtgblfdfagppejaaDoorPx3
namespace Go.Proofs.YtgblfdfagppejaaDoor.Px
open Go.RowKit Go.Proofs.YtgblfdfagppejaaDoorW.PrintWords Go.Proofs.YtgblfdfagppejaaDoorW.PrintLast Go.Proofs.YtgblfdfagppejaaDoorW.PrintMore
attribute [local go_sem] max2_int min2_int max_two min_two max_three min_three max_four min_four   -- for this text's walks alone
set_option linter.unusedVariables false
set_option linter.unusedSimpArgs false

/-! ### cleanseref45_Get: function 14 -/
mutual
def cleanseref45_Get.j0 : Nat → Int → Int → ByteArray → Int → Int → Int → Bool → Option (ByteArray × Int)
  | 0, _, _, _, _, _, _, _ => none
  | k + 1, x0, x1, x2, x8, x9, x10, x35 => if x35 = true then (some ((⟨#[]⟩ : ByteArray), 20)) else (if 16 ≤ (wrap64 (16 + x10)) then (if (wrap64 (16 + x10)) ≤ (x2.size : Int) then ((cleanseref45_Put.f k x8 x9 (x2.extract 16 ((wrap64 (16 + x10)) : Int).toNat)).bind fun bt186 => (if bt186.2 = 0 then (cleanseref45_Get.j1 k x0 x1 x8 x9 (x2.extract 16 ((wrap64 (16 + x10)) : Int).toNat) (bt186.1.toList != x2.toList)) else (cleanseref45_Get.j1 k x0 x1 x8 x9 (x2.extract 16 ((wrap64 (16 + x10)) : Int).toNat) true))) else (none)) else (none))
def cleanseref45_Get.j1 : Nat → Int → Int → Int → Int → ByteArray → Bool → Option (ByteArray × Int)
  | 0, _, _, _, _, _, _ => none
  | k + 1, x0, x1, x8, x9, x11, x53 => if x53 = true then (some ((⟨#[]⟩ : ByteArray), 20)) else (if x8 = x0 then (if x9 = x1 then (some (x11, 0)) else (some ((⟨#[]⟩ : ByteArray), 21))) else (some ((⟨#[]⟩ : ByteArray), 21)))
end
def cleanseref45_Get.f (k : Nat) (a0 : Int) (a1 : Int) (a2 : ByteArray) : Option (ByteArray × Int) := (cleanseref45_Placed.f a0 a1).bind fun t182 => (if t182 = true then (if (a2.size : Int) = 64 then (if 0 ≤ 8 then (if 8 ≤ (a2.size : Int) then ((cleanseref45_value.f k (a2.extract 0 8)).bind fun t183 => (if 8 ≤ 12 then (if 12 ≤ (a2.size : Int) then ((cleanseref45_value.f k (a2.extract 8 12)).bind fun t184 => (if 12 ≤ 16 then (if 16 ≤ (a2.size : Int) then ((cleanseref45_value.f k (a2.extract 12 16)).bind fun t185 => (if t185 < 0 then (cleanseref45_Get.j0 k a0 a1 a2 t183 t184 t185 true) else (cleanseref45_Get.j0 k a0 a1 a2 t183 t184 t185 (decide (t185 > 40))))) else (none)) else (none))) else (none)) else (none))) else (none)) else (none)) else (some ((⟨#[]⟩ : ByteArray), 20))) else (some ((⟨#[]⟩ : ByteArray), 1)))
theorem cleanseref45_Get.mono_l : ∀ k, (∀ y0 y1 y2 y3 y4 y5 y6, LeO (cleanseref45_Get.j0 k y0 y1 y2 y3 y4 y5 y6) (cleanseref45_Get.j0 (k + 1) y0 y1 y2 y3 y4 y5 y6)) ∧ (∀ y0 y1 y2 y3 y4 y5, LeO (cleanseref45_Get.j1 k y0 y1 y2 y3 y4 y5) (cleanseref45_Get.j1 (k + 1) y0 y1 y2 y3 y4 y5))
  | 0 => ⟨fun _ _ _ _ _ _ _ r h => by simp [cleanseref45_Get.j0] at h, fun _ _ _ _ _ _ r h => by simp [cleanseref45_Get.j1] at h⟩
  | k + 1 => by
    obtain ⟨ih0, ih1⟩ := cleanseref45_Get.mono_l k
    refine ⟨?_, ?_⟩
    · intro y0 y1 y2 y3 y4 y5 y6
      unfold cleanseref45_Get.j0
      repeat' first
      | (with_reducible exact ih0 _ _ _ _ _ _ _)
      | (with_reducible exact ih1 _ _ _ _ _ _)
      | (with_reducible exact cleanseref45_Put.mono _ _ _ _)
      | (with_reducible exact cleanseref45_value.mono _ _)
      | (with_reducible exact LeO.refl _)
      | (with_reducible exact LeO.none _)
      | (with_reducible refine LeO.ite ?_ ?_)
      | (with_reducible refine LeO.bind ?_ (fun _ => ?_))
      | exact ih0 _ _ _ _ _ _ _
      | exact ih1 _ _ _ _ _ _
      | exact cleanseref45_Put.mono _ _ _ _
      | exact cleanseref45_value.mono _ _
      | exact LeO.none _
      | refine LeO.ite ?_ ?_
      | refine LeO.bind ?_ (fun _ => ?_)
    · intro y0 y1 y2 y3 y4 y5
      unfold cleanseref45_Get.j1
      repeat' first
      | (with_reducible exact ih0 _ _ _ _ _ _ _)
      | (with_reducible exact ih1 _ _ _ _ _ _)
      | (with_reducible exact cleanseref45_Put.mono _ _ _ _)
      | (with_reducible exact cleanseref45_value.mono _ _)
      | (with_reducible exact LeO.refl _)
      | (with_reducible exact LeO.none _)
      | (with_reducible refine LeO.ite ?_ ?_)
      | (with_reducible refine LeO.bind ?_ (fun _ => ?_))
      | exact ih0 _ _ _ _ _ _ _
      | exact ih1 _ _ _ _ _ _
      | exact cleanseref45_Put.mono _ _ _ _
      | exact cleanseref45_value.mono _ _
      | exact LeO.none _
      | refine LeO.ite ?_ ?_
      | refine LeO.bind ?_ (fun _ => ?_)
theorem cleanseref45_Get.mono : ∀ a0 a1 a2 k, LeO (cleanseref45_Get.f k a0 a1 a2) (cleanseref45_Get.f (k + 1) a0 a1 a2) := by
  intro a0 a1 a2 k
  obtain ⟨ih0, ih1⟩ := cleanseref45_Get.mono_l k
  unfold cleanseref45_Get.f
  repeat' first
      | (with_reducible exact ih0 _ _ _ _ _ _ _)
      | (with_reducible exact ih1 _ _ _ _ _ _)
      | (with_reducible exact cleanseref45_Put.mono _ _ _ _)
      | (with_reducible exact cleanseref45_value.mono _ _)
      | (with_reducible exact LeO.refl _)
      | (with_reducible exact LeO.none _)
      | (with_reducible refine LeO.ite ?_ ?_)
      | (with_reducible refine LeO.bind ?_ (fun _ => ?_))
      | exact ih0 _ _ _ _ _ _ _
      | exact ih1 _ _ _ _ _ _
      | exact cleanseref45_Put.mono _ _ _ _
      | exact cleanseref45_value.mono _ _
      | exact LeO.none _
      | refine LeO.ite ?_ ?_
      | refine LeO.bind ?_ (fun _ => ?_)
set_option maxHeartbeats 8000000 in
set_option maxRecDepth 100000 in
theorem cleanseref45_Get.calls (k : Nat) (a0 : Int) (a1 : Int) (a2 : ByteArray) (r1 : ByteArray) (r2 : Int) (w : World) (h : cleanseref45_Get.f k a0 a1 a2 = some (r1, r2)) :
    Calls Tryd.prog 14 #[.int .i64 a0, .int .i64 a1, .string a2] w fun e w' => e = .returned (.tuple #[.string r1, .int .i64 r2]) ∧ Below w.heap.size w w' := by
  have HB := Aside0.mk (Below.refl w.heap.size w)
  have H : ((cleanseref45_Placed.f a0 a1).bind fun t182 => (if t182 = true then (if (a2.size : Int) = 64 then (if 0 ≤ 8 then (if 8 ≤ (a2.size : Int) then ((cleanseref45_value.f k (a2.extract 0 8)).bind fun t183 => (if 8 ≤ 12 then (if 12 ≤ (a2.size : Int) then ((cleanseref45_value.f k (a2.extract 8 12)).bind fun t184 => (if 12 ≤ 16 then (if 16 ≤ (a2.size : Int) then ((cleanseref45_value.f k (a2.extract 12 16)).bind fun t185 => (if t185 < 0 then (cleanseref45_Get.j0 k a0 a1 a2 t183 t184 t185 true) else (cleanseref45_Get.j0 k a0 a1 a2 t183 t184 t185 (decide (t185 > 40))))) else (none)) else (none))) else (none)) else (none))) else (none)) else (none)) else (some ((⟨#[]⟩ : ByteArray), 20))) else (some ((⟨#[]⟩ : ByteArray), 1)))) = some (r1, r2) := h
  clear h
  replace H := Option.bind_eq_some_iff.mp H
  obtain ⟨t182, A40, H⟩ := H
  replace H : (if t182 = true then (if (a2.size : Int) = 64 then (if 0 ≤ 8 then (if 8 ≤ (a2.size : Int) then ((cleanseref45_value.f k (a2.extract 0 8)).bind fun t183 => (if 8 ≤ 12 then (if 12 ≤ (a2.size : Int) then ((cleanseref45_value.f k (a2.extract 8 12)).bind fun t184 => (if 12 ≤ 16 then (if 16 ≤ (a2.size : Int) then ((cleanseref45_value.f k (a2.extract 12 16)).bind fun t185 => (if t185 < 0 then (cleanseref45_Get.j0 k a0 a1 a2 t183 t184 t185 true) else (cleanseref45_Get.j0 k a0 a1 a2 t183 t184 t185 (decide (t185 > 40))))) else (none)) else (none))) else (none)) else (none))) else (none)) else (none)) else (some ((⟨#[]⟩ : ByteArray), 20))) else (some ((⟨#[]⟩ : ByteArray), 1))) = some (r1, r2) := H
  have A4 := Aside0.mk A40
  clear A40
  by_cases c5 : t182 = true
  · subst c5
    have H1 : (if (a2.size : Int) = 64 then (if 0 ≤ 8 then (if 8 ≤ (a2.size : Int) then ((cleanseref45_value.f k (a2.extract 0 8)).bind fun t183 => (if 8 ≤ 12 then (if 12 ≤ (a2.size : Int) then ((cleanseref45_value.f k (a2.extract 8 12)).bind fun t184 => (if 12 ≤ 16 then (if 16 ≤ (a2.size : Int) then ((cleanseref45_value.f k (a2.extract 12 16)).bind fun t185 => (if t185 < 0 then (cleanseref45_Get.j0 k a0 a1 a2 t183 t184 t185 true) else (cleanseref45_Get.j0 k a0 a1 a2 t183 t184 t185 (decide (t185 > 40))))) else (none)) else (none))) else (none)) else (none))) else (none)) else (none)) else (some ((⟨#[]⟩ : ByteArray), 20))) = some (r1, r2) := by rw [if_pos rfl] at H; exact H
    clear H
    have H := H1
    clear H1
    by_cases c6 : (a2.size : Int) = 64
    · rw [if_pos c6] at H
      have c6b0 : ((a2.size : Int) == 64) = true := beq_iff_eq.mpr c6
      have c6b1 : ((a2.size : Int) != 64) = false := bne_eq_false_iff_eq.mpr c6
      clear c6
      by_cases c7 : 0 ≤ 8
      · rw [if_pos c7] at H
        have c7b0 := eq_true c7
        have c7b1 : decide (0 ≤ 8) = true := decide_eq_true c7
        clear c7
        by_cases c8 : 8 ≤ (a2.size : Int)
        · rw [if_pos c8] at H
          have c8b0 := eq_true c8
          have c8b1 : decide (8 ≤ (a2.size : Int)) = true := decide_eq_true c8
          clear c8
          replace H := Option.bind_eq_some_iff.mp H
          obtain ⟨t183, A90, H⟩ := H
          replace H : (if 8 ≤ 12 then (if 12 ≤ (a2.size : Int) then ((cleanseref45_value.f k (a2.extract 8 12)).bind fun t184 => (if 12 ≤ 16 then (if 16 ≤ (a2.size : Int) then ((cleanseref45_value.f k (a2.extract 12 16)).bind fun t185 => (if t185 < 0 then (cleanseref45_Get.j0 k a0 a1 a2 t183 t184 t185 true) else (cleanseref45_Get.j0 k a0 a1 a2 t183 t184 t185 (decide (t185 > 40))))) else (none)) else (none))) else (none)) else (none)) = some (r1, r2) := H
          have A9 := Aside0.mk A90
          clear A90
          by_cases c10 : 8 ≤ 12
          · rw [if_pos c10] at H
            have c10b0 := eq_true c10
            have c10b1 : decide (8 ≤ 12) = true := decide_eq_true c10
            clear c10
            by_cases c11 : 12 ≤ (a2.size : Int)
            · rw [if_pos c11] at H
              have c11b0 := eq_true c11
              have c11b1 : decide (12 ≤ (a2.size : Int)) = true := decide_eq_true c11
              clear c11
              replace H := Option.bind_eq_some_iff.mp H
              obtain ⟨t184, A120, H⟩ := H
              replace H : (if 12 ≤ 16 then (if 16 ≤ (a2.size : Int) then ((cleanseref45_value.f k (a2.extract 12 16)).bind fun t185 => (if t185 < 0 then (cleanseref45_Get.j0 k a0 a1 a2 t183 t184 t185 true) else (cleanseref45_Get.j0 k a0 a1 a2 t183 t184 t185 (decide (t185 > 40))))) else (none)) else (none)) = some (r1, r2) := H
              have A12 := Aside0.mk A120
              clear A120
              by_cases c13 : 12 ≤ 16
              · rw [if_pos c13] at H
                have c13b0 := eq_true c13
                have c13b1 : decide (12 ≤ 16) = true := decide_eq_true c13
                clear c13
                by_cases c14 : 16 ≤ (a2.size : Int)
                · rw [if_pos c14] at H
                  have c14b0 := eq_true c14
                  have c14b1 : decide (16 ≤ (a2.size : Int)) = true := decide_eq_true c14
                  clear c14
                  replace H := Option.bind_eq_some_iff.mp H
                  obtain ⟨t185, A150, H⟩ := H
                  replace H : (if t185 < 0 then (cleanseref45_Get.j0 k a0 a1 a2 t183 t184 t185 true) else (cleanseref45_Get.j0 k a0 a1 a2 t183 t184 t185 (decide (t185 > 40)))) = some (r1, r2) := H
                  have A15 := Aside0.mk A150
                  clear A150
                  have HC16 := Aside0.mk H
                  clear H
                  go_enter Tryd.func14, Tryd.ntmps14
                  go_upto_region 8 with (first | ((with_reducible refine gate_callee (f := 24) rfl ?_); refine goesL_ (some 16) rfl rfl Tryd.func24 (by kernel_rfl) rfl #[.int .i64 a0, .int .i64 a1] rfl (by (try simp only [List.map_toArray, List.map_cons, List.map_nil]); first | done | rfl | (simp only [List.length_drop, List.length_take]; rfl)) ?_; (with_reducible refine (cleanseref45_Placed.calls a0 a1 true _ A4.out).mono ?_); rintro e w' ⟨rfl, ⟨nd, rfl⟩⟩; refine ⟨_, rfl, ?_⟩) | ((with_reducible refine gate_callee (f := 27) rfl ?_); refine goesL_ (some 23) rfl rfl Tryd.func27 (by kernel_rfl) rfl #[.string (a2.extract 0 8)] rfl (by (try simp only [List.map_toArray, List.map_cons, List.map_nil]); first | done | rfl | (simp only [List.length_drop, List.length_take]; rfl)) ?_; (with_reducible refine (cleanseref45_value.calls k (a2.extract 0 8) t183 _ A9.out).mono ?_); rintro e w' ⟨rfl, ⟨nd, rfl⟩⟩; refine ⟨_, rfl, ?_⟩) | ((with_reducible refine gate_callee (f := 27) rfl ?_); refine goesL_ (some 26) rfl rfl Tryd.func27 (by kernel_rfl) rfl #[.string (a2.extract 8 12)] rfl (by (try simp only [List.map_toArray, List.map_cons, List.map_nil]); first | done | rfl | (simp only [List.length_drop, List.length_take]; rfl)) ?_; (with_reducible refine (cleanseref45_value.calls k (a2.extract 8 12) t184 _ A12.out).mono ?_); rintro e w' ⟨rfl, ⟨nd, rfl⟩⟩; refine ⟨_, rfl, ?_⟩) | ((with_reducible refine gate_callee (f := 27) rfl ?_); refine goesL_ (some 29) rfl rfl Tryd.func27 (by kernel_rfl) rfl #[.string (a2.extract 12 16)] rfl (by (try simp only [List.map_toArray, List.map_cons, List.map_nil]); first | done | rfl | (simp only [List.length_drop, List.length_take]; rfl)) ?_; (with_reducible refine (cleanseref45_value.calls k (a2.extract 12 16) t185 _ A15.out).mono ?_); rintro e w' ⟨rfl, ⟨nd, rfl⟩⟩; refine ⟨_, rfl, ?_⟩))
                  (try simp only [Act.put, List.setIfInBounds_toArray, List.set_cons_zero, List.set_cons_succ])
                  go_cut [35] (fun v35 wc => ∃ (kq : Nat) (x35_15 : Bool), v35 = .bool x35_15 ∧ Aside0 (cleanseref45_Get.j0 kq a0 a1 a2 t183 t184 t185 x35_15 = some (r1, r2)) ∧ Aside0 (kq ≤ k) ∧ Aside0 (Below w.heap.size w wc))
                  case first =>
                    have H := HC16.out
                    clear HC16
                    by_cases c17 : t185 < 0
                    · rw [if_pos c17] at H
                      have c17b0 : decide (t185 < 0) = true := decide_eq_true c17
                      clear c17
                      (first | rw [c17b0] | (simp only [i64_w, i32_w]; rw [c17b0]) | skip)
                      have H' := Aside0.mk H
                      clear H
                      go_wp2
                      go_meet
                      case rel => exact ⟨_, (true), (by first | rfl | (simp; done) | (simp [*]; done)), H', ⟨by first | omega | exact Nat.le_refl _⟩, ⟨by repeat (first | (with_reducible first | exact HB.out | apply below_alloc | apply pw_below_drewN | apply below_drew1) | exact HB.out)⟩⟩
                    · rw [if_neg c17] at H
                      have c17b0 : decide (t185 < 0) = false := decide_eq_false c17
                      clear c17
                      (first | rw [c17b0] | (simp only [i64_w, i32_w]; rw [c17b0]) | skip)
                      have H' := Aside0.mk H
                      clear H
                      go_wp2
                      go_meet
                      case rel => exact ⟨_, (decide (t185 > 40)), (by first | rfl | (simp; done) | (simp [*]; done)), H', ⟨by first | omega | exact Nat.le_refl _⟩, ⟨by repeat (first | (with_reducible first | exact HB.out | apply below_alloc | apply pw_below_drewN | apply below_drew1) | exact HB.out)⟩⟩
                  case rest =>
                    clear HC16
                    try clear c1
                    try clear c2
                    try clear p2
                    try clear c5
                    try clear c6
                    try clear c6b0
                    try clear c6b1
                    try clear c7
                    try clear c7b0
                    try clear c7b1
                    try clear c8
                    try clear c8b0
                    try clear c8b1
                    try clear c10
                    try clear c10b0
                    try clear c10b1
                    try clear c11
                    try clear c11b0
                    try clear c11b1
                    try clear c13
                    try clear c13b0
                    try clear c13b1
                    try clear c14
                    try clear c14b0
                    try clear c14b1
                    try clear c17
                    try clear c17b0
                    obtain ⟨kq, x35_15, rfl, HA, HJ15, HB⟩ := hcut
                    cases kq with
                    | zero => exact absurd HA.out (by simp [cleanseref45_Get.j0])
                    | succ kj15 =>
                      have H := HA.out
                      clear HA
                      simp only [cleanseref45_Get.j0] at H
                      by_cases c18 : x35_15 = true
                      · subst c18
                        have H1 : (some ((⟨#[]⟩ : ByteArray), 20)) = some (r1, r2) := by rw [if_pos rfl] at H; exact H
                        clear H
                        have H := H1
                        clear H1
                        simp only [Option.some.injEq, Prod.mk.injEq] at H
                        obtain ⟨rfl, rfl⟩ := H
                        go_wp2
                        go_ret2
                        exact ⟨by first | rfl | (simp [errW_none, errW_some] <;> rfl) | (simp [*, errW_none, errW_some] <;> rfl), by repeat (first | (with_reducible first | exact HB.out | apply below_alloc | apply pw_below_drewN | apply below_drew1) | exact HB.out)⟩
                      · replace c18 := Bool.eq_false_iff.mpr c18
                        subst c18
                        have H1 : (if 16 ≤ (wrap64 (16 + t185)) then (if (wrap64 (16 + t185)) ≤ (a2.size : Int) then ((cleanseref45_Put.f kj15 t183 t184 (a2.extract 16 ((wrap64 (16 + t185)) : Int).toNat)).bind fun bt186 => (if bt186.2 = 0 then (cleanseref45_Get.j1 kj15 a0 a1 t183 t184 (a2.extract 16 ((wrap64 (16 + t185)) : Int).toNat) (bt186.1.toList != a2.toList)) else (cleanseref45_Get.j1 kj15 a0 a1 t183 t184 (a2.extract 16 ((wrap64 (16 + t185)) : Int).toNat) true))) else (none)) else (none)) = some (r1, r2) := by rw [if_neg (show ¬ (false = true) by decide)] at H; exact H
                        clear H
                        have H := H1
                        clear H1
                        by_cases c19 : 16 ≤ (wrap64 (16 + t185))
                        · rw [if_pos c19] at H
                          have c19b0 := eq_true c19
                          have c19b1 : decide (16 ≤ (wrap64 (16 + t185))) = true := decide_eq_true c19
                          by_cases c20 : (wrap64 (16 + t185)) ≤ (a2.size : Int)
                          · rw [if_pos c20] at H
                            have c20b0 := eq_true c20
                            have c20b1 : decide ((wrap64 (16 + t185)) ≤ (a2.size : Int)) = true := decide_eq_true c20
                            replace H := Option.bind_eq_some_iff.mp H
                            obtain ⟨⟨t186, t187⟩, A210, H⟩ := H
                            replace H : (if t187 = 0 then (cleanseref45_Get.j1 kj15 a0 a1 t183 t184 (a2.extract 16 ((wrap64 (16 + t185)) : Int).toNat) (t186.toList != a2.toList)) else (cleanseref45_Get.j1 kj15 a0 a1 t183 t184 (a2.extract 16 ((wrap64 (16 + t185)) : Int).toNat) true)) = some (r1, r2) := H
                            have A21 := Aside0.mk A210
                            clear A210
                            have HC22 := Aside0.mk H
                            clear H
                            go_upto_region 12 with (first | ((with_reducible refine gate_callee (f := 12) rfl ?_); refine goesL_ (some 44) rfl rfl Tryd.func12 (by kernel_rfl) rfl #[.int .i64 t183, .int .i64 t184, .string (a2.extract 16 ((wrap64 (16 + t185)) : Int).toNat)] rfl (by (try simp only [List.map_toArray, List.map_cons, List.map_nil]); first | done | rfl | (simp only [List.length_drop, List.length_take]; rfl)) ?_; (with_reducible refine (cleanseref45_Put.calls kj15 t183 t184 (a2.extract 16 ((wrap64 (16 + t185)) : Int).toNat) t186 t187 _ A21.out).mono ?_); rintro e w23 ⟨rfl, hb⟩; refine ⟨_, rfl, ?_⟩; have n0_ := Aside0.mk (below_step (by repeat (first | (with_reducible first | exact HB.out | apply below_alloc | apply pw_below_drewN | apply below_drew1) | exact HB.out)) hb); clear HB; have HB := n0_; clear n0_; (try clear hb); (try clear hb2); (try clear hk); (try clear hi)))
                            (try simp only [Act.put, List.setIfInBounds_toArray, List.set_cons_zero, List.set_cons_succ])
                            go_cut [53] (fun v53 wc => ∃ (kq : Nat) (x53_21 : Bool), v53 = .bool x53_21 ∧ Aside0 (cleanseref45_Get.j1 kq a0 a1 t183 t184 (a2.extract 16 ((wrap64 (16 + t185)) : Int).toNat) x53_21 = some (r1, r2)) ∧ Aside0 (kq ≤ kj15) ∧ Aside0 (Below w.heap.size w wc))
                            case first =>
                              have H := HC22.out
                              clear HC22
                              by_cases c24 : t187 = 0
                              · rw [if_pos c24] at H
                                have c24b0 : (t187 == 0) = true := beq_iff_eq.mpr c24
                                have c24b1 : (t187 != 0) = false := bne_eq_false_iff_eq.mpr c24
                                clear c24
                                (first | rw [c24b0] | (simp only [i64_w, i32_w]; rw [c24b0]) | skip)
                                have H' := Aside0.mk H
                                clear H
                                go_wp2
                                go_meet
                                case rel => exact ⟨_, ((t186.toList != a2.toList)), (by first | rfl | (simp; done) | (simp [*]; done)), H', ⟨by have := HJ15.out; first | omega | exact Nat.le_refl _⟩, ⟨by repeat (first | (with_reducible first | exact HB.out | apply below_alloc | apply pw_below_drewN | apply below_drew1) | exact HB.out)⟩⟩
                              · rw [if_neg c24] at H
                                have c24b0 : (t187 == 0) = false := beq_eq_false_iff_ne.mpr c24
                                have c24b1 : (t187 != 0) = true := bne_iff_ne.mpr c24
                                (first | rw [c24b0] | (simp only [i64_w, i32_w]; rw [c24b0]) | skip)
                                have H' := Aside0.mk H
                                clear H
                                go_wp2
                                go_meet
                                case rel => exact ⟨_, (true), (by first | rfl | (simp; done) | (simp [*]; done)), H', ⟨by have := HJ15.out; first | omega | exact Nat.le_refl _⟩, ⟨by repeat (first | (with_reducible first | exact HB.out | apply below_alloc | apply pw_below_drewN | apply below_drew1) | exact HB.out)⟩⟩
                            case rest =>
                              clear HC22
                              try clear c1
                              try clear c2
                              try clear p2
                              try clear c5
                              try clear c6
                              try clear c6b0
                              try clear c6b1
                              try clear p6
                              try clear c7
                              try clear c7b0
                              try clear c7b1
                              try clear c8
                              try clear c8b0
                              try clear c8b1
                              try clear c10
                              try clear c10b0
                              try clear c10b1
                              try clear c11
                              try clear c11b0
                              try clear c11b1
                              try clear c12
                              try clear c13
                              try clear c13b0
                              try clear c13b1
                              try clear c14
                              try clear c14b0
                              try clear c14b1
                              try clear c17
                              try clear c17b0
                              try clear c18
                              try clear c19
                              try clear c19b0
                              try clear c19b1
                              try clear c20
                              try clear c20b0
                              try clear c20b1
                              try clear c24
                              try clear c24b0
                              try clear c24b1
                              try clear p2
                              obtain ⟨kq, x53_21, rfl, HA, HJ21, HB⟩ := hcut
                              cases kq with
                              | zero => exact absurd HA.out (by simp [cleanseref45_Get.j1])
                              | succ kj21 =>
                                have H := HA.out
                                clear HA
                                simp only [cleanseref45_Get.j1] at H
                                by_cases c25 : x53_21 = true
                                · subst c25
                                  have H1 : (some ((⟨#[]⟩ : ByteArray), 20)) = some (r1, r2) := by rw [if_pos rfl] at H; exact H
                                  clear H
                                  have H := H1
                                  clear H1
                                  simp only [Option.some.injEq, Prod.mk.injEq] at H
                                  obtain ⟨rfl, rfl⟩ := H
                                  go_wp2
                                  go_ret2
                                  exact ⟨by first | rfl | (simp [errW_none, errW_some] <;> rfl) | (simp [*, errW_none, errW_some] <;> rfl), by repeat (first | (with_reducible first | exact HB.out | apply below_alloc | apply pw_below_drewN | apply below_drew1) | exact HB.out)⟩
                                · replace c25 := Bool.eq_false_iff.mpr c25
                                  subst c25
                                  have H1 : (if t183 = a0 then (if t184 = a1 then (some ((a2.extract 16 ((wrap64 (16 + t185)) : Int).toNat), 0)) else (some ((⟨#[]⟩ : ByteArray), 21))) else (some ((⟨#[]⟩ : ByteArray), 21))) = some (r1, r2) := by rw [if_neg (show ¬ (false = true) by decide)] at H; exact H
                                  clear H
                                  have H := H1
                                  clear H1
                                  by_cases c26 : t183 = a0
                                  · rw [if_pos c26] at H
                                    have c26b0 : (t183 == a0) = true := beq_iff_eq.mpr c26
                                    have c26b1 : (t183 != a0) = false := bne_eq_false_iff_eq.mpr c26
                                    clear c26
                                    by_cases c27 : t184 = a1
                                    · rw [if_pos c27] at H
                                      have c27b0 : (t184 == a1) = true := beq_iff_eq.mpr c27
                                      have c27b1 : (t184 != a1) = false := bne_eq_false_iff_eq.mpr c27
                                      clear c27
                                      simp only [Option.some.injEq, Prod.mk.injEq] at H
                                      obtain ⟨rfl, rfl⟩ := H
                                      go_wp2
                                      go_ret2
                                      exact ⟨by first | rfl | (simp [errW_none, errW_some] <;> rfl) | (simp [*, errW_none, errW_some] <;> rfl), by repeat (first | (with_reducible first | exact HB.out | apply below_alloc | apply pw_below_drewN | apply below_drew1) | exact HB.out)⟩
                                    · rw [if_neg c27] at H
                                      have c27b0 : (t184 == a1) = false := beq_eq_false_iff_ne.mpr c27
                                      have c27b1 : (t184 != a1) = true := bne_iff_ne.mpr c27
                                      simp only [Option.some.injEq, Prod.mk.injEq] at H
                                      obtain ⟨rfl, rfl⟩ := H
                                      go_wp2
                                      go_ret2
                                      exact ⟨by first | rfl | (simp [errW_none, errW_some] <;> rfl) | (simp [*, errW_none, errW_some] <;> rfl), by repeat (first | (with_reducible first | exact HB.out | apply below_alloc | apply pw_below_drewN | apply below_drew1) | exact HB.out)⟩
                                  · rw [if_neg c26] at H
                                    have c26b0 : (t183 == a0) = false := beq_eq_false_iff_ne.mpr c26
                                    have c26b1 : (t183 != a0) = true := bne_iff_ne.mpr c26
                                    simp only [Option.some.injEq, Prod.mk.injEq] at H
                                    obtain ⟨rfl, rfl⟩ := H
                                    go_wp2
                                    go_ret2
                                    exact ⟨by first | rfl | (simp [errW_none, errW_some] <;> rfl) | (simp [*, errW_none, errW_some] <;> rfl), by repeat (first | (with_reducible first | exact HB.out | apply below_alloc | apply pw_below_drewN | apply below_drew1) | exact HB.out)⟩
                          · rw [if_neg c20] at H
                            exact absurd H (by simp)
                        · rw [if_neg c19] at H
                          exact absurd H (by simp)
                · rw [if_neg c14] at H
                  exact absurd H (by simp)
              · rw [if_neg c13] at H
                exact absurd H (by simp)
            · rw [if_neg c11] at H
              exact absurd H (by simp)
          · rw [if_neg c10] at H
            exact absurd H (by simp)
        · rw [if_neg c8] at H
          exact absurd H (by simp)
      · rw [if_neg c7] at H
        exact absurd H (by simp)
    · rw [if_neg c6] at H
      have c6b0 : ((a2.size : Int) == 64) = false := beq_eq_false_iff_ne.mpr c6
      have c6b1 : ((a2.size : Int) != 64) = true := bne_iff_ne.mpr c6
      simp only [Option.some.injEq, Prod.mk.injEq] at H
      obtain ⟨rfl, rfl⟩ := H
      go_enter Tryd.func14, Tryd.ntmps14
      go_wp2_with (first | ((with_reducible refine gate_callee (f := 24) rfl ?_); refine goesL_ (some 16) rfl rfl Tryd.func24 (by kernel_rfl) rfl #[.int .i64 a0, .int .i64 a1] rfl (by (try simp only [List.map_toArray, List.map_cons, List.map_nil]); first | done | rfl | (simp only [List.length_drop, List.length_take]; rfl)) ?_; (with_reducible refine (cleanseref45_Placed.calls a0 a1 true _ A4.out).mono ?_); rintro e w' ⟨rfl, ⟨nd, rfl⟩⟩; refine ⟨_, rfl, ?_⟩))
      go_ret2
      exact ⟨by first | rfl | (simp [errW_none, errW_some] <;> rfl) | (simp [*, errW_none, errW_some] <;> rfl), by repeat (first | (with_reducible first | exact HB.out | apply below_alloc | apply pw_below_drewN | apply below_drew1) | exact HB.out)⟩
  · replace c5 := Bool.eq_false_iff.mpr c5
    subst c5
    have H1 : (some ((⟨#[]⟩ : ByteArray), 1)) = some (r1, r2) := by rw [if_neg (show ¬ (false = true) by decide)] at H; exact H
    clear H
    have H := H1
    clear H1
    simp only [Option.some.injEq, Prod.mk.injEq] at H
    obtain ⟨rfl, rfl⟩ := H
    go_enter Tryd.func14, Tryd.ntmps14
    go_wp2_with (first | ((with_reducible refine gate_callee (f := 24) rfl ?_); refine goesL_ (some 16) rfl rfl Tryd.func24 (by kernel_rfl) rfl #[.int .i64 a0, .int .i64 a1] rfl (by (try simp only [List.map_toArray, List.map_cons, List.map_nil]); first | done | rfl | (simp only [List.length_drop, List.length_take]; rfl)) ?_; (with_reducible refine (cleanseref45_Placed.calls a0 a1 false _ A4.out).mono ?_); rintro e w' ⟨rfl, ⟨nd, rfl⟩⟩; refine ⟨_, rfl, ?_⟩))
    go_ret2
    exact ⟨by first | rfl | (simp [errW_none, errW_some] <;> rfl) | (simp [*, errW_none, errW_some] <;> rfl), by repeat (first | (with_reducible first | exact HB.out | apply below_alloc | apply pw_below_drewN | apply below_drew1) | exact HB.out)⟩

-- BY HAND: function 32 (X.cleanseref15_Decimal)

/-! ### cleanseref45_Split: function 21 -/
def cleanseref45_Split.l0 : Nat → ByteArray → List ByteArray → Option (List ByteArray)
  | 0, _, _ => none
  | k + 1, x3, x4 => if (x3.size : Int) > 40 then (if 0 ≤ 40 then (if 40 ≤ (x3.size : Int) then (if x4.length < 8796093022208 then (cleanseref45_Split.l0 k (x3.extract 40 x3.size) (x4 ++ [x3.extract 0 40])) else (none)) else (none)) else (none)) else (if x4.length < 8796093022208 then (some (x4 ++ [x3])) else (none))
def cleanseref45_Split.f (k : Nat) (a0 : ByteArray) : Option (List ByteArray) := (X.cleanseref15_Decimal.f (a0.size : Int)).bind fun t188 => (if t188.size + 1 ≤ 9223372036854775807 then (if (t188 ++ (⟨#[58]⟩ : ByteArray)).size + a0.size ≤ 9223372036854775807 then (cleanseref45_Split.l0 k ((t188 ++ (⟨#[58]⟩ : ByteArray)) ++ a0) ([] : List ByteArray)) else (none)) else (none))
theorem cleanseref45_Split.mono_l : ∀ k, (∀ y0 y1, LeO (cleanseref45_Split.l0 k y0 y1) (cleanseref45_Split.l0 (k + 1) y0 y1))
  | 0 => fun _ _ r h => by simp [cleanseref45_Split.l0] at h
  | k + 1 => by
    have ih0 := cleanseref45_Split.mono_l k
    · intro y0 y1
      unfold cleanseref45_Split.l0
      repeat' first
      | (with_reducible exact ih0 _ _)
      | (with_reducible exact LeO.refl _)
      | (with_reducible exact LeO.none _)
      | (with_reducible refine LeO.ite ?_ ?_)
      | (with_reducible refine LeO.bind ?_ (fun _ => ?_))
      | exact ih0 _ _
      | exact LeO.none _
      | refine LeO.ite ?_ ?_
      | refine LeO.bind ?_ (fun _ => ?_)
theorem cleanseref45_Split.mono : ∀ a0 k, LeO (cleanseref45_Split.f k a0) (cleanseref45_Split.f (k + 1) a0) := by
  intro a0 k
  have ih0 := cleanseref45_Split.mono_l k
  unfold cleanseref45_Split.f
  repeat' first
      | (with_reducible exact ih0 _ _)
      | (with_reducible exact LeO.refl _)
      | (with_reducible exact LeO.none _)
      | (with_reducible refine LeO.ite ?_ ?_)
      | (with_reducible refine LeO.bind ?_ (fun _ => ?_))
      | exact ih0 _ _
      | exact LeO.none _
      | refine LeO.ite ?_ ?_
      | refine LeO.bind ?_ (fun _ => ?_)
set_option maxHeartbeats 8000000 in
set_option maxRecDepth 100000 in
theorem cleanseref45_Split.calls (k : Nat) (a0 : ByteArray) (r : List ByteArray) (w : World) (h : cleanseref45_Split.f k a0 = some r) :
    Calls Tryd.prog 21 #[.string a0] w fun e w' => ∃ v0_ : Value, e = .returned (v0_) ∧ Kd.R Kd.string 9 w' w.heap.size (fun _ => True) v0_ r ∧ Below w.heap.size w w' := by
  have HB := Aside0.mk (Below.refl w.heap.size w)
  have H : ((X.cleanseref15_Decimal.f (a0.size : Int)).bind fun t188 => (if t188.size + 1 ≤ 9223372036854775807 then (if (t188 ++ (⟨#[58]⟩ : ByteArray)).size + a0.size ≤ 9223372036854775807 then (cleanseref45_Split.l0 k ((t188 ++ (⟨#[58]⟩ : ByteArray)) ++ a0) ([] : List ByteArray)) else (none)) else (none))) = some r := h
  clear h
  replace H := Option.bind_eq_some_iff.mp H
  obtain ⟨t188, A20, H⟩ := H
  replace H : (if t188.size + 1 ≤ 9223372036854775807 then (if (t188 ++ (⟨#[58]⟩ : ByteArray)).size + a0.size ≤ 9223372036854775807 then (cleanseref45_Split.l0 k ((t188 ++ (⟨#[58]⟩ : ByteArray)) ++ a0) ([] : List ByteArray)) else (none)) else (none)) = some r := H
  have A2 := Aside0.mk A20
  clear A20
  by_cases c3 : t188.size + 1 ≤ 9223372036854775807
  · rw [if_pos c3] at H
    have c3b0 := eq_true c3
    have c3b1 : decide (t188.size + 1 ≤ 9223372036854775807) = true := decide_eq_true c3
    try have c3b2 : (9223372036854775807 < t188.size + 1) = False := eq_false (Nat.not_lt.2 c3)
    by_cases c4 : (t188 ++ (⟨#[58]⟩ : ByteArray)).size + a0.size ≤ 9223372036854775807
    · rw [if_pos c4] at H
      have c4b0 := eq_true c4
      have c4b1 : decide ((t188 ++ (⟨#[58]⟩ : ByteArray)).size + a0.size ≤ 9223372036854775807) = true := decide_eq_true c4
      try have c4b2 : (9223372036854775807 < (t188 ++ (⟨#[58]⟩ : ByteArray)).size + a0.size) = False := eq_false (Nat.not_lt.2 c4)
      try have c4b3 : (9223372036854775807 < t188.size + 1 + a0.size) = False := by (have h_ := c4b2; simp only [ByteArray.size_append] at h_; exact h_)
      have H' := Aside0.mk H
      clear H
      go_enter Tryd.func21, Tryd.ntmps21
      go_wp2_with (first | ((with_reducible refine gate_callee (f := 32) rfl ?_); refine goesL_ (some 7) rfl rfl Tryd.func32 (by kernel_rfl) rfl #[.int .i64 (a0.size : Int)] rfl (by (try simp only [List.map_toArray, List.map_cons, List.map_nil]); first | done | rfl | (simp only [List.length_drop, List.length_take]; rfl)) ?_; (with_reducible refine (X.cleanseref15_Decimal.calls (a0.size : Int) t188 _ A2.out).mono ?_); rintro e w' ⟨rfl, ⟨nd, rfl⟩⟩; refine ⟨_, rfl, ?_⟩))
      go_loopg [3, 4] k (fun kq v3 v4 w' => ∃ (x3_1 : ByteArray) (x4_1 : List ByteArray), v3 = .string x3_1 ∧ Aside0 (cleanseref45_Split.l0 kq x3_1 x4_1 = some r) ∧ Aside0 (kq ≤ k) ∧ Aside0 (Kd.R Kd.string 9 w' w.heap.size (fun _ => True) v4 x4_1) ∧ Aside0 (Below w.heap.size w w'))
      case atStart => exact ⟨((t188 ++ (⟨#[58]⟩ : ByteArray)) ++ a0), (([] : List ByteArray)), (by first | rfl | (simp; done) | (simp [*]; done)), H', ⟨Nat.le_refl _⟩, ⟨by first | exact Kd.R_nil _ _ _ _ _ | exact Kd.N_nil _ _ _ _ _ | exact Kd.V_nil _ _ _ _ _ | exact Kd.Q_nil _ _ _ _ _ | exact Kd.S_nil _ _ _ _ _⟩, ⟨by repeat (first | (with_reducible first | exact HB.out | apply below_alloc | apply pw_below_drewN | apply below_drew1) | exact HB.out)⟩⟩
      case round =>
        clear H'
        try clear c2
        try clear p2
        try clear c3
        try clear c3b0
        try clear c3b1
        try clear c3b2
        try clear c4
        try clear c4b0
        try clear c4b1
        try clear c4b2
        obtain ⟨x3_1, x4_1, rfl, HA, HK1, HO_4, HB⟩ := hrel
        cases gk with
        | zero => exact absurd HA.out (by simp [cleanseref45_Split.l0])
        | succ k1 =>
          have H := HA.out
          clear HA
          simp only [cleanseref45_Split.l0] at H
          by_cases c5 : (x3_1.size : Int) > 40
          · rw [if_pos c5] at H
            have c5b0 : decide (40 < (x3_1.size : Int)) = true := decide_eq_true c5
            have c5b1 : decide (40 < x3_1.size) = true := decide_eq_true (by omega)
            clear c5
            by_cases c6 : 0 ≤ 40
            · rw [if_pos c6] at H
              have c6b0 := eq_true c6
              have c6b1 : decide (0 ≤ 40) = true := decide_eq_true c6
              clear c6
              by_cases c7 : 40 ≤ (x3_1.size : Int)
              · rw [if_pos c7] at H
                have c7b0 := eq_true c7
                have c7b1 : decide (40 ≤ (x3_1.size : Int)) = true := decide_eq_true c7
                clear c7
                by_cases c8 : x4_1.length < 8796093022208
                · rw [if_pos c8] at H
                  have LMc8 := Aside0.mk c8
                  clear c8
                  obtain ⟨y189, hy189⟩ : ∃ y_ : List ByteArray, y_ = (x4_1 ++ [x3_1.extract 0 40]) := ⟨_, rfl⟩
                  replace H : (cleanseref45_Split.l0 k1 (x3_1.extract 40 x3_1.size) y189) = some r := by first | (rw [hy189]; with_reducible exact H) | (have H2_ := (Option.bind_some _ _).symm.trans H; rw [hy189]; with_reducible exact H2_) | (have H2_ := (Option.bind_some _ _).symm.trans H; with_reducible exact H2_) | with_reducible exact H | (rw [hy189]; exact H) | exact H
                  have Ny189 := Aside0.mk hy189
                  clear hy189
                  have c9b0 := eq_true (of_decide_eq_true (by first | (with_reducible assumption) | assumption) : 40 ≤ (x3_1.size : Int))
                  have H' := Aside0.mk H
                  clear H
                  go_wp2_with (first | ((with_reducible refine gate_builtin (b := .append) (xs := #[.tmp 14, .tmp 17]) rfl ?_); at_builtin; refine Kd.R_append Kd.string (w0 := w) w.heap.size rfl (.tmp 14) (.tmp 17) 22 9 (.string ⟨#[]⟩) 16 rfl Tryd.underlying22 info9 rfl (by decide) (by omega) u4 x4_1 (x3_1.extract 0 40) [.string (x3_1.extract 0 40)] (fun _ => True) (fun _ => False) rfl rfl ?aP (fun _ hk => hk.elim) ?aF ?aO ?aB ?aS ?aL ?_; (case aP => exact rfl); (case aB => exact (by repeat (first | (with_reducible first | exact HB.out | apply below_alloc | apply pw_below_drewN | apply below_drew1) | exact HB.out))); (case aF => exact (fun _ _ => trivial)); (case aO => exact (by (with_reducible repeat (first | apply Kd.R_alloc | apply Kd.R_drewN | apply Kd.R_drew)); exact HO_4.out)); (case aS => exact (below_size (by repeat (first | (with_reducible first | exact HB.out | apply below_alloc | apply pw_below_drewN | apply below_drew1) | exact HB.out)))); (case aL => have := LMc8.out; omega); intro v190 w10 ho hb hg hat; rw [← Ny189.out] at ho; have n0_ := Aside0.mk (hb); have n1_ := Aside0.mk (ho); clear HB; clear HO_4; have HB := n0_; have HO191 := n1_; clear n0_ n1_; clear ho hb hg hat))
                  go_roundg k1
                  case measure => have := HK1.out; omega
                  case rel => exact ⟨(x3_1.extract 40 x3_1.size), (y189), (by first | rfl | (simp; done) | (simp [*]; done)), H', ⟨by have := HK1.out; omega⟩, ⟨by (with_reducible repeat (first | apply Kd.R_alloc | apply Kd.R_drewN | apply Kd.R_drew)); exact HO191.out⟩, ⟨by repeat (first | (with_reducible first | exact HB.out | apply below_alloc | apply pw_below_drewN | apply below_drew1) | exact HB.out)⟩⟩
                · rw [if_neg c8] at H
                  exact absurd H (by simp)
              · rw [if_neg c7] at H
                exact absurd H (by simp)
            · rw [if_neg c6] at H
              exact absurd H (by simp)
          · rw [if_neg c5] at H
            have c5b0 : decide (40 < (x3_1.size : Int)) = false := decide_eq_false c5
            have c5b1 : decide (40 < x3_1.size) = false := decide_eq_false (by omega)
            clear c5
            by_cases c11 : x4_1.length < 8796093022208
            · rw [if_pos c11] at H
              have LMc11 := Aside0.mk c11
              clear c11
              obtain ⟨y192, hy192⟩ : ∃ y_ : List ByteArray, y_ = (x4_1 ++ [x3_1]) := ⟨_, rfl⟩
              replace H : (some y192) = some r := by first | (rw [hy192]; with_reducible exact H) | (have H2_ := (Option.bind_some _ _).symm.trans H; rw [hy192]; with_reducible exact H2_) | (have H2_ := (Option.bind_some _ _).symm.trans H; with_reducible exact H2_) | with_reducible exact H | (rw [hy192]; exact H) | exact H
              have Ny192 := Aside0.mk hy192
              clear hy192
              obtain rfl := Option.some.inj H
              go_wp2_with (first | ((with_reducible refine gate_builtin (b := .append) (xs := #[.tmp 21, .tmp 23]) rfl ?_); at_builtin; refine Kd.R_append Kd.string (w0 := w) w.heap.size rfl (.tmp 21) (.tmp 23) 22 9 (.string ⟨#[]⟩) 16 rfl Tryd.underlying22 info9 rfl (by decide) (by omega) u4 x4_1 x3_1 [.string x3_1] (fun _ => True) (fun _ => False) rfl rfl ?aP (fun _ hk => hk.elim) ?aF ?aO ?aB ?aS ?aL ?_; (case aP => exact rfl); (case aB => exact (by repeat (first | (with_reducible first | exact HB.out | apply below_alloc | apply pw_below_drewN | apply below_drew1) | exact HB.out))); (case aF => exact (fun _ _ => trivial)); (case aO => exact (by (with_reducible repeat (first | apply Kd.R_alloc | apply Kd.R_drewN | apply Kd.R_drew)); exact HO_4.out)); (case aS => exact (below_size (by repeat (first | (with_reducible first | exact HB.out | apply below_alloc | apply pw_below_drewN | apply below_drew1) | exact HB.out)))); (case aL => have := LMc11.out; omega); intro v193 w12 ho hb hg hat; rw [← Ny192.out] at ho; have n0_ := Aside0.mk (hb); have n1_ := Aside0.mk (ho); clear HB; clear HO_4; have HB := n0_; have HO194 := n1_; clear n0_ n1_; clear ho hb hg hat))
              go_ret
              exact ⟨_, by first | rfl | (simp [errW_none, errW_some] <;> rfl) | (simp [*, errW_none, errW_some] <;> rfl), by (with_reducible repeat (first | apply Kd.R_alloc | apply Kd.R_drewN | apply Kd.R_drew)); exact HO194.out, by repeat (first | (with_reducible first | exact HB.out | apply below_alloc | apply pw_below_drewN | apply below_drew1) | exact HB.out)⟩
            · rw [if_neg c11] at H
              exact absurd H (by simp)
    · rw [if_neg c4] at H
      exact absurd H (by simp)
  · rw [if_neg c3] at H
    exact absurd H (by simp)

/-! ### cleanseref45_Join: function 16 -/
mutual
def cleanseref45_Join.l0 : Nat → List ByteArray → ByteArray → Int → Option (ByteArray × Int)
  | 0, _, _, _ => none
  | k + 1, x0, x4, x5 => if x5 < (x0.length : Int) then (if 0 ≤ x5 then (if x4.size + (rdOf ByteArray.empty x0 x5).size ≤ 9223372036854775807 then (cleanseref45_Join.l0 k x0 (x4 ++ (rdOf ByteArray.empty x0 x5)) (wrap64 (x5 + 1))) else (none)) else (none)) else (cleanseref45_Join.l1 k x0 x4 0)
def cleanseref45_Join.l1 : Nat → List ByteArray → ByteArray → Int → Option (ByteArray × Int)
  | 0, _, _, _ => none
  | k + 1, x0, x4, x6 => if x6 < (x4.size : Int) then (cleanseref45_Join.j2 k x0 x4 x6 (decide (x6 < 20))) else (cleanseref45_Join.j2 k x0 x4 x6 false)
def cleanseref45_Join.j2 : Nat → List ByteArray → ByteArray → Int → Bool → Option (ByteArray × Int)
  | 0, _, _, _, _ => none
  | k + 1, x0, x4, x6, x26 => if x26 = true then (if 0 ≤ x6 then (if x6 < (x4.size : Int) then (if (bt x4 x6) = 58 then (if 0 ≤ (wrap64 (x6 + 1)) then (if (wrap64 (x6 + 1)) ≤ (x4.size : Int) then ((cleanseref45_Split.f k (x4.extract ((wrap64 (x6 + 1)) : Int).toNat x4.size)).bind fun t196 => ((cleanseref45_Same.f k t196 x0).bind fun t199 => (if t199 = true then (some (x4.extract ((wrap64 (x6 + 1)) : Int).toNat x4.size, 0)) else (cleanseref45_Join.l1 k x0 x4 (wrap64 (x6 + 1)))))) else (none)) else (none)) else (cleanseref45_Join.l1 k x0 x4 (wrap64 (x6 + 1)))) else (none)) else (none)) else (some ((⟨#[]⟩ : ByteArray), 4))
end
def cleanseref45_Join.f (k : Nat) (l0 : List ByteArray) : Option (ByteArray × Int) := cleanseref45_Join.l0 k l0 (⟨#[]⟩ : ByteArray) 0
theorem cleanseref45_Join.mono_l : ∀ k, (∀ y0 y1 y2, LeO (cleanseref45_Join.l0 k y0 y1 y2) (cleanseref45_Join.l0 (k + 1) y0 y1 y2)) ∧ (∀ y0 y1 y2, LeO (cleanseref45_Join.l1 k y0 y1 y2) (cleanseref45_Join.l1 (k + 1) y0 y1 y2)) ∧ (∀ y0 y1 y2 y3, LeO (cleanseref45_Join.j2 k y0 y1 y2 y3) (cleanseref45_Join.j2 (k + 1) y0 y1 y2 y3))
  | 0 => ⟨fun _ _ _ r h => by simp [cleanseref45_Join.l0] at h, fun _ _ _ r h => by simp [cleanseref45_Join.l1] at h, fun _ _ _ _ r h => by simp [cleanseref45_Join.j2] at h⟩
  | k + 1 => by
    obtain ⟨ih0, ih1, ih2⟩ := cleanseref45_Join.mono_l k
    refine ⟨?_, ?_, ?_⟩
    · intro y0 y1 y2
      unfold cleanseref45_Join.l0
      repeat' first
      | (with_reducible exact ih0 _ _ _)
      | (with_reducible exact ih1 _ _ _)
      | (with_reducible exact ih2 _ _ _ _)
      | (with_reducible exact cleanseref45_Same.mono _ _ _)
      | (with_reducible exact cleanseref45_Split.mono _ _)
      | (with_reducible exact LeO.refl _)
      | (with_reducible exact LeO.none _)
      | (with_reducible refine LeO.ite ?_ ?_)
      | (with_reducible refine LeO.bind ?_ (fun _ => ?_))
      | exact ih0 _ _ _
      | exact ih1 _ _ _
      | exact ih2 _ _ _ _
      | exact cleanseref45_Same.mono _ _ _
      | exact cleanseref45_Split.mono _ _
      | exact LeO.none _
      | refine LeO.ite ?_ ?_
      | refine LeO.bind ?_ (fun _ => ?_)
    · intro y0 y1 y2
      unfold cleanseref45_Join.l1
      repeat' first
      | (with_reducible exact ih0 _ _ _)
      | (with_reducible exact ih1 _ _ _)
      | (with_reducible exact ih2 _ _ _ _)
      | (with_reducible exact cleanseref45_Same.mono _ _ _)
      | (with_reducible exact cleanseref45_Split.mono _ _)
      | (with_reducible exact LeO.refl _)
      | (with_reducible exact LeO.none _)
      | (with_reducible refine LeO.ite ?_ ?_)
      | (with_reducible refine LeO.bind ?_ (fun _ => ?_))
      | exact ih0 _ _ _
      | exact ih1 _ _ _
      | exact ih2 _ _ _ _
      | exact cleanseref45_Same.mono _ _ _
      | exact cleanseref45_Split.mono _ _
      | exact LeO.none _
      | refine LeO.ite ?_ ?_
      | refine LeO.bind ?_ (fun _ => ?_)
    · intro y0 y1 y2 y3
      unfold cleanseref45_Join.j2
      repeat' first
      | (with_reducible exact ih0 _ _ _)
      | (with_reducible exact ih1 _ _ _)
      | (with_reducible exact ih2 _ _ _ _)
      | (with_reducible exact cleanseref45_Same.mono _ _ _)
      | (with_reducible exact cleanseref45_Split.mono _ _)
      | (with_reducible exact LeO.refl _)
      | (with_reducible exact LeO.none _)
      | (with_reducible refine LeO.ite ?_ ?_)
      | (with_reducible refine LeO.bind ?_ (fun _ => ?_))
      | exact ih0 _ _ _
      | exact ih1 _ _ _
      | exact ih2 _ _ _ _
      | exact cleanseref45_Same.mono _ _ _
      | exact cleanseref45_Split.mono _ _
      | exact LeO.none _
      | refine LeO.ite ?_ ?_
      | refine LeO.bind ?_ (fun _ => ?_)
theorem cleanseref45_Join.mono : ∀ a0 k, LeO (cleanseref45_Join.f k a0) (cleanseref45_Join.f (k + 1) a0) := by
  intro a0 k
  obtain ⟨ih0, ih1, ih2⟩ := cleanseref45_Join.mono_l k
  unfold cleanseref45_Join.f
  repeat' first
      | (with_reducible exact ih0 _ _ _)
      | (with_reducible exact ih1 _ _ _)
      | (with_reducible exact ih2 _ _ _ _)
      | (with_reducible exact cleanseref45_Same.mono _ _ _)
      | (with_reducible exact cleanseref45_Split.mono _ _)
      | (with_reducible exact LeO.refl _)
      | (with_reducible exact LeO.none _)
      | (with_reducible refine LeO.ite ?_ ?_)
      | (with_reducible refine LeO.bind ?_ (fun _ => ?_))
      | exact ih0 _ _ _
      | exact ih1 _ _ _
      | exact ih2 _ _ _ _
      | exact cleanseref45_Same.mono _ _ _
      | exact cleanseref45_Split.mono _ _
      | exact LeO.none _
      | refine LeO.ite ?_ ?_
      | refine LeO.bind ?_ (fun _ => ?_)
set_option maxHeartbeats 8000000 in
set_option maxRecDepth 100000 in
theorem cleanseref45_Join.calls (k : Nat) (A0 : Option Addr) (c0 : Nat) (l0 : List ByteArray) (r1 : ByteArray) (r2 : Int) (w : World) (hr0 : Kd.C Kd.string w A0 l0.length l0) (hc0 : l0.length ≤ c0) (h : cleanseref45_Join.f k l0 = some (r1, r2)) :
    Calls Tryd.prog 16 #[.slice A0 l0.length c0] w fun e w' => e = .returned (.tuple #[.string r1, .int .i64 r2]) ∧ Below w.heap.size w w' := by
  have HR0 := Aside0.mk hr0
  have HC0 := Aside0.mk hc0
  clear hr0 hc0
  have HB := Aside0.mk (Below.refl w.heap.size w)
  have H : (cleanseref45_Join.l0 k l0 (⟨#[]⟩ : ByteArray) 0) = some (r1, r2) := h
  clear h
  have H' := Aside0.mk H
  clear H
  go_enter Tryd.func16, Tryd.ntmps16
  go_wp2
  go_loopg [4, 5] k (fun kq v4 v5 w' => ∃ (x4_1 : ByteArray) (x5_1 : Int), v4 = .string x4_1 ∧ v5 = .int .i64 x5_1 ∧ Aside0 (cleanseref45_Join.l0 kq l0 x4_1 x5_1 = some (r1, r2)) ∧ Aside0 (kq ≤ k) ∧ Aside0 (Below w.heap.size w w'))
  case atStart => exact ⟨((⟨#[]⟩ : ByteArray)), (0), (by first | rfl | (simp; done) | (simp [*]; done)), (by first | rfl | (simp; done) | (simp [*]; done)), H', ⟨Nat.le_refl _⟩, ⟨by repeat (first | (with_reducible first | exact HB.out | apply below_alloc | apply pw_below_drewN | apply below_drew1) | exact HB.out)⟩⟩
  case round =>
    clear H'
    try clear c1
    obtain ⟨x4_1, x5_1, rfl, rfl, HA, HK1, HB⟩ := hrel
    cases gk with
    | zero => exact absurd HA.out (by simp [cleanseref45_Join.l0])
    | succ k1 =>
      have H := HA.out
      clear HA
      simp only [cleanseref45_Join.l0] at H
      by_cases c2 : x5_1 < (l0.length : Int)
      · rw [if_pos c2] at H
        have c2b0 : decide (x5_1 < (l0.length : Int)) = true := decide_eq_true c2
        clear c2
        by_cases c3 : 0 ≤ x5_1
        · rw [if_pos c3] at H
          have c3b0 : decide (0 ≤ x5_1) = true := decide_eq_true c3
          clear c3
          by_cases c4 : x4_1.size + (rdOf ByteArray.empty l0 x5_1).size ≤ 9223372036854775807
          · rw [if_pos c4] at H
            have c4b0 := eq_true c4
            have c4b1 : decide (x4_1.size + (rdOf ByteArray.empty l0 x5_1).size ≤ 9223372036854775807) = true := decide_eq_true c4
            try have c4b2 : (9223372036854775807 < x4_1.size + (rdOf ByteArray.empty l0 x5_1).size) = False := eq_false (Nat.not_lt.2 c4)
            have H' := Aside0.mk H
            clear H
            have p195 : 0 ≤ (x5_1 : Int) := of_decide_eq_true (by first | (with_reducible assumption) | assumption)
            have q195 : x5_1 < (l0.length : Int) := of_decide_eq_true (by first | (with_reducible assumption) | assumption)
            obtain ⟨ad195, e195, hx195_0⟩ := Kd.at_string HR0.out x5_1 p195 q195
            cases e195
            replace hx195_0 := (HB.out.cell (World.block_lt_of_cell? w _ hx195_0)).trans hx195_0
            replace p195 := eq_true p195
            replace q195 := eq_true q195
            go_wp2
            go_roundg k1
            case measure => have := HK1.out; omega
            case rel => exact ⟨(x4_1 ++ (rdOf ByteArray.empty l0 x5_1)), (wrap64 (x5_1 + 1)), (by first | rfl | (simp; done) | (simp [*]; done)), (by first | rfl | (simp; done) | (simp [*]; done)), H', ⟨by have := HK1.out; omega⟩, ⟨by repeat (first | (with_reducible first | exact HB.out | apply below_alloc | apply pw_below_drewN | apply below_drew1) | exact HB.out)⟩⟩
          · rw [if_neg c4] at H
            exact absurd H (by simp)
        · rw [if_neg c3] at H
          exact absurd H (by simp)
      · rw [if_neg c2] at H
        have c2b0 : decide (x5_1 < (l0.length : Int)) = false := decide_eq_false c2
        clear c2
        have H' := Aside0.mk H
        clear H
        go_wp2
        go_loopg [6] k1 (fun kq v6 w' => ∃ (x6_2 : Int), v6 = .int .i64 x6_2 ∧ Aside0 (cleanseref45_Join.l1 kq l0 x4_1 x6_2 = some (r1, r2)) ∧ Aside0 (kq ≤ k1) ∧ Aside0 (Below w.heap.size w w'))
        case atStart => exact ⟨(0), (by first | rfl | (simp; done) | (simp [*]; done)), H', ⟨Nat.le_refl _⟩, ⟨by repeat (first | (with_reducible first | exact HB.out | apply below_alloc | apply pw_below_drewN | apply below_drew1) | exact HB.out)⟩⟩
        case round =>
          clear H'
          try clear c1
          try clear p1
          try clear q1
          try clear hx1
          try clear c2
          try clear c2b0
          try clear p2
          try clear c3
          try clear c3b0
          try clear c4
          try clear c4b0
          try clear c4b1
          try clear c4b2
          try clear hx195_0
          try clear p195
          try clear q195
          obtain ⟨x6_2, rfl, HA, HK2, HB⟩ := hrel
          cases gk with
          | zero => exact absurd HA.out (by simp [cleanseref45_Join.l1])
          | succ k2 =>
            have H := HA.out
            clear HA
            simp only [cleanseref45_Join.l1] at H
            have HC5 := Aside0.mk H
            clear H
            go_upto_region 7 with (fail)
            go_cut [26] (fun v26 wc => ∃ (kq : Nat) (x26_4 : Bool), v26 = .bool x26_4 ∧ Aside0 (cleanseref45_Join.j2 kq l0 x4_1 x6_2 x26_4 = some (r1, r2)) ∧ Aside0 (kq ≤ k2) ∧ Aside0 (Below w.heap.size w wc))
            case first =>
              have H := HC5.out
              clear HC5
              by_cases c6 : x6_2 < (x4_1.size : Int)
              · rw [if_pos c6] at H
                have c6b0 : decide (x6_2 < (x4_1.size : Int)) = true := decide_eq_true c6
                clear c6
                (first | rw [c6b0] | (simp only [i64_w, i32_w]; rw [c6b0]) | skip)
                have H' := Aside0.mk H
                clear H
                go_wp2
                go_meet
                case rel => exact ⟨_, (decide (x6_2 < 20)), (by first | rfl | (simp; done) | (simp [*]; done)), H', ⟨by have := HK1.out; have := HK2.out; first | omega | exact Nat.le_refl _⟩, ⟨by repeat (first | (with_reducible first | exact HB.out | apply below_alloc | apply pw_below_drewN | apply below_drew1) | exact HB.out)⟩⟩
              · rw [if_neg c6] at H
                have c6b0 : decide (x6_2 < (x4_1.size : Int)) = false := decide_eq_false c6
                clear c6
                (first | rw [c6b0] | (simp only [i64_w, i32_w]; rw [c6b0]) | skip)
                have H' := Aside0.mk H
                clear H
                go_wp2
                go_meet
                case rel => exact ⟨_, (false), (by first | rfl | (simp; done) | (simp [*]; done)), H', ⟨by have := HK1.out; have := HK2.out; first | omega | exact Nat.le_refl _⟩, ⟨by repeat (first | (with_reducible first | exact HB.out | apply below_alloc | apply pw_below_drewN | apply below_drew1) | exact HB.out)⟩⟩
            case rest =>
              clear HC5
              try clear c1
              try clear p1
              try clear q1
              try clear hx1
              try clear c2
              try clear c2b0
              try clear p2
              try clear c3
              try clear c3b0
              try clear c4
              try clear c4b0
              try clear c4b1
              try clear c4b2
              try clear c6
              try clear c6b0
              try clear p6
              try clear hx195_0
              try clear p1
              try clear p195
              try clear p2
              try clear q1
              try clear q195
              obtain ⟨kq, x26_4, rfl, HA, HJ4, HB⟩ := hcut
              cases kq with
              | zero => exact absurd HA.out (by simp [cleanseref45_Join.j2])
              | succ kj4 =>
                have H := HA.out
                clear HA
                simp only [cleanseref45_Join.j2] at H
                by_cases c7 : x26_4 = true
                · subst c7
                  have H1 : (if 0 ≤ x6_2 then (if x6_2 < (x4_1.size : Int) then (if (bt x4_1 x6_2) = 58 then (if 0 ≤ (wrap64 (x6_2 + 1)) then (if (wrap64 (x6_2 + 1)) ≤ (x4_1.size : Int) then ((cleanseref45_Split.f kj4 (x4_1.extract ((wrap64 (x6_2 + 1)) : Int).toNat x4_1.size)).bind fun t196 => ((cleanseref45_Same.f kj4 t196 l0).bind fun t199 => (if t199 = true then (some (x4_1.extract ((wrap64 (x6_2 + 1)) : Int).toNat x4_1.size, 0)) else (cleanseref45_Join.l1 kj4 l0 x4_1 (wrap64 (x6_2 + 1)))))) else (none)) else (none)) else (cleanseref45_Join.l1 kj4 l0 x4_1 (wrap64 (x6_2 + 1)))) else (none)) else (none)) = some (r1, r2) := by rw [if_pos rfl] at H; exact H
                  clear H
                  have H := H1
                  clear H1
                  by_cases c8 : 0 ≤ x6_2
                  · rw [if_pos c8] at H
                    have c8b0 : decide (0 ≤ x6_2) = true := decide_eq_true c8
                    clear c8
                    by_cases c9 : x6_2 < (x4_1.size : Int)
                    · rw [if_pos c9] at H
                      have c9b0 : decide (x6_2 < (x4_1.size : Int)) = true := decide_eq_true c9
                      clear c9
                      by_cases c11 : (bt x4_1 x6_2) = 58
                      · rw [if_pos c11] at H
                        have c11b0 : ((bt x4_1 x6_2) == 58) = true := beq_iff_eq.mpr c11
                        have c11b1 : ((bt x4_1 x6_2) != 58) = false := bne_eq_false_iff_eq.mpr c11
                        clear c11
                        obtain ⟨ji12, hji12⟩ : ∃ j_ : Int, (wrap64 (x6_2 + 1)) = j_ := ⟨_, rfl⟩
                        replace H : (if 0 ≤ (ji12) then (if (ji12) ≤ (x4_1.size : Int) then ((cleanseref45_Split.f kj4 (x4_1.extract ((ji12) : Int).toNat x4_1.size)).bind fun t196 => ((cleanseref45_Same.f kj4 t196 l0).bind fun t199 => (if t199 = true then (some (x4_1.extract ((ji12) : Int).toNat x4_1.size, 0)) else (cleanseref45_Join.l1 kj4 l0 x4_1 ji12)))) else (none)) else (none)) = some (r1, r2) := by first | (rw [hji12] at H; exact H) | (simp only [hji12] at H ⊢; exact H)
                        have hji12w : (IntKind.i64.wrap (x6_2 + 1)) = ji12 := (i64_w _).trans hji12
                        by_cases c13 : 0 ≤ (ji12)
                        · rw [if_pos c13] at H
                          have c13b0 := eq_true c13
                          have c13b1 : decide (0 ≤ (ji12)) = true := decide_eq_true c13
                          clear c13
                          by_cases c14 : (ji12) ≤ (x4_1.size : Int)
                          · rw [if_pos c14] at H
                            have c14b0 := eq_true c14
                            have c14b1 : decide ((ji12) ≤ (x4_1.size : Int)) = true := decide_eq_true c14
                            clear c14
                            replace H := Option.bind_eq_some_iff.mp H
                            obtain ⟨t196, A150, H⟩ := H
                            replace H : ((cleanseref45_Same.f kj4 t196 l0).bind fun t199 => (if t199 = true then (some (x4_1.extract ((ji12) : Int).toNat x4_1.size, 0)) else (cleanseref45_Join.l1 kj4 l0 x4_1 ji12))) = some (r1, r2) := H
                            have A15 := Aside0.mk A150
                            clear A150
                            replace H := Option.bind_eq_some_iff.mp H
                            obtain ⟨t199, A160, H⟩ := H
                            replace H : (if t199 = true then (some (x4_1.extract ((ji12) : Int).toNat x4_1.size, 0)) else (cleanseref45_Join.l1 kj4 l0 x4_1 ji12)) = some (r1, r2) := H
                            have A16 := Aside0.mk A160
                            clear A160
                            by_cases c17 : t199 = true
                            · subst c17
                              have H1 : (some (x4_1.extract ((ji12) : Int).toNat x4_1.size, 0)) = some (r1, r2) := by rw [if_pos rfl] at H; exact H
                              clear H
                              have H := H1
                              clear H1
                              have c18b0 := eq_true (of_decide_eq_true (by first | (with_reducible assumption) | assumption) : 0 ≤ (ji12))
                              have c19b0 := eq_true (of_decide_eq_true (by first | (with_reducible assumption) | assumption) : (ji12) ≤ (x4_1.size : Int))
                              simp only [Option.some.injEq, Prod.mk.injEq] at H
                              obtain ⟨rfl, rfl⟩ := H
                              have p10 : 0 ≤ (x6_2 : Int) := of_decide_eq_true (by first | (with_reducible assumption) | assumption)
                              have q10 : x6_2 < (x4_1.size : Int) := of_decide_eq_true (by first | (with_reducible assumption) | assumption)
                              have hx10 := bt_at x4_1 x6_2
                              replace p10 := eq_true p10
                              replace q10 := eq_true q10
                              go_wp2_with (first | (go_at_call 21; (with_reducible refine (cleanseref45_Split.calls kj4 (x4_1.extract ((ji12) : Int).toNat x4_1.size) t196 _ A15.out).mono ?_); rintro e w20 ⟨v197, rfl, ho0, hb⟩; have n0_ := Aside0.mk (Kd.R_lower ho0 (below_size (by repeat (first | (with_reducible first | exact HB.out | apply below_alloc | apply pw_below_drewN | apply below_drew1) | exact HB.out)))); have n1_ := Aside0.mk (below_step (by repeat (first | (with_reducible first | exact HB.out | apply below_alloc | apply pw_below_drewN | apply below_drew1) | exact HB.out)) hb); clear HB; have HO198 := n0_; have HB := n1_; clear n0_ n1_; (try clear hb); (try clear hb2); (try clear hk); (try clear hi); (try clear ho0); obtain ⟨Ao21, co21, eo21⟩ := Kd.R_slice HO198.out; subst eo21) | (go_at_call 19; (with_reducible refine (cleanseref45_Same.calls kj4 _ _ t196 _ _ l0 true _ ?side1 ?side2 ?side3 ?side4 A16.out).mono ?_); (case side1 => repeat (first | exact (Kd.R_reads' HO198.out).2.2 | (with_reducible refine Kd.C_alloc ?_ _) | (with_reducible refine Kd.C_drewN ?_ _) | (with_reducible refine Kd.C_drew ?_))); (case side2 => exact (Kd.R_reads' HO198.out).2.1); (case side3 => repeat (first | exact (Kd.C_below HR0.out HB.out) | (with_reducible refine Kd.C_alloc ?_ _) | (with_reducible refine Kd.C_drewN ?_ _) | (with_reducible refine Kd.C_drew ?_))); (case side4 => exact HC0.out); rintro e w' ⟨rfl, ⟨nd, rfl⟩⟩))
                              go_ret2
                              exact ⟨by first | rfl | (simp [errW_none, errW_some] <;> rfl) | (simp only [← hji12]; first | rfl | (simp [errW_none, errW_some] <;> rfl)) | (simp [*, errW_none, errW_some] <;> rfl), by repeat (first | (with_reducible first | exact HB.out | apply below_alloc | apply pw_below_drewN | apply below_drew1) | exact HB.out)⟩
                            · replace c17 := Bool.eq_false_iff.mpr c17
                              subst c17
                              have H1 : (cleanseref45_Join.l1 kj4 l0 x4_1 ji12) = some (r1, r2) := by rw [if_neg (show ¬ (false = true) by decide)] at H; exact H
                              clear H
                              have H := H1
                              clear H1
                              have H' := Aside0.mk H
                              clear H
                              have p10 : 0 ≤ (x6_2 : Int) := of_decide_eq_true (by first | (with_reducible assumption) | assumption)
                              have q10 : x6_2 < (x4_1.size : Int) := of_decide_eq_true (by first | (with_reducible assumption) | assumption)
                              have hx10 := bt_at x4_1 x6_2
                              replace p10 := eq_true p10
                              replace q10 := eq_true q10
                              go_wp2_with (first | (go_at_call 21; (with_reducible refine (cleanseref45_Split.calls kj4 (x4_1.extract ((ji12) : Int).toNat x4_1.size) t196 _ A15.out).mono ?_); rintro e w22 ⟨v197, rfl, ho0, hb⟩; have n0_ := Aside0.mk (Kd.R_lower ho0 (below_size (by repeat (first | (with_reducible first | exact HB.out | apply below_alloc | apply pw_below_drewN | apply below_drew1) | exact HB.out)))); have n1_ := Aside0.mk (below_step (by repeat (first | (with_reducible first | exact HB.out | apply below_alloc | apply pw_below_drewN | apply below_drew1) | exact HB.out)) hb); clear HB; have HO198 := n0_; have HB := n1_; clear n0_ n1_; (try clear hb); (try clear hb2); (try clear hk); (try clear hi); (try clear ho0); obtain ⟨Ao23, co23, eo23⟩ := Kd.R_slice HO198.out; subst eo23) | (go_at_call 19; (with_reducible refine (cleanseref45_Same.calls kj4 _ _ t196 _ _ l0 false _ ?side1 ?side2 ?side3 ?side4 A16.out).mono ?_); (case side1 => repeat (first | exact (Kd.R_reads' HO198.out).2.2 | (with_reducible refine Kd.C_alloc ?_ _) | (with_reducible refine Kd.C_drewN ?_ _) | (with_reducible refine Kd.C_drew ?_))); (case side2 => exact (Kd.R_reads' HO198.out).2.1); (case side3 => repeat (first | exact (Kd.C_below HR0.out HB.out) | (with_reducible refine Kd.C_alloc ?_ _) | (with_reducible refine Kd.C_drewN ?_ _) | (with_reducible refine Kd.C_drew ?_))); (case side4 => exact HC0.out); rintro e w' ⟨rfl, ⟨nd, rfl⟩⟩))
                              go_roundg kj4
                              case measure => have := HK1.out; have := HK2.out; have := HJ4.out; omega
                              case rel => exact ⟨(ji12), (by first | rfl | (simp; done) | (simp only [← hji12] <;> (first | rfl | simp)) | (simp [*]; done)), H', ⟨by have := HK1.out; have := HK2.out; have := HJ4.out; omega⟩, ⟨by repeat (first | (with_reducible first | exact HB.out | apply below_alloc | apply pw_below_drewN | apply below_drew1) | exact HB.out)⟩⟩
                          · rw [if_neg c14] at H
                            exact absurd H (by simp)
                        · rw [if_neg c13] at H
                          exact absurd H (by simp)
                      · rw [if_neg c11] at H
                        have c11b0 : ((bt x4_1 x6_2) == 58) = false := beq_eq_false_iff_ne.mpr c11
                        have c11b1 : ((bt x4_1 x6_2) != 58) = true := bne_iff_ne.mpr c11
                        have H' := Aside0.mk H
                        clear H
                        have p10 : 0 ≤ (x6_2 : Int) := of_decide_eq_true (by first | (with_reducible assumption) | assumption)
                        have q10 : x6_2 < (x4_1.size : Int) := of_decide_eq_true (by first | (with_reducible assumption) | assumption)
                        have hx10 := bt_at x4_1 x6_2
                        replace p10 := eq_true p10
                        replace q10 := eq_true q10
                        go_wp2
                        go_roundg kj4
                        case measure => have := HK1.out; have := HK2.out; have := HJ4.out; omega
                        case rel => exact ⟨(wrap64 (x6_2 + 1)), (by first | rfl | (simp; done) | (simp [*]; done)), H', ⟨by have := HK1.out; have := HK2.out; have := HJ4.out; omega⟩, ⟨by repeat (first | (with_reducible first | exact HB.out | apply below_alloc | apply pw_below_drewN | apply below_drew1) | exact HB.out)⟩⟩
                    · rw [if_neg c9] at H
                      exact absurd H (by simp)
                  · rw [if_neg c8] at H
                    exact absurd H (by simp)
                · replace c7 := Bool.eq_false_iff.mpr c7
                  subst c7
                  have H1 : (some ((⟨#[]⟩ : ByteArray), 4)) = some (r1, r2) := by rw [if_neg (show ¬ (false = true) by decide)] at H; exact H
                  clear H
                  have H := H1
                  clear H1
                  simp only [Option.some.injEq, Prod.mk.injEq] at H
                  obtain ⟨rfl, rfl⟩ := H
                  go_wp2
                  go_ret2
                  exact ⟨by first | rfl | (simp [errW_none, errW_some] <;> rfl) | (simp [*, errW_none, errW_some] <;> rfl), by repeat (first | (with_reducible first | exact HB.out | apply below_alloc | apply pw_below_drewN | apply below_drew1) | exact HB.out)⟩

end Go.Proofs.YtgblfdfagppejaaDoor.Px
