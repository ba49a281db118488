/- The statement ValueShifts's way, walked. -/
import Derived.Test.YthgppbpmcjkadaaGreatDoorX10
import Derived.Test.YthgppbpmcjkadaaGreatDoorPlE
set_option linter.unusedVariables false
set_option linter.unusedSimpArgs false
namespace Go.Proofs.YthgppbpmcjkadaaGreatDoor.X
open Go.RowKit Go.Proofs.YthgppbpmcjkadaaGreatDoorW.PrintWords Go.Proofs.YthgppbpmcjkadaaGreatDoorW.PrintLast Go.Proofs.YthgppbpmcjkadaaGreatDoorW.PrintMore
attribute [local go_sem high] Px.eqA23

theorem test_num (op u v z : Int) (h0 : -1000000000 ≤ u) (h1 : u ≤ 1000000000) (h2 : -1000000000 ≤ v) (h3 : v ≤ 1000000000) : testZ 2 u (⟨#[]⟩ : ByteArray).data.toList op 2 v (⟨#[]⟩ : ByteArray).data.toList z = opB op (ordI (u - v) z) := by
  unfold testZ
  rw [if_pos ⟨.inr (.inr (.inl ⟨rfl, h0, h1, rfl⟩)), .inr (.inr (.inl ⟨rfl, h2, h3, rfl⟩)), rfl⟩, if_pos (.inl rfl)]
theorem tmod_bd (a : Int) : -400000000 ≤ Int.tmod a 400000001 ∧ Int.tmod a 400000001 ≤ 400000000 := by
  have h := Int.tmod_lt_of_pos a (b := 400000001) (by omega)
  have h2 := Int.lt_tmod_of_pos a (b := 400000001) (by omega)
  omega
theorem ord_shift (x y s d : Int) : ordI (x + s - (y + s)) d = ordI (x - y) d := by rw [show x + s - (y + s) = x - y by omega]
theorem ord_move (x y d : Int) : ordI (x - (y + d)) 0 = ordI (x - y) d := by
  unfold ordI
  (repeat' split) <;> omega
theorem less_most (x y d : Int) : opB 3 (ordI (x - y) d) = opB 4 (ordI (x - y) (d - 1)) := by
  have o3 : ∀ x, opB 3 x = decide (x < 0) := fun _ => rfl
  have o4 : ∀ x, opB 4 x = decide (x ≤ 0) := fun _ => rfl
  rw [o3, o4]
  unfold ordI
  (repeat' split) <;> first | rfl | (exfalso; omega)

set_option maxRecDepth 100000 in
set_option maxHeartbeats 4000000 in
theorem shifts_any (a0 a1 a2 a3 a4 : Int) (w : World) (hG : GT w) : Calls Tryz.prog 8 #[.int .i64 a0, .int .i64 a1, .int .i64 a2, .int .i64 a3, .int .i64 a4] w fun e w' => HeadPost w e w' := by
  have HG := Lib.hid hG
  clear hG
  have bx := tmod_bd a0
  have by' := tmod_bd a1
  have bd := tmod_bd a3
  have bs' := tmod_bd a4
  obtain ⟨bx0, bx1⟩ := bx
  obtain ⟨by0, by1⟩ := by'
  obtain ⟨bd0, bd1⟩ := bd
  obtain ⟨bs0, bs1⟩ := bs'
  have HB0 := Lib.hid (Below.refl w.heap.size w)
  go_enter Tryz.func8, Tryz.ntmps8
  go_wp2_with fail
  refine (cleanselaw02_head.calls true _ (GT.below HG.out HB0.out) rfl).mono ?_
  rintro e w1 ⟨rfl, hb⟩
  have HB1 := Lib.hid (HB0.out.trans (hb.mono HB0.out.size))
  clear hb
  go_wp2_with fail
  generalize Int.tmod a0 400000001 = x at *
  generalize Int.tmod a1 400000001 = y at *
  generalize Int.tmod a3 400000001 = d at *
  generalize Int.tmod a4 400000001 = s at *
  have HT1 := Lib.hid (show value_Test.f 2 x ⟨#[]⟩ a2 2 y ⟨#[]⟩ d = _ from congrArg some (test_num a2 x y d (by omega) (by omega) (by omega) (by omega)))
  have HT2 := Lib.hid (show value_Test.f 2 (x + s) ⟨#[]⟩ a2 2 (y + s) ⟨#[]⟩ d = _ from congrArg some ((test_num a2 (x + s) (y + s) d (by omega) (by omega) (by omega) (by omega)).trans (by rw [ord_shift])))
  have HT3 := Lib.hid (show value_Test.f 2 x ⟨#[]⟩ a2 2 (y + d) ⟨#[]⟩ 0 = _ from congrArg some ((test_num a2 x (y + d) 0 (by omega) (by omega) (by omega) (by omega)).trans (by rw [ord_move])))
  have HT4 := Lib.hid (show value_Test.f 2 x ⟨#[]⟩ 3 2 y ⟨#[]⟩ d = _ from congrArg some (test_num 3 x y d (by omega) (by omega) (by omega) (by omega)))
  have HT5 := Lib.hid (show value_Test.f 2 x ⟨#[]⟩ 4 2 y ⟨#[]⟩ (d - 1) = _ from congrArg some ((test_num 4 x y (d - 1) (by omega) (by omega) (by omega) (by omega)).trans (less_most x y d).symm))
  generalize opB a2 (ordI (x - y) d) = T at *
  generalize opB 3 (ordI (x - y) d) = U at *
  refine (Px.cleanselaw02_number.calls x 2 x ⟨#[]⟩ _ rfl).mono ?_
  rintro e w2 ⟨rfl, hb⟩
  have HB2 := Lib.hid (HB1.out.trans (hb.mono HB1.out.size))
  clear hb
  go_wp2_with fail
  refine (Px.cleanselaw02_number.calls y 2 y ⟨#[]⟩ _ rfl).mono ?_
  rintro e w3 ⟨rfl, hb⟩
  have HB3 := Lib.hid (HB2.out.trans (hb.mono HB2.out.size))
  clear hb
  go_wp2_with fail
  refine (value_Test.calls _ _ _ _ _ _ _ _ _ _ HT1.out).mono ?_
  rintro e w4 ⟨rfl, hb⟩
  have HB4 := Lib.hid (HB3.out.trans (hb.mono HB3.out.size))
  clear hb
  go_wp2_with fail
  refine (Px.cleanselaw02_number.calls (x + s) 2 (x + s) ⟨#[]⟩ _ rfl).mono ?_
  rintro e w5 ⟨rfl, hb⟩
  have HB5 := Lib.hid (HB4.out.trans (hb.mono HB4.out.size))
  clear hb
  go_wp2_with fail
  refine (Px.cleanselaw02_number.calls (y + s) 2 (y + s) ⟨#[]⟩ _ rfl).mono ?_
  rintro e w6 ⟨rfl, hb⟩
  have HB6 := Lib.hid (HB5.out.trans (hb.mono HB5.out.size))
  clear hb
  go_wp2_with fail
  refine (value_Test.calls _ _ _ _ _ _ _ _ _ _ HT2.out).mono ?_
  rintro e w7 ⟨rfl, hb⟩
  have HB7 := Lib.hid (HB6.out.trans (hb.mono HB6.out.size))
  clear hb
  go_wp2_with fail
  refine (Px.cleanselaw02_number.calls x 2 x ⟨#[]⟩ _ rfl).mono ?_
  rintro e w8 ⟨rfl, hb⟩
  have HB8 := Lib.hid (HB7.out.trans (hb.mono HB7.out.size))
  clear hb
  go_wp2_with fail
  refine (Px.cleanselaw02_number.calls (y + d) 2 (y + d) ⟨#[]⟩ _ rfl).mono ?_
  rintro e w9 ⟨rfl, hb⟩
  have HB9 := Lib.hid (HB8.out.trans (hb.mono HB8.out.size))
  clear hb
  go_wp2_with fail
  refine (value_Test.calls _ _ _ _ _ _ _ _ _ _ HT3.out).mono ?_
  rintro e w10 ⟨rfl, hb⟩
  have HB10 := Lib.hid (HB9.out.trans (hb.mono HB9.out.size))
  clear hb
  go_wp2_with fail
  refine (Px.cleanselaw02_number.calls x 2 x ⟨#[]⟩ _ rfl).mono ?_
  rintro e w11 ⟨rfl, hb⟩
  have HB11 := Lib.hid (HB10.out.trans (hb.mono HB10.out.size))
  clear hb
  go_wp2_with fail
  refine (Px.cleanselaw02_number.calls y 2 y ⟨#[]⟩ _ rfl).mono ?_
  rintro e w12 ⟨rfl, hb⟩
  have HB12 := Lib.hid (HB11.out.trans (hb.mono HB11.out.size))
  clear hb
  go_wp2_with fail
  refine (value_Test.calls _ _ _ _ _ _ _ _ _ _ HT4.out).mono ?_
  rintro e w13 ⟨rfl, hb⟩
  have HB13 := Lib.hid (HB12.out.trans (hb.mono HB12.out.size))
  clear hb
  go_wp2_with fail
  refine (Px.cleanselaw02_number.calls x 2 x ⟨#[]⟩ _ rfl).mono ?_
  rintro e w14 ⟨rfl, hb⟩
  have HB14 := Lib.hid (HB13.out.trans (hb.mono HB13.out.size))
  clear hb
  go_wp2_with fail
  refine (Px.cleanselaw02_number.calls y 2 y ⟨#[]⟩ _ rfl).mono ?_
  rintro e w15 ⟨rfl, hb⟩
  have HB15 := Lib.hid (HB14.out.trans (hb.mono HB14.out.size))
  clear hb
  go_wp2_with fail
  refine (value_Test.calls _ _ _ _ _ _ _ _ _ _ HT5.out).mono ?_
  rintro e w16 ⟨rfl, hb⟩
  have HB16 := Lib.hid (HB15.out.trans (hb.mono HB15.out.size))
  clear hb
  go_wp2_with fail
  go_ret
  exact ⟨rfl, HB16.out⟩

end Go.Proofs.YthgppbpmcjkadaaGreatDoor.X
namespace Go.Proofs.YthgppbpmcjkadaaGreatDoor.Xn
open Go.RowKit X Go.Proofs.YthgppbpmcjkadaaGreatDoorW.PrintWords
def cleanselaw02_ValueShifts.f (a0 a1 a2 a3 a4 : Int) : Option Bool := some true
theorem cleanselaw02_ValueShifts.calls (a0 : Int) (a1 : Int) (a2 : Int) (a3 : Int) (a4 : Int) (r : Bool) (w : World) (hG : X.GT w) (h : cleanselaw02_ValueShifts.f a0 a1 a2 a3 a4 = some r) :
    Calls Tryz.prog 8 #[.int .i64 a0, .int .i64 a1, .int .i64 a2, .int .i64 a3, .int .i64 a4] w fun e w' => e = .returned (.bool r) ∧ Below w.heap.size w w' := by
  obtain rfl := Option.some.inj h
  exact shifts_any a0 a1 a2 a3 a4 w hG
end Go.Proofs.YthgppbpmcjkadaaGreatDoor.Xn
