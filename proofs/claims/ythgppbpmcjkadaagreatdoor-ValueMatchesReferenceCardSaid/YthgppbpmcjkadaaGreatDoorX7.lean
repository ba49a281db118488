/- value.decimal in the form of the printed contracts. -/
import Derived.Test.YthgppbpmcjkadaaGreatDoorPlA
import Derived.Test.YthgppbpmcjkadaaGreatDoorX0
set_option linter.unusedVariables false
set_option linter.unusedSimpArgs false
namespace Go.Proofs.YthgppbpmcjkadaaGreatDoor.X
open Go.RowKit Go.Proofs.YthgppbpmcjkadaaGreatDoorW.PrintWords Go.Proofs.YthgppbpmcjkadaaGreatDoorW.PrintLast Go.Proofs.YthgppbpmcjkadaaGreatDoorW.PrintMore
theorem atoi_lt {l : List UInt8} {v : Int} (h : Lib.atoiAll l = .ok v) : -9223372036854775808 ≤ v ∧ v ≤ 9223372036854775807 := by
  cases l with
  | nil => cases h
  | cons c r =>
    unfold Lib.atoiAll at h
    simp only at h
    generalize Lib.parseMag (if c.toNat = 43 ∨ c.toNat = 45 then r else c :: r) = m at h
    cases m with
    | «syntax» => cases h
    | range => cases h
    | ok u =>
      simp only at h
      split at h
      · cases h
      split at h
      · cases h
      rename_i h1 h2
      have h := Lib.NumEnd.ok.inj h
      split at h
      · rename_i hn; simp [hn] at h2; omega
      · rename_i hn; simp [hn] at h1; omega
def DecPost (s : ByteArray) (w : World) (e : Ending) (w' : World) : Prop := e = .returned (.tuple #[.int .i64 (decZ s.data.toList).1, .bool (decZ s.data.toList).2]) ∧ Below w.heap.size w w'
set_option maxRecDepth 100000 in
theorem dec_ok (s : ByteArray) (w : World) (hG : GT w) (hs : s.size ≤ 281474976710656) (v : Int) (h : Lib.atoiAll s.data.toList = .ok v) :
    Calls Tryz.prog 31 #[.string s] w fun e w' => DecPost s w e w' := by
  have hb := atoi_lt h
  have hz : decZ s.data.toList = (v, Lib.itoa v == s.data.toList) := by unfold decZ; rw [h]
  have HC := Lib.hid (Tryz.strconv_Atoi_ok s (by omega) v h w)
  have HG := Lib.hid hG
  have HZ := Lib.hid hz
  clear hG hz h
  have heq : ∀ W : World, (binOp .eql 65 Value.nilIface Value.nilIface).run Tryz.prog W = .ok (.bool true) W := fun W => by rfl
  go_enter Tryz.func31, Tryz.ntmps31
  go_wp2_with fail
  refine HC.out.mono ?_
  rintro e w1 ⟨rfl, hw⟩
  have hbel : Below w.heap.size w w1 := by
    rcases hw with rfl | ⟨t, rfl⟩
    · exact Below.refl _ _
    · exact ⟨rfl, rfl, rfl, by rw [Lib.bytesWorld_size]; omega, fun k hk => Lib.bytesWorld_at_old w 5 t k (by omega)⟩
  have HB := Lib.hid hbel
  clear hw hbel
  go_wp2_with fail
  refine (strconv_Itoa.calls v ⟨(Lib.itoa v).toArray⟩ w1 (GT.below HG.out HB.out) (by unfold strconv_Itoa.f; rw [if_pos hb.1, if_pos hb.2])).mono ?_
  rintro e w2 ⟨rfl, hb2⟩
  have HB2 := Lib.hid (HB.out.trans (hb2.mono HB.out.size))
  clear hb2
  go_wp2_with fail
  go_ret2
  refine ⟨?_, HB2.out⟩
  rw [HZ.out, ← ByteArray.toList_eq]
  rfl
def NErr (v : Int) (w : World) (e : Ending) (w' : World) : Prop := ∃ N : Nat, e = .returned (.tuple #[.int .i64 v, .iface 102 (.pointer (some ⟨N, 0, none⟩))]) ∧ Below w.heap.size w w'
set_option maxRecDepth 100000 in
theorem dec_no (s : ByteArray) (w : World) (v : Int) (hz : decZ s.data.toList = (v, false)) (HC : Calls Tryz.prog 46 #[.string s] w fun e w' => NErr v w e w') :
    Calls Tryz.prog 31 #[.string s] w fun e w' => DecPost s w e w' := by
  have HC2 := Lib.hid HC
  have HZ := Lib.hid hz
  clear hz HC
  have heq : ∀ (N : Nat) (W : World), (binOp .eql 65 (.iface 102 (.pointer (some ⟨N, 0, none⟩))) Value.nilIface).run Tryz.prog W = .ok (.bool false) W := fun N W => by rfl
  go_enter Tryz.func31, Tryz.ntmps31
  go_wp2_with fail
  refine HC2.out.mono ?_
  rintro e w1 ⟨N, rfl, hb⟩
  have HB := Lib.hid hb
  clear hb
  go_wp2_with fail
  go_ret2
  refine ⟨?_, HB.out⟩
  rw [HZ.out]
  rfl
def value_decimal.f (a0 : ByteArray) : Option (Int × Bool) := if a0.size ≤ 281474976710656 then some (decZ a0.data.toList) else none
theorem value_decimal.calls (a0 : ByteArray) (r1 : Int) (r2 : Bool) (w : World) (hG : GT w) (h : value_decimal.f a0 = some (r1, r2)) :
    Calls Tryz.prog 31 #[.string a0] w fun e w' => e = .returned (.tuple #[.int .i64 r1, .bool r2]) ∧ Below w.heap.size w w' := by
  unfold value_decimal.f at h
  split at h
  case isFalse => cases h
  rename_i hs
  have hz := Option.some.inj h
  have hd : Calls Tryz.prog 31 #[.string a0] w fun e w' => DecPost a0 w e w' := by
    cases ha : Lib.atoiAll a0.data.toList with
    | ok v => exact dec_ok a0 w hG hs v ha
    | «syntax» =>
      obtain ⟨_, ⟨tp, p, hv⟩, _⟩ := hG
      refine dec_no a0 w 0 (by unfold decZ; rw [ha]) ((Tryz.strconv_Atoi_syntax_var a0 hs ha tp p w hv).mono ?_)
      rintro e w' ⟨N, rfl, _, _, hb⟩
      exact ⟨N, rfl, hb⟩
    | range =>
      obtain ⟨_, _, tp, p, hv⟩ := hG
      refine dec_no a0 w (Lib.atoiSat a0.data.toList) (by unfold decZ; rw [ha]) ((Tryz.strconv_Atoi_range_var a0 hs ha tp p w hv).mono ?_)
      rintro e w' ⟨N, rfl, _, _, hb⟩
      exact ⟨N, rfl, hb⟩
  refine hd.mono ?_
  rintro e w' ⟨rfl, hb⟩
  rw [hz]
  exact ⟨rfl, hb⟩
end Go.Proofs.YthgppbpmcjkadaaGreatDoor.X
