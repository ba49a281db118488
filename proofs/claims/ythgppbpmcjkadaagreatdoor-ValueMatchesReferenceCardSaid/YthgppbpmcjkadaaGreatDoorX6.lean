/- value.Text in the form of the printed contracts. -/
import Derived.Test.YthgppbpmcjkadaaGreatDoorPx5 -- F value_Valid
import Derived.Test.YthgppbpmcjkadaaGreatDoorPlA
import Derived.Test.YthgppbpmcjkadaaGreatDoorX5
import Derived.Test.YthgppbpmcjkadaaGreatDoorX4
import Derived.Deep.RegionHeld3
set_option linter.unusedVariables false
set_option linter.unusedSimpArgs false
namespace Go.Proofs.YthgppbpmcjkadaaGreatDoor.X
open Go.RowKit Go.Proofs.YthgppbpmcjkadaaGreatDoorW.PrintWords Go.Proofs.YthgppbpmcjkadaaGreatDoorW.PrintLast Go.Proofs.YthgppbpmcjkadaaGreatDoorW.PrintMore
theorem bytes_nil (c : ByteArray) : c.data.toList = [] ↔ c.size = 0 := by
  rw [← List.length_eq_zero_iff, Array.length_toList]; rfl
theorem valid_f (k : Nat) (a b : Int) (c : ByteArray) : Px.value_Valid.f (k + 1) a b c = some (validZ a b c.data.toList) := by
  have hl : c.data.toList.length = c.size := Array.length_toList
  have e1 : ∀ (l : List UInt8), (l != []) = decide (l ≠ []) := fun l => by cases l <;> rfl
  unfold Px.value_Valid.f
  rw [ByteArray.toList_eq]
  generalize c.data.toList = t at *
  simp only [Px.value_Valid.j0, validZ, ValidP, e1, ← hl]
  by_cases h1 : a = 1
  · subst h1
    by_cases hl : t.length ≤ 200
    · simp [hl, show ¬ (200 < (t.length : Int)) by omega]; split <;> simp <;> omega
    · simp [hl, show (200 < (t.length : Int)) by omega]
  · rw [if_neg h1]
    by_cases ht : t = []
    · subst ht
      simp [h1]
      by_cases h0 : a = 0
      · subst h0; simp; split <;> simp <;> omega
      by_cases h2 : a = 2
      · subst h2; simp; split <;> simp <;> omega
      by_cases h3 : a = 3
      · subst h3; simp; split <;> simp <;> omega
      by_cases h4 : a = 4
      · subst h4; simp; split <;> simp <;> omega
      simp [h0, h2, h3, h4]
    · simp [ht, h1]
def TextPost (a b : Int) (c : ByteArray) (w : World) (e : Ending) (w' : World) : Prop := e = .returned (.string ⟨(textL a b c.data.toList).toArray⟩) ∧ Below w.heap.size w w'
theorem cells3' {W : World} {N : Nat} {a b c : Value} (h : W.heap[N]? = some (.cells #[a, b, c] 23 (0, 0))) : (W.cell? ⟨N, 0, none⟩ = some a ∧ W.cell? ⟨N, 1, none⟩ = some b ∧ W.cell? ⟨N, 2, none⟩ = some c) := by
  simp [World.cell?, h]
set_option maxRecDepth 100000 in
set_option maxHeartbeats 2000000 in
theorem text_no (a b : Int) (c : ByteArray) (w : World) (hv : ¬ ValidP a b c.data.toList) : Calls Tryz.prog 21 #[.agg #[.int .i64 a, .int .i64 b, .string c]] w fun e w' => TextPost a b c w e w' := by
  have hz := text_none hv
  have hf := valid_f 0 a b c
  rw [show validZ a b c.data.toList = false from by cases h : validZ a b c.data.toList with | false => rfl | true => exact absurd (valid_iff.1 h) hv] at hf
  have HV := Lib.hid hf
  have HZ := Lib.hid hz
  clear hf hz hv
  go_enter Tryz.func21, Tryz.ntmps21
  go_wp2_with fail
  refine (Px.value_Valid.calls 1 a b c _ _ HV.out).mono ?_
  rintro e w1 ⟨rfl, hb⟩
  have HB := Lib.hid (((Below.refl _ _).alloc (Nat.le_refl w.heap.size) _).trans (hb.mono (by simp)))
  clear hb
  go_wp2_with fail
  go_ret
  refine ⟨?_, HB.out⟩
  rw [HZ.out]
  rfl
set_option maxRecDepth 100000 in
set_option maxHeartbeats 2000000 in
theorem text_num (a b : Int) (c : ByteArray) (w : World) (hG : GT w) (hv : ValidP a b c.data.toList) (ha : a = 2) : Calls Tryz.prog 21 #[.agg #[.int .i64 a, .int .i64 b, .string c]] w fun e w' => TextPost a b c w e w' := by
  have hz : textL a b c.data.toList = Lib.itoa b := by
    unfold textL
    rw [if_pos (valid_iff.2 hv), if_neg (by omega), if_pos ha]
  have hb0 : -9223372036854775808 ≤ b ∧ b ≤ 9223372036854775807 := by
    unfold ValidP at hv; omega
  have hf := valid_f 0 a b c
  rw [valid_iff.2 hv] at hf
  have HV := Lib.hid hf
  have HZ := Lib.hid hz
  have HG := Lib.hid hG
  clear hf hz hv hG
  subst ha
  go_enter Tryz.func21, Tryz.ntmps21
  go_wp2_with fail
  refine (Px.value_Valid.calls 1 _ b c _ _ HV.out).mono ?_
  rintro e w1 ⟨rfl, hb⟩
  have hN := (hb.block w.heap.size (by simp)).trans (heap_new w _)
  have HB := Lib.hid (((Below.refl _ _).alloc (Nat.le_refl w.heap.size) _).trans (hb.mono (by simp)))
  obtain ⟨a0, a1, a2⟩ := cells3' hN
  clear hb hN
  go_wp2_with fail
  refine (strconv_Itoa.calls b ⟨(Lib.itoa b).toArray⟩ w1 (GT.below HG.out HB.out) (by unfold strconv_Itoa.f; rw [if_pos hb0.1, if_pos hb0.2])).mono ?_
  rintro e w2 ⟨rfl, hb2⟩
  have HB2 := Lib.hid (HB.out.trans (hb2.mono HB.out.size))
  clear hb2
  go_wp2_with fail
  go_ret
  refine ⟨?_, HB2.out⟩
  rw [HZ.out]
  rfl
theorem new_cells (W : World) : ∀ j v, pairL[j]? = some v → ((W.alloc (.cells #[.string ⟨#[34]⟩, .string ⟨#[92, 34]⟩, .string ⟨#[92]⟩, .string ⟨#[92, 92]⟩, .string ⟨#[10]⟩, .string ⟨#[92, 110]⟩] 9)).drew).cell? ⟨W.heap.size, j, none⟩ = some v := by
  intro j v hj
  have h := heap_new W (.cells #[.string ⟨#[34]⟩, .string ⟨#[92, 34]⟩, .string ⟨#[92]⟩, .string ⟨#[92, 92]⟩, .string ⟨#[10]⟩, .string ⟨#[92, 110]⟩] 9)
  rw [World.cell?_drew]
  simp only [World.cell?, h]
  have : (#[Value.string ⟨#[34]⟩, .string ⟨#[92, 34]⟩, .string ⟨#[92]⟩, .string ⟨#[92, 92]⟩, .string ⟨#[10]⟩, .string ⟨#[92, 110]⟩] : Array Value)[j]? = some v := by
    unfold pairL at hj
    simpa using hj
  simpa using this
def quB (c : ByteArray) : ByteArray := ⟨(quoteB c.data.toList).toArray⟩
theorem quB_size (c : ByteArray) (h : c.size ≤ 1000000) : (quB c).size ≤ 2000000 := by
  show (quoteB c.data.toList).toArray.size ≤ _
  have h2 := quote_size c.data.toList
  have h3 := more_le c.data.toList
  have h4 : c.data.toList.length = c.size := Array.length_toList
  rw [List.size_toArray]
  omega
set_option maxRecDepth 100000 in
set_option maxHeartbeats 4000000 in
theorem text_str (b : Int) (c : ByteArray) (w : World) (hv : ValidP 1 b c.data.toList) : Calls Tryz.prog 21 #[.agg #[.int .i64 1, .int .i64 b, .string c]] w fun e w' => TextPost 1 b c w e w' := by
  have hz : (⟨(textL 1 b c.data.toList).toArray⟩ : ByteArray) = (⟨#[34]⟩ ++ quB c) ++ ⟨#[34]⟩ := by
    unfold textL
    rw [if_pos (valid_iff.2 hv), if_pos rfl]
    apply ByteArray.ext
    rw [ByteArray.data_append, ByteArray.data_append]
    simp [quB]
  have hs : c.size ≤ 200 := by
    have h4 : c.data.toList.length = c.size := Array.length_toList
    unfold ValidP at hv; omega
  have hq := quB_size c (by omega)
  have hf := valid_f 0 1 b c
  rw [valid_iff.2 hv] at hf
  have HV := Lib.hid hf
  have HZ := Lib.hid hz
  have HR := Lib.hid (fun N w hst => rep_any N c w hst (by omega))
  clear hf hz hv
  have hcat1 : ∀ W : World, (Op.stringOp .add ⟨#[34]⟩ (quB c)).run Tryz.prog W = .ok (.string (⟨#[34]⟩ ++ quB c)) W := fun W => run_string_add_sum W _ _ (by show 1 + _ ≤ _; omega)
  have hcat2 : ∀ W : World, (Op.stringOp .add (⟨#[34]⟩ ++ quB c) ⟨#[34]⟩).run Tryz.prog W = .ok (.string ((⟨#[34]⟩ ++ quB c) ++ ⟨#[34]⟩)) W := fun W => run_string_add_sum W _ _ (by rw [ByteArray.size_append]; show 1 + _ + 1 ≤ _; omega)
  go_enter Tryz.func21, Tryz.ntmps21
  go_wp2_with fail
  refine (Px.value_Valid.calls 1 _ b c _ _ HV.out).mono ?_
  rintro e w1 ⟨rfl, hb⟩
  have hN := (hb.block w.heap.size (by simp)).trans (heap_new w _)
  have hbw := ((Below.refl _ _).alloc (Nat.le_refl w.heap.size) _).trans (hb.mono (by simp))
  obtain ⟨a0, a1, a2⟩ := cells3' hN
  clear hb hN
  go_wp2_with fail
  have HWB := Lib.hid hbw
  clear hbw
  have hbw := HWB.out
  have hlt : w.heap.size < w1.heap.size := World.block_lt_of_cell? w1 _ a2
  go_region_held3 (fun w' => w'.cell? ⟨w.heap.size, 2, none⟩ = some (.string c) ∧ Below w.heap.size w w' ∧ w.heap.size < w'.heap.size)
    (refine ⟨?_, ?_, ?_⟩ <;> first | assumption | exact below_drew1 (below_alloc (by assumption) _) | exact below_alloc (by assumption) _ | exact below_drew1 (by assumption) | (simp; omega) | go_keep)
    (first | (go_at_call 38; refine (new_any _ 6 _ (new_cells w1)).mono ?_; rintro e w2 ⟨B, O, cap, rfl, hr, hOB, hO, hge, hb2⟩; have hB : w.heap.size < B := (by simp at hge; omega); have cc : w2.cell? ⟨w.heap.size, 2, none⟩ = some (.string c) := (Below.cell (p := ⟨w.heap.size, 2, none⟩) hb2 (by simp; omega)).trans (by rw [World.cell?_drew, World.cell?_alloc_past _ _ _ hlt]; exact a2); have bb : Below w.heap.size w w2 := (HWB.out.alloc (Nat.le_of_lt hlt) _).drew.trans (hb2.mono (by simp; omega)); have ll : w.heap.size < w2.heap.size := Nat.lt_of_lt_of_le hlt (Nat.le_trans (by simp) hb2.size); clear hge hb2) | (go_at_call 39; refine (replace_any _ _ _ c (quB c) _ (by assumption) (by assumption) (by assumption) HR.out).mono ?_; rintro e w3 ⟨rfl, hb3⟩; have cc3 : w3.cell? ⟨w.heap.size, 2, none⟩ = some (.string c) := (Below.cell (p := ⟨w.heap.size, 2, none⟩) hb3 (by assumption)).trans (by assumption); have bb3 : Below w.heap.size w w3 := Below.trans (by assumption) (hb3.mono (Nat.le_of_lt (by assumption))); have ll3 : w.heap.size < w3.heap.size := Nat.lt_of_lt_of_le (by assumption) hb3.size))
  all_goals (go_wp2_with fail; go_ret; exact ⟨by rw [HZ.out]; rfl, bb3⟩)
set_option maxRecDepth 100000 in
set_option maxHeartbeats 4000000 in
theorem text_null (b : Int) (c : ByteArray) (w : World) (hv : ValidP 0 b c.data.toList) : Calls Tryz.prog 21 #[.agg #[.int .i64 0, .int .i64 b, .string c]] w fun e w' => TextPost 0 b c w e w' := by
  have hz : textL 0 b c.data.toList = [110, 117, 108, 108] := by
    unfold textL
    rw [if_pos (valid_iff.2 hv)]
    rfl
  have hf := valid_f 0 0 b c
  rw [valid_iff.2 hv] at hf
  have HV := Lib.hid hf
  have HZ := Lib.hid hz
  clear hf hz hv
  go_enter Tryz.func21, Tryz.ntmps21
  go_wp2_with fail
  refine (Px.value_Valid.calls 1 _ b c _ _ HV.out).mono ?_
  rintro e w1 ⟨rfl, hb⟩
  have hN := (hb.block w.heap.size (by simp)).trans (heap_new w _)
  have HB := Lib.hid (((Below.refl _ _).alloc (Nat.le_refl w.heap.size) _).trans (hb.mono (by simp)))
  obtain ⟨a0, a1, a2⟩ := cells3' hN
  clear hb hN
  go_wp2_with fail
  go_ret
  exact ⟨by rw [HZ.out]; rfl, HB.out⟩
set_option maxRecDepth 100000 in
set_option maxHeartbeats 4000000 in
theorem text_day (b : Int) (c : ByteArray) (w : World) (hG : GT w) (hv : ValidP 3 b c.data.toList) : Calls Tryz.prog 21 #[.agg #[.int .i64 3, .int .i64 b, .string c]] w fun e w' => TextPost 3 b c w e w' := by
  have hz : (⟨(textL 3 b c.data.toList).toArray⟩ : ByteArray) = ⟨#[64]⟩ ++ ⟨(Lib.itoa b).toArray⟩ := by
    unfold textL
    rw [if_pos (valid_iff.2 hv)]
    apply ByteArray.ext
    rw [ByteArray.data_append]
    simp
  have hb0 : -9223372036854775808 ≤ b ∧ b ≤ 9223372036854775807 := by
    unfold ValidP at hv; omega
  have HG := Lib.hid hG
  clear hG
  have hln := Lib.itoa_length_le b hb0.1 hb0.2
  have hcat : ∀ W : World, (Op.stringOp .add ⟨#[64]⟩ ⟨(Lib.itoa b).toArray⟩).run Tryz.prog W = .ok (.string (⟨#[64]⟩ ++ ⟨(Lib.itoa b).toArray⟩)) W := fun W => run_string_add_sum W _ _ (by show 1 + (Lib.itoa b).toArray.size ≤ _; rw [List.size_toArray]; omega)
  clear hln
  have hf := valid_f 0 3 b c
  rw [valid_iff.2 hv] at hf
  have HV := Lib.hid hf
  have HZ := Lib.hid hz
  clear hf hz hv
  go_enter Tryz.func21, Tryz.ntmps21
  go_wp2_with fail
  refine (Px.value_Valid.calls 1 _ b c _ _ HV.out).mono ?_
  rintro e w1 ⟨rfl, hb⟩
  have hN := (hb.block w.heap.size (by simp)).trans (heap_new w _)
  have HB := Lib.hid (((Below.refl _ _).alloc (Nat.le_refl w.heap.size) _).trans (hb.mono (by simp)))
  obtain ⟨a0, a1, a2⟩ := cells3' hN
  clear hb hN
  go_wp2_with fail
  refine (strconv_Itoa.calls b ⟨(Lib.itoa b).toArray⟩ w1 (GT.below HG.out HB.out) (by unfold strconv_Itoa.f; rw [if_pos hb0.1, if_pos hb0.2])).mono ?_
  rintro e w2 ⟨rfl, hb2⟩
  have HB2 := Lib.hid (HB.out.trans (hb2.mono HB.out.size))
  clear hb2
  go_wp2_with fail
  go_ret
  exact ⟨by rw [HZ.out]; rfl, HB2.out⟩
def boolB (b : Bool) : ByteArray := if b = true then ⟨#[116, 114, 117, 101]⟩ else ⟨#[102, 97, 108, 115, 101]⟩
theorem formatBool_in (b : Bool) (w : World) : Calls Tryz.prog 52 #[.bool b] w fun e w' => e = .returned (.string (boolB b)) ∧ w' = w := by
  cases b
  · go_enter Tryz.func52, Tryz.ntmps52
    go_wp2
    go_ret
    exact ⟨rfl, rfl⟩
  · go_enter Tryz.func52, Tryz.ntmps52
    go_wp2
    go_ret
    exact ⟨rfl, rfl⟩
theorem formatBool (b : Bool) (w : World) : Calls Tryz.prog 41 #[.bool b] w fun e w' => e = .returned (.string (boolB b)) ∧ w' = w := by
  go_enter Tryz.func41, Tryz.ntmps41
  go_wp2_with (go_at_call 52; refine (formatBool_in b _).mono ?_; rintro e w' ⟨rfl, rfl⟩)
  go_ret
  exact ⟨rfl, rfl⟩
set_option maxRecDepth 100000 in
set_option maxHeartbeats 4000000 in
theorem text_flag (b : Int) (c : ByteArray) (w : World) (hv : ValidP 4 b c.data.toList) : Calls Tryz.prog 21 #[.agg #[.int .i64 4, .int .i64 b, .string c]] w fun e w' => TextPost 4 b c w e w' := by
  have hz : (⟨(textL 4 b c.data.toList).toArray⟩ : ByteArray) = boolB (b == 1) := by
    unfold textL boolB
    rw [if_pos (valid_iff.2 hv)]
    by_cases h : b = 1
    · subst h; rfl
    · rw [show (b == 1) = false from beq_eq_false_iff_ne.2 h]; simp [h]
  have hf := valid_f 0 4 b c
  rw [valid_iff.2 hv] at hf
  have HV := Lib.hid hf
  have HZ := Lib.hid hz
  clear hf hz hv
  go_enter Tryz.func21, Tryz.ntmps21
  go_wp2_with fail
  refine (Px.value_Valid.calls 1 _ b c _ _ HV.out).mono ?_
  rintro e w1 ⟨rfl, hb⟩
  have hN := (hb.block w.heap.size (by simp)).trans (heap_new w _)
  have HB := Lib.hid (((Below.refl _ _).alloc (Nat.le_refl w.heap.size) _).trans (hb.mono (by simp)))
  obtain ⟨a0, a1, a2⟩ := cells3' hN
  clear hb hN
  go_wp2_with fail
  refine (formatBool (b == 1) _).mono ?_
  rintro e w2 ⟨rfl, rfl⟩
  go_wp2_with fail
  go_ret
  exact ⟨by rw [HZ.out]; rfl, HB.out⟩
def value_Text.f (a b : Int) (c : ByteArray) : Option ByteArray := some ⟨(textL a b c.data.toList).toArray⟩
theorem value_Text.calls (a b : Int) (c r : ByteArray) (w : World) (hG : GT w) (h : value_Text.f a b c = some r) :
    Calls Tryz.prog 21 #[.agg #[.int .i64 a, .int .i64 b, .string c]] w fun e w' => e = .returned (.string r) ∧ Below w.heap.size w w' := by
  obtain rfl := Option.some.inj h
  show Calls Tryz.prog 21 _ w fun e w' => TextPost a b c w e w'
  by_cases hv : ValidP a b c.data.toList
  · have hv2 := hv
    rcases hv with ⟨rfl, _⟩ | ⟨rfl, _⟩ | ⟨rfl, _⟩ | ⟨rfl, _⟩ | ⟨rfl, _⟩
    · exact text_null b c w hv2
    · exact text_str b c w hv2
    · exact text_num 2 b c w hG hv2 rfl
    · exact text_day b c w hG hv2
    · exact text_flag b c w hv2
  · exact text_no a b c w hv
end Go.Proofs.YthgppbpmcjkadaaGreatDoor.X
