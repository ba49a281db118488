/- value.content in the form of the printed contracts. -/
import Derived.Test.YthgppbpmcjkadaaGreatDoorPlA
import Derived.Test.YthgppbpmcjkadaaGreatDoorX8a
import Derived.Laws.IdiomStrings
import Derived.Lib.ConvBytes
set_option linter.unusedVariables false
set_option linter.unusedSimpArgs false
namespace Go.Proofs.YthgppbpmcjkadaaGreatDoor.X
open Go.RowKit Go.Proofs.YthgppbpmcjkadaaGreatDoorW.PrintWords Go.Proofs.YthgppbpmcjkadaaGreatDoorW.PrintLast Go.Proofs.YthgppbpmcjkadaaGreatDoorW.PrintMore
def ContPost (s : ByteArray) (w : World) (e : Ending) (w' : World) : Prop := e = .returned (.tuple #[.string ⟨(contZ s.data.toList).1.toArray⟩, .bool (contZ s.data.toList).2]) ∧ Below w.heap.size w w'
set_option maxRecDepth 100000 in
set_option maxHeartbeats 1000000 in
theorem cont_short (s : ByteArray) (w : World) (h : s.size < 2) : Calls Tryz.prog 32 #[.string s] w fun e w' => ContPost s w e w' := by
  have hz : contZ s.data.toList = ([], false) := by unfold contZ; rw [if_pos (by rw [Array.length_toList]; exact h)]
  have HZ := Lib.hid hz
  clear hz
  have hd : decide ((s.size : Int) < 2) = true := decide_eq_true (by omega)
  go_enter Tryz.func32, Tryz.ntmps32
  go_wp2_with fail
  go_ret2
  refine ⟨?_, Below.refl _ _⟩
  rw [HZ.out]
  rfl
theorem byte_ne {x c : UInt8} {n : Int} (hn : ((c.toNat : Nat) : Int) = n) (h : x ≠ c) : (((x.toNat : Nat) : Int) != n) = true ∧ (((x.toNat : Nat) : Int) == n) = false := by
  have : ¬ ((x.toNat : Nat) : Int) = n := fun e => h (by rw [← UInt8.toNat_inj]; omega)
  exact ⟨bne_iff_ne.2 this, beq_eq_false_iff_ne.2 this⟩
theorem getD_at {l : List UInt8} {k : Nat} (h : k < l.length) : l.getD k 0 = l[k] := by rw [List.getD_eq_getElem?_getD, List.getElem?_eq_getElem h]; rfl
set_option maxRecDepth 100000 in
set_option maxHeartbeats 1000000 in
theorem cont_head (s : ByteArray) (w : World) (hs : s.size ≤ 140737488351232) (h : 2 ≤ s.size) (h0 : s[0]'(by omega) ≠ 34) : Calls Tryz.prog 32 #[.string s] w fun e w' => ContPost s w e w' := by
  have hl : s.data.toList.length = s.size := Array.length_toList
  have hz : contZ s.data.toList = ([], false) := by
    unfold contZ
    rw [if_neg (by omega), if_neg]
    rw [getD_at (by omega)]
    exact h0
  have HZ := Lib.hid hz
  clear hz hl
  have hd : decide ((s.size : Int) < 2) = false := decide_eq_false (by omega)
  have p0 : (0 < s.size) = True := eq_true (by omega)
  obtain ⟨hn1, hn2⟩ := byte_ne (n := 34) rfl h0
  generalize hx : s[0]'(by omega) = x at *
  go_enter Tryz.func32, Tryz.ntmps32
  go_wp2_with fail
  go_ret2
  refine ⟨?_, Below.refl _ _⟩
  rw [HZ.out]
  rfl
set_option maxRecDepth 100000 in
set_option maxHeartbeats 1000000 in
theorem cont_last (s : ByteArray) (w : World) (hs : s.size ≤ 140737488351232) (h : 2 ≤ s.size) (h0 : s[0]'(by omega) = 34) (h1 : s[s.size - 1]'(by omega) ≠ 34) : Calls Tryz.prog 32 #[.string s] w fun e w' => ContPost s w e w' := by
  have hl : s.data.toList.length = s.size := Array.length_toList
  have hz : contZ s.data.toList = ([], false) := by
    unfold contZ
    rw [if_neg (by omega), if_pos, if_neg]
    · rw [getD_at (by omega)]
      simp only [hl]
      exact h1
    · rw [getD_at (by omega)]
      exact h0
  have HZ := Lib.hid hz
  clear hz hl
  have hd : decide ((s.size : Int) < 2) = false := decide_eq_false (by omega)
  have p0 : (0 < s.size) = True := eq_true (by omega)
  have p1 : (0 ≤ (s.size : Int) - 1) = True := eq_true (by omega)
  have p1' : (1 ≤ s.size) = True := eq_true (by omega)
  have p2 : ((s.size : Int) - 1 < (s.size : Int)) = True := eq_true (by omega)
  have ht : ((s.size : Int) - 1).toNat = s.size - 1 := by omega
  obtain ⟨hn1, hn2⟩ := byte_ne (n := 34) rfl h1
  generalize hx : s[s.size - 1]'(by omega) = x at *
  go_enter Tryz.func32, Tryz.ntmps32
  go_wp2_with fail
  go_ret2
  refine ⟨?_, Below.refl _ _⟩
  rw [HZ.out]
  rfl
theorem inner_list (s : ByteArray) (h : 2 ≤ s.size) : (s.extract 1 (s.size - 1)).data.toList = (s.data.toList.drop 1).take (s.size - 2) := by
  simp [Array.toList_extract, List.extract]
  omega
/-- How the world of the loop stands: the builder in block b, the bytes in block C. -/
structure CS (w W0 wr : World) (b C k : Nat) (acc : List UInt8) : Prop where
  bd : Bd wr b b C acc
  cc : wr.heap[C]? = W0.heap[C]?
  bel : Below b w wr
  len : acc.length ≤ k
  lt : C < wr.heap.size
theorem CS.put {w W0 wr w' : World} {b C k : Nat} {acc : List UInt8} (h : CS w W0 wr b C k acc) {x : UInt8} (h1 : Bd w' b b C (acc ++ [x])) (h2 : w'.heap[C]? = wr.heap[C]?) (h3 : Below b wr w') : CS w W0 w' b C (k + 1) (acc ++ [x]) :=
  ⟨h1, h2.trans h.cc, h.bel.trans h3, by rw [List.length_append]; exact Nat.succ_le_succ h.len, Nat.lt_of_lt_of_le h.lt h3.size⟩
set_option maxRecDepth 100000 in
set_option maxHeartbeats 4000000 in
theorem cont_main (s : ByteArray) (w : World) (hs : s.size ≤ 140737488351232) (h : 2 ≤ s.size) (h0 : s[0]'(by omega) = 34) (h1 : s[s.size - 1]'(by omega) = 34) : Calls Tryz.prog 32 #[.string s] w fun e w' => ContPost s w e w' := by
  have hl : s.data.toList.length = s.size := Array.length_toList
  have hz : contZ s.data.toList = contL false (s.extract 1 (s.size - 1)).data.toList [] := by
    unfold contZ
    rw [if_neg (by omega), if_pos, if_pos, inner_list s h, hl]
    · rw [getD_at (by omega)]
      simp only [hl]
      exact h1
    · rw [getD_at (by omega)]
      exact h0
  have hti : (s.extract 1 (s.size - 1)).size = s.size - 2 := by rw [ByteArray.size_extract]; omega
  have HZ := Lib.hid hz
  clear hz hl
  have hd : decide ((s.size : Int) < 2) = false := decide_eq_false (by omega)
  have p0 : (0 < s.size) = True := eq_true (by omega)
  have p1 : (0 ≤ (s.size : Int) - 1) = True := eq_true (by omega)
  have p1' : (1 ≤ s.size) = True := eq_true (by omega)
  have p2 : ((s.size : Int) - 1 < (s.size : Int)) = True := eq_true (by omega)
  have p3 : (1 ≤ (s.size : Int) - 1) = True := eq_true (by omega)
  have p4 : ((s.size : Int) - 1 ≤ (s.size : Int)) = True := eq_true (by omega)
  have ht : ((s.size : Int) - 1).toNat = s.size - 1 := by omega
  have hcv := fun W => Lib.run_convert_string_bytes (P := Tryz.prog) W 9 69 5 (s.extract 1 (s.size - 1)) Tryz.underlying9 Tryz.underlying69 Tryz.underlying5
  rw [hti] at hcv
  go_enter Tryz.func32, Tryz.ntmps32
  go_wp2_with fail
  have hlen : (s.extract 1 (s.size - 1)).data.toList.length = s.size - 2 := by rw [Array.length_toList]; exact hti
  have hcell0 := fun (j : Nat) hj => Lib.bytesWorld_cell (w.alloc (Obj.cells #[Value.pointer none, Value.slice none 0 0] 71)) 5 (s.extract 1 (s.size - 1)) j hj
  rw [hti] at hcell0
  generalize hW0 : Lib.bytesWorld (w.alloc (Obj.cells #[Value.pointer none, Value.slice none 0 0] 71)) 5 (s.extract 1 (s.size - 1)) = W0 at *
  have hst0 : CS w W0 W0 w.heap.size (w.heap.size + 1) 0 [] := by
    have e1 : W0.heap[w.heap.size]? = some (.cells #[.pointer none, .slice none 0 0] 71 (0, 0)) := by
      rw [← hW0, Lib.bytesWorld_at_old _ _ _ _ (by simp)]
      exact heap_new w _
    refine ⟨⟨Nat.le_refl _, _, _, .inl rfl, e1, World.ownsRow_nil _ _ _ _, by simp [Value.ownBlock], by simp [Value.ownBlock]⟩, rfl, ?_, Nat.le_refl _, ?_⟩
    · rw [← hW0]
      exact below_bytes ((Below.refl _ _).alloc (Nat.le_refl _) _) (by simp) _ _
    · rw [← hW0, Lib.bytesWorld_size]; simp
  have hcl : ∀ (wr : World) (k : Nat) (acc : List UInt8) (hk : k < s.size - 2), CS w W0 wr w.heap.size (w.heap.size + 1) k acc → wr.cell? ⟨w.heap.size + 1, k, none⟩ = some (.int .u8 (((s.extract 1 (s.size - 1)).data.toList.getD k 0).toNat : Int)) := by
    intro wr k acc hk hcs
    rw [World.cell?_of_block (w := W0) hcs.cc]
    have := hcell0 k hk
    simpa using this
  have HCL := Lib.hid hcl
  have HS0 := Lib.hid hst0
  clear hW0 hcell0 hcl hst0 hcv p1 p1' p2 p3 p4 ht hti h0 h1
  generalize (s.extract 1 (s.size - 1)).data.toList = L at *
  generalize hb : w.heap.size = b at *
  generalize grownCap (w.alloc (Obj.cells #[Value.pointer none, Value.slice none 0 0] 71)) (s.size - 2) 0 5 = cp
  have hns : s.size - 2 ≤ 140737488351232 := by omega
  generalize s.size - 2 = n at *
  subst hlen
  have HBB := Lib.hid hb
  clear hb
  go_loopw [6, 33] (fun a q wr => ∃ (esc : Bool) (k : Nat) (acc : List UInt8), k ≤ L.length ∧ a = .bool esc ∧ q = .int .i64 (k : Int) ∧ contL esc (L.drop k) acc = contL false L [] ∧ CS w W0 wr b (b + 1) k acc) (fun _ q _ => L.length - (intOf q).toNat)
  case atStart => exact ⟨false, 0, [], Nat.zero_le _, rfl, rfl, rfl, HS0.out⟩
  case round =>
    obtain ⟨esc, k, acc, hk, rfl, rfl, hcont, hcs⟩ := hrel
    have HCS := Lib.hid hcs
    have hlw := hcs.lt
    have hla := hcs.len
    clear hcs
    rcases Classical.em (k < L.length) with c3 | c3
    · have hd2 : decide (((k : Nat) : Int) < (L.length : Int)) = true := decide_eq_true (by omega)
      have pk : (0 ≤ ((k : Nat) : Int)) = True := eq_true (by omega)
      have qk : (((k : Nat) : Int) < (L.length : Int)) = True := eq_true (by omega)
      have hwk : IntKind.i64.wrap ((k : Int) + 1) = ((k + 1 : Nat) : Int) := by rw [i64_w]; unfold wrap64; omega
      have ck := HCL.out wr k acc c3 HCS.out
      rw [getD_at c3] at ck
      rw [List.drop_eq_getElem_cons c3] at hcont
      generalize hx : L[k] = x at *
      have HX := Lib.hid hx
      clear hx
      have HW := Lib.hid (fun c => writeByte_any b b (b + 1) acc c wr HCS.out.bd (by omega) hlw (by omega) (by omega))
      cases esc with
      | true =>
        simp only [contL] at hcont
        by_cases e1 : x = 110
        · subst e1
          have HC := Lib.hid hcont
          clear hcont
          have hw := HW.out 10
          simp only [show (((10 : UInt8).toNat : Nat) : Int) = 10 from rfl] at hw
          have HW2 := Lib.hid hw
          clear hw
          go_wp2_with fail
          refine HW2.out.mono ?_
          rintro e w2 ⟨rfl, hb1, hb2, hb3⟩
          have HS2 := Lib.hid (HCS.out.put hb1 hb2 hb3)
          clear hb1 hb2 hb3
          go_wp2_with fail
          go_roundw
          case rel => exact ⟨false, k + 1, _, by omega, rfl, congrArg (Value.int .i64) (by omega), HC.out, HS2.out⟩
          case measure => simp [intOf]; omega
        · obtain ⟨m1, m2⟩ := byte_ne (n := 110) rfl e1
          rw [if_neg e1] at hcont
          by_cases e2 : x = 34
          · subst e2
            rw [if_pos (.inl rfl)] at hcont
            have HC := Lib.hid hcont
            clear hcont
            have hw := HW.out 34
            simp only [show (((34 : UInt8).toNat : Nat) : Int) = 34 from rfl] at hw
            have HW2 := Lib.hid hw
            clear hw
            go_wp2_with fail
            refine HW2.out.mono ?_
            rintro e w2 ⟨rfl, hb1, hb2, hb3⟩
            have HS2 := Lib.hid (HCS.out.put hb1 hb2 hb3)
            clear hb1 hb2 hb3
            go_wp2_with fail
            go_roundw
            case rel => exact ⟨false, k + 1, _, by omega, rfl, congrArg (Value.int .i64) (by omega), HC.out, HS2.out⟩
            case measure => simp [intOf]; omega
          · obtain ⟨m3, m4⟩ := byte_ne (n := 34) rfl e2
            by_cases e3 : x = 92
            · subst e3
              rw [if_pos (.inr rfl)] at hcont
              have HC := Lib.hid hcont
              clear hcont
              have hw := HW.out 92
              simp only [show (((92 : UInt8).toNat : Nat) : Int) = 92 from rfl] at hw
              have HW2 := Lib.hid hw
              clear hw
              go_wp2_with fail
              refine HW2.out.mono ?_
              rintro e w2 ⟨rfl, hb1, hb2, hb3⟩
              have HS2 := Lib.hid (HCS.out.put hb1 hb2 hb3)
              clear hb1 hb2 hb3
              go_wp2_with fail
              go_roundw
              case rel => exact ⟨false, k + 1, _, by omega, rfl, congrArg (Value.int .i64) (by omega), HC.out, HS2.out⟩
              case measure => simp [intOf]; omega
            · obtain ⟨m5, m6⟩ := byte_ne (n := 92) rfl e3
              rw [if_neg (fun h => h.elim e2 e3)] at hcont
              have HC := Lib.hid (HZ.out.trans hcont.symm)
              clear hcont
              go_wp2_with fail
              go_ret2
              have hbb := HBB.out
              rw [← hbb] at HCS
              refine ⟨?_, HCS.out.bel⟩
              rw [HC.out]
              rfl
      | false =>
        simp only [contL] at hcont
        by_cases e1 : x = 92
        · subst e1
          rw [if_pos rfl] at hcont
          have HC := Lib.hid hcont
          clear hcont
          go_wp2_with fail
          go_roundw
          case rel => exact ⟨true, k + 1, acc, by omega, rfl, congrArg (Value.int .i64) (by omega), HC.out, ⟨HCS.out.bd, HCS.out.cc, HCS.out.bel, by omega, hlw⟩⟩
          case measure => simp [intOf]; omega
        · obtain ⟨m1, m2⟩ := byte_ne (n := 92) rfl e1
          rw [if_neg e1] at hcont
          by_cases e2 : x = 34
          · subst e2
            rw [if_pos (.inl rfl)] at hcont
            have HC := Lib.hid (HZ.out.trans hcont.symm)
            clear hcont
            go_wp2_with fail
            go_ret2
            have hbb := HBB.out
            rw [← hbb] at HCS
            refine ⟨?_, HCS.out.bel⟩
            rw [HC.out]
            rfl
          · obtain ⟨m3, m4⟩ := byte_ne (n := 34) rfl e2
            by_cases e3 : x = 10
            · subst e3
              rw [if_pos (.inr rfl)] at hcont
              have HC := Lib.hid (HZ.out.trans hcont.symm)
              clear hcont
              go_wp2_with fail
              go_ret2
              have hbb := HBB.out
              rw [← hbb] at HCS
              refine ⟨?_, HCS.out.bel⟩
              rw [HC.out]
              rfl
            · obtain ⟨m5, m6⟩ := byte_ne (n := 10) rfl e3
              rw [if_neg (fun h => h.elim e2 e3)] at hcont
              have HC := Lib.hid hcont
              clear hcont
              have hw := HW.out x
              have HW2 := Lib.hid hw
              clear hw
              go_wp2_with fail
              refine HW2.out.mono ?_
              rintro e w2 ⟨rfl, hb1, hb2, hb3⟩
              have HS2 := Lib.hid (HCS.out.put hb1 hb2 hb3)
              clear hb1 hb2 hb3
              go_wp2_with fail
              go_roundw
              case rel => exact ⟨false, k + 1, _, by omega, rfl, congrArg (Value.int .i64) (by omega), HC.out, HS2.out⟩
              case measure => simp [intOf]; omega
    · obtain rfl : k = L.length := by omega
      have hd2 : decide (((L.length : Nat) : Int) < (L.length : Int)) = false := decide_eq_false (by omega)
      rw [List.drop_length] at hcont
      simp only [contL] at hcont
      have HC := Lib.hid (HZ.out.trans hcont.symm)
      have HB := Lib.hid (Tryz.Builder_String_any b b acc wr HCS.out.bd.is (by omega))
      clear hcont
      go_wp2_with fail
      refine HB.out.mono ?_
      rintro e w2 ⟨rfl, hb3⟩
      have HB3 := Lib.hid hb3
      clear hb3
      go_wp2_with fail
      go_ret2
      have hbb := HBB.out
      rw [← hbb] at HCS HB3
      refine ⟨?_, HCS.out.bel.trans HB3.out⟩
      rw [HC.out]
      rfl
theorem cont_all (s : ByteArray) (w : World) (hs : s.size ≤ 140737488351232) : Calls Tryz.prog 32 #[.string s] w fun e w' => ContPost s w e w' := by
  by_cases h : s.size < 2
  · exact cont_short s w h
  by_cases h0 : s[0]'(by omega) = 34
  · by_cases h1 : s[s.size - 1]'(by omega) = 34
    · exact cont_main s w hs (by omega) h0 h1
    · exact cont_last s w hs (by omega) h0 h1
  · exact cont_head s w hs (by omega) h0
def value_content.f (a0 : ByteArray) : Option (ByteArray × Bool) := if a0.size ≤ 140737488351232 then some (⟨(contZ a0.data.toList).1.toArray⟩, (contZ a0.data.toList).2) else none
theorem value_content.calls (a0 : ByteArray) (r1 : ByteArray) (r2 : Bool) (w : World) (h : value_content.f a0 = some (r1, r2)) :
    Calls Tryz.prog 32 #[.string a0] w fun e w' => e = .returned (.tuple #[.string r1, .bool r2]) ∧ Below w.heap.size w w' := by
  unfold value_content.f at h
  split at h
  case isFalse => cases h
  rename_i hs
  obtain ⟨h1, h2⟩ := Prod.mk.inj (Option.some.inj h)
  subst h1 h2
  exact cont_all a0 w hs
end Go.Proofs.YthgppbpmcjkadaaGreatDoor.X
