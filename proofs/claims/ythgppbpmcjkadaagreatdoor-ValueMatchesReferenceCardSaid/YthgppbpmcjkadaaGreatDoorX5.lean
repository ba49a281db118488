/- strings.byteStringReplacer's Replace over the table of value.Text: the text with each special byte written as two. -/
import Derived.Test.YthgppbpmcjkadaaGreatDoorPlA
import Derived.Test.YthgppbpmcjkadaaGreatDoorX0
set_option linter.unusedVariables false
set_option linter.unusedSimpArgs false
namespace Go.Proofs.YthgppbpmcjkadaaGreatDoor.X
open Go.RowKit Go.Proofs.YthgppbpmcjkadaaGreatDoorW.PrintWords Go.Proofs.YthgppbpmcjkadaaGreatDoorW.PrintLast Go.Proofs.YthgppbpmcjkadaaGreatDoorW.PrintMore
theorem info5 : (Tryz.prog.info? 5).map (fun i => (i.zero, i.size, i.bytes)) = some (some (.int .u8 0), 1, 1) := by kernel_rfl
set_option maxRecDepth 100000 in
set_option maxHeartbeats 8000000 in
theorem rep_any (N : Nat) (s : ByteArray) (w : World) (hst : St w N 3) (hs : s.size ≤ 1000000) :
    Calls Tryz.prog 146 #[.pointer (some ⟨N + 1, 0, none⟩), .string s] w fun e w' => e = .returned (.string ⟨(quoteB s.data.toList).toArray⟩) ∧ Below w.heap.size w w' := by
  have c256 := hst.last
  have HST := Lib.hid hst
  have hlen : s.data.toList.length = s.size := by rw [Array.length_toList]; rfl
  clear hst
  have hN1 : N < w.heap.size := by
    have := World.block_lt_of_cell? w ⟨N + 1, 256, none⟩ c256
    have h : N + 1 < w.heap.size := this
    omega
  go_enter Tryz.func146, Tryz.ntmps146
  go_upto_if 26 with fail
  go_cut [5, 6] from 7 to 80 (fun a b wx => ∃ m : Nat, a = .int .i64 ((s.size + more s.data.toList : Nat) : Int) ∧ b = .bool (decide (more s.data.toList ≠ 0)) ∧ wx = w.drewN m)
  case first =>
    rcases Classical.em (24 ≤ s.size) with c24 | c24
    · have hd : decide ((24 : Int) ≤ (s.size : Int)) = true := decide_eq_true (by omega)
      simp only [hd]
      go_wp2_with fail
      go_loopw [5, 6, 32] (fun a b q wr => ∃ j m : Nat, j ≤ 3 ∧ q = .int .i64 (j : Int) ∧ wr = w.drewN m ∧ a = .int .i64 ((s.size + cntTo s.data.toList j : Nat) : Int) ∧ b = .bool (decide (cntTo s.data.toList j ≠ 0))) (fun _ _ q _ => 3 - (intOf q).toNat)
      case atStart => exact ⟨0, 0, by omega, rfl, rfl, rfl, rfl⟩
      case round =>
        obtain ⟨j, m, hj, rfl, rfl, rfl, rfl⟩ := hrel
        rcases Classical.em (j < 3) with c3 | c3
        · have hd2 : decide (((j : Nat) : Int) < 3) = true := decide_eq_true (by omega)
          have cj := HST.out.byte j c3
          have hxl := (oldB j).toNat_lt
          obtain ⟨v, cv, sv⟩ := HST.out.at (oldB j).toNat (by omega)
          have hr : rep 3 (oldB j).toNat = some (newB j) := rep_old c3
          rw [hr] at sv
          obtain ⟨X, c, rfl, hX, hcell⟩ := sv
          have hy2 : (newB j).size = 2 := new_size j
          rw [hy2] at cv
          have HC := Lib.hid (fun W => Tryz.strings_Count_one s (oldB j) W)
          have HS := Lib.hid (show cntTo s.data.toList (j + 1) = cntTo s.data.toList j + Lib.countByte s.data.toList (oldB j) from rfl)
          have hle := cnt_le s.data.toList (j + 1)
          rw [HS.out, hlen] at hle
          have hle2 : (j + 1) * s.size ≤ 3 * s.size := Nat.mul_le_mul_right _ (by omega)
          clear hcell hr hy2
          generalize oldB j = x at *
          generalize Lib.countByte s.data.toList x = n at *
          generalize hK : cntTo s.data.toList j = K at *
          generalize hK1 : cntTo s.data.toList (j + 1) = K1 at *
          have hsx : (⟨#[x]⟩ : ByteArray).size = 1 := rfl
          have hx0 : (⟨#[x]⟩ : ByteArray)[0]'(Nat.zero_lt_one) = x := rfl
          have px : (0 ≤ ((x.toNat : Nat) : Int)) = True := eq_true (by omega)
          have qx : (((x.toNat : Nat) : Int) < 256) = True := eq_true (by omega)
          have pj : (0 ≤ ((j : Nat) : Int)) = True := eq_true (by omega)
          have qj : (((j : Nat) : Int) < 3) = True := eq_true (by omega)
          have hwj : IntKind.i64.wrap ((j : Int) + 1) = ((j + 1 : Nat) : Int) := by rw [i64_w]; unfold wrap64; omega
          have hwn : IntKind.i64.wrap (n : Int) = (n : Int) := by rw [i64_w]; unfold wrap64; omega
          have hws : IntKind.i64.wrap (((s.size + K : Nat) : Int) + (n : Int)) = ((s.size + K1 : Nat) : Int) := by rw [i64_w, HS.out]; unfold wrap64; omega
          rcases Nat.eq_zero_or_pos n with hn | hn
          · have hb : (((n : Nat) : Int) != 0) = false := by rw [hn]; rfl
            go_wp2_with fail
            refine (HC.out _).mono ?_
            rintro e w' ⟨rfl, rfl⟩
            go_wp2_with fail
            go_roundw
            case rel =>
              have h1 := HS.out
              exact ⟨j + 1, m, by omega, congrArg (Value.int .i64) (by omega), rfl, congrArg (Value.int .i64) (by rw [hK1]; omega), congrArg Value.bool (by rw [hK1, show K1 = K by omega]; simp)⟩
            case measure => simp [intOf]; omega
          · have hb : (((n : Nat) : Int) != 0) = true := bne_iff_ne.2 (by omega)
            go_wp2_with fail
            refine (HC.out _).mono ?_
            rintro e w' ⟨rfl, rfl⟩
            go_wp2_with fail
            go_quiet (fail)
            go_wp2_with fail
            go_roundw
            case rel =>
              have h1 := HS.out
              exact ⟨j + 1, m + nq, by omega, congrArg (Value.int .i64) (by omega), rfl, congrArg (Value.int .i64) (by rw [hK1]; omega), congrArg Value.bool (by rw [hK1]; exact (decide_eq_true (by omega)).symm)⟩
            case measure => simp [intOf]; omega
        · obtain rfl : j = 3 := by omega
          go_wp2_with fail
          go_meet
          case rel => exact ⟨m, by rw [cnt_more], by rw [cnt_more], rfl⟩
    · have hd : decide ((24 : Int) ≤ (s.size : Int)) = false := decide_eq_false (by omega)
      simp only [hd]
      go_wp2_with fail
      go_loopw [5, 6, 10] (fun a b q wr => ∃ i m : Nat, i ≤ s.size ∧ q = .int .i64 (i : Int) ∧ wr = w.drewN m ∧ a = .int .i64 ((s.size + more (s.data.toList.take i) : Nat) : Int) ∧ b = .bool (decide (more (s.data.toList.take i) ≠ 0))) (fun _ _ q _ => s.size - (intOf q).toNat)
      case atStart => exact ⟨0, 0, by omega, rfl, rfl, rfl, rfl⟩
      case round =>
        obtain ⟨i, m, hi, rfl, rfl, rfl, rfl⟩ := hrel
        have hml := more_le (s.data.toList.take i)
        rw [List.length_take] at hml
        rcases Classical.em (i < s.size) with c3 | c3
        · have hd2 : decide (((i : Nat) : Int) < (s.size : Int)) = true := decide_eq_true (by omega)
          have pi : (0 ≤ ((i : Nat) : Int)) = True := eq_true (by omega)
          have qi : (((i : Nat) : Int) < (s.size : Int)) = True := eq_true (by omega)
          have HM := Lib.hid (more_take s.data.toList i (by omega))
          have hgi : s.data.toList[i]'(by omega) = s[i]'c3 := rfl
          rw [hgi] at HM
          have hxl := (s[i]'c3).toNat_lt
          obtain ⟨v, cv, sv⟩ := HST.out.at (s[i]'c3).toNat (by omega)
          generalize hx : s[i]'c3 = x at *
          have px : (0 ≤ ((x.toNat : Nat) : Int)) = True := eq_true (by omega)
          have qx : (((x.toNat : Nat) : Int) < 256) = True := eq_true (by omega)
          have hwi : IntKind.i64.wrap ((i : Int) + 1) = ((i + 1 : Nat) : Int) := by rw [i64_w]; unfold wrap64; omega
          have hnn := neq_nil
          generalize hK : more (s.data.toList.take i) = K at *
          generalize hK1 : more (s.data.toList.take (i + 1)) = K1 at *
          cases hr : rep 3 x.toNat with
          | none =>
            rw [hr] at sv HM
            unfold Slot at sv
            subst sv
            go_wp2_with fail
            go_roundw
            case rel =>
              have h1 := HM.out
              simp at h1
              exact ⟨i + 1, m, by omega, congrArg (Value.int .i64) (by omega), rfl, congrArg (Value.int .i64) (by rw [hK1]; omega), congrArg Value.bool (by rw [hK1, h1])⟩
            case measure => simp [intOf]; omega
          | some r =>
            rw [hr] at sv HM
            obtain ⟨X, c, rfl, hX, hcell⟩ := sv
            have hr2 : r.size = 2 := by
              rcases esc_all x.toNat (by omega) with ⟨_, h⟩ | ⟨_, h⟩ | ⟨_, h⟩ | ⟨_, _, _, h⟩ <;> rw [hr] at h <;> cases h <;> rfl
            rw [hr2] at cv
            have hws : IntKind.i64.wrap (((s.size + K : Nat) : Int) + 1) = ((s.size + (K + 1) : Nat) : Int) := by rw [i64_w]; unfold wrap64; omega
            go_wp2_with fail
            go_roundw
            case rel =>
              have h1 := HM.out
              simp at h1
              exact ⟨i + 1, m, by omega, congrArg (Value.int .i64) (by omega), rfl, congrArg (Value.int .i64) (by rw [hK1]; omega), congrArg Value.bool (by rw [hK1]; exact (decide_eq_true (by omega)).symm)⟩
            case measure => simp [intOf]; omega
        · obtain rfl : i = s.size := by omega
          have hd2 : decide (((s.size : Nat) : Int) < (s.size : Int)) = false := decide_eq_false (by omega)
          have ht : s.data.toList.take s.size = s.data.toList := List.take_of_length_le (by omega)
          go_wp2_with fail
          go_meet
          case rel => exact ⟨m, by rw [ht], by rw [ht], rfl⟩
  case rest =>
    obtain ⟨m, rfl, rfl, rfl⟩ := hcut
    have hml := more_le s.data.toList
    rw [hlen] at hml
    have hq := quote_size s.data.toList
    rw [hlen] at hq
    rcases Nat.eq_zero_or_pos (more s.data.toList) with h0 | h0
    · have hq0 := quote_none s.data.toList h0
      have hde : decide (more s.data.toList ≠ 0) = false := decide_eq_false (by omega)
      go_wp2_with fail
      go_ret
      exact ⟨by rw [hq0]; rfl, pw_below_drewN (Below.refl _ _) m⟩
    · have hde : decide (more s.data.toList ≠ 0) = true := decide_eq_true (by omega)
      obtain ⟨i5, hi5, hz0, hz1, hz2⟩ := info_parts info5
      have hLt : ((s.size : Int) + ((more s.data.toList : Nat) : Int)).toNat = s.size + more s.data.toList := by omega
      have hmk : ∀ W : World, (Instr.makeSlice 69 (.int .i64 ((s.size : Int) + ((more s.data.toList : Nat) : Int))) (.int .i64 ((s.size : Int) + ((more s.data.toList : Nat) : Int)))).run Tryz.prog W = .ok (.slice (some ⟨W.heap.size, 0, none⟩) (s.size + more s.data.toList) (s.size + more s.data.toList)) (W.alloc (.cells (madeCells (Value.int .u8 0).cells (s.size + more s.data.toList)) 5)) := fun W => by
        have h := run_makeSlice (P := Tryz.prog) (w := W) 69 5 i5 (.int .u8 0) Tryz.underlying69 hi5 hz0 .i64 .i64 ((s.size : Int) + ((more s.data.toList : Nat) : Int)) ((s.size : Int) + ((more s.data.toList : Nat) : Int)) (by omega) (by omega) (by rw [hz1]; omega) (by rw [hz2]; omega) (by omega)
        rw [hz1, hLt, Nat.mul_one] at h
        exact h
      go_wp2_with fail
      clear hmk
      generalize hL : s.size + more s.data.toList = L at *
      generalize hW1 : (w.drewN m).alloc (.cells (madeCells #[Value.int .u8 0] L) 5) = W1
      have hPn : W1.heap[w.heap.size]? = some (.cells (madeCells #[Value.int .u8 0] L) 5 (0, 0)) := by rw [← hW1]; exact heap_new (w.drewN m) _
      have hB1 : Below w.heap.size w W1 := by rw [← hW1]; exact (pw_below_drewN (Below.refl _ _) m).alloc (Nat.le_refl _) _
      have hms : (madeCells #[Value.int .u8 0] L).size = L := by simp [madeCells]
      clear hW1
      have HP := Lib.hid hPn
      have HB1 := Lib.hid hB1
      have hpl : w.heap.size < W1.heap.size := by
        rcases Nat.lt_or_ge w.heap.size W1.heap.size with h | h
        · exact h
        · rw [Array.getElem?_eq_none h] at hPn; cases hPn
      clear hPn hB1
      generalize hP : w.heap.size = P at *
      go_loopw [13, 14] (fun a q wr => ∃ i : Nat, i ≤ s.size ∧ q = .int .i64 (i : Int) ∧ a = .int .i64 ((encs (quoteB (s.data.toList.take i))).length : Int) ∧ (∃ cur : Array Value, wr.heap[P]? = some (.cells cur 5 (0, 0)) ∧ cur.size = L ∧ ∀ t, t < (encs (quoteB (s.data.toList.take i))).length → cur[t]? = (encs (quoteB (s.data.toList.take i)))[t]?) ∧ Below P w wr) (fun _ q _ => s.size - (intOf q).toNat)
      case atStart => exact ⟨0, by omega, rfl, rfl, ⟨_, HP.out, hms, fun t ht => absurd ht (Nat.not_lt_zero _)⟩, HB1.out⟩
      case round =>
        obtain ⟨i, hi, rfl, rfl, ⟨cur, hcb, hcz, hct⟩, hbw⟩ := hrel
        rcases Classical.em (i < s.size) with c3 | c3
        · have hd2 : decide (((i : Nat) : Int) < (s.size : Int)) = true := decide_eq_true (by omega)
          have pi : (0 ≤ ((i : Nat) : Int)) = True := eq_true (by omega)
          have qi : (((i : Nat) : Int) < (s.size : Int)) = True := eq_true (by omega)
          have hQ1 := quote_take s.data.toList i (by omega)
          have hgi : s.data.toList[i]'(by omega) = s[i]'c3 := rfl
          rw [hgi] at hQ1
          have hroom : (quoteB (s.data.toList.take (i + 1))).length ≤ L := by rw [quote_size, ← hL, List.length_take]; have := more_mono s.data.toList (i + 1); omega
          rw [hQ1, List.length_append] at hroom
          have hxl := (s[i]'c3).toNat_lt
          have hSr := HST.out.below hbw (by omega)
          obtain ⟨v, cv, sv⟩ := hSr.at (s[i]'c3).toNat (by omega)
          generalize hx : s[i]'c3 = x at *
          have px : (0 ≤ ((x.toNat : Nat) : Int)) = True := eq_true (by omega)
          have qx : (((x.toNat : Nat) : Int) < 256) = True := eq_true (by omega)
          have hwi : IntKind.i64.wrap ((i : Int) + 1) = ((i + 1 : Nat) : Int) := by rw [i64_w]; unfold wrap64; omega
          have hnn := neq_nil
          have HQ1 := Lib.hid hQ1
          have HBW := Lib.hid hbw
          have HCT := Lib.hid hct
          have HCB := Lib.hid hcb
          have hel : (encs (quoteB (s.data.toList.take i))).length = (quoteB (s.data.toList.take i)).length := List.length_map _
          rw [← hel] at hroom
          clear hQ1 hbw hct hSr hel
          generalize hE : encs (quoteB (s.data.toList.take i)) = E at *
          generalize hJ : E.length = J at *
          have pJ : (0 ≤ ((J : Nat) : Int)) = True := eq_true (by omega)
          cases hr : rep 3 x.toNat with
          | none =>
            rw [hr] at sv
            unfold Slot at sv
            subst sv
            have hes : escB x = [x] := by unfold escB; rw [hr]
            rw [hes] at hroom
            have hroom : J + 1 ≤ L := hroom
            have qJ : (((J : Nat) : Int) < (L : Int)) = True := eq_true (by omega)
            have cJ : wr.cell? ⟨P, J, none⟩ = some (cur[J]'(by omega)) := by simp [World.cell?, hcb]
            have fJ : wr.frozen? ⟨P, J, none⟩ = false := by simp [World.frozen?, hcb]
            have hwJ : IntKind.i64.wrap ((J : Int) + 1) = ((J + 1 : Nat) : Int) := by rw [i64_w]; unfold wrap64; omega
            clear hcb
            go_wp2_with fail
            go_roundw
            case rel =>
              have h1 := HQ1.out
              rw [hes] at h1
              have h2 : encs (quoteB (s.data.toList.take (i + 1))) = E ++ [.int .u8 (x.toNat : Int)] := by rw [h1]; unfold encs; rw [List.map_append]; rw [← hE]; rfl
              have h3 : (E ++ [Value.int .u8 (x.toNat : Int)]).length = J + 1 := by rw [List.length_append, hJ]; rfl
              have h4 := put1 (cur := cur) (E := E) (by rw [hJ]; exact HCT.out) (by omega) (.int .u8 (x.toNat : Int))
              rw [hJ] at h4
              exact ⟨i + 1, by omega, congrArg (Value.int .i64) (by omega), congrArg (Value.int .i64) (by rw [h2, h3]; omega), ⟨_, heap_set HCB.out _ _, by simp [hcz], by rw [h2]; exact h4⟩, HBW.out.setCell (Nat.le_refl P) _⟩
            case measure => simp [intOf]; omega
          | some r =>
            rw [hr] at sv
            obtain ⟨X, c, rfl, hX, hcell⟩ := sv
            have hr2 : r.size = 2 := by
              rcases esc_all x.toNat (by omega) with ⟨_, h⟩ | ⟨_, h⟩ | ⟨_, h⟩ | ⟨_, _, _, h⟩ <;> rw [hr] at h <;> cases h <;> rfl
            rw [hr2] at cv
            have hes : escB x = r.data.toList := by unfold escB; rw [hr]
            have her : r.data.toList = [r[0]'(by omega), r[1]'(by omega)] := bytes_two hr2
            rw [hes, her] at hroom
            have hroom : J + 2 ≤ L := hroom
            have hLJ : (L = J) = False := eq_false (by omega)
            have pJL : (((J : Nat) : Int) ≤ (L : Int)) = True := eq_true (by omega)
            have hJL2 : (J ≤ L) = True := eq_true (by omega)
            have hcp : (Builtin.copy_ #[69, 69] 3 #[.slice (some ⟨P, J, none⟩) (L - J) (L - J), .slice (some ⟨X, 0, none⟩) 2 c]).run Tryz.prog wr.drew = .ok (.int .i64 2) ((wr.drew.setCell ⟨P, J, none⟩ (.int .u8 ((r[0]'(by omega)).toNat : Int))).setCell ⟨P, J + 1, none⟩ (.int .u8 ((r[1]'(by omega)).toNat : Int))) := by
              have h := run_copy_cells (P := Tryz.prog) wr.drew 69 69 3 5 P J (L - J) (L - J) ⟨X, 0, none⟩ 2 c [.int .u8 ((r[0]'(by omega)).toNat : Int), .int .u8 ((r[1]'(by omega)).toNat : Int)] Tryz.underlying69 (by rw [hi5]; simp [hz1]) (by
                show 2 = min 2 (L - J)
                omega) (fun j v hj => by
                  have hj2 : j < 2 := (List.getElem?_eq_some_iff.1 hj).1
                  have e1 : (⟨X, 0, none⟩ : Addr).add j = ⟨X, j, none⟩ := by rw [add_at, Nat.zero_add]
                  rw [e1]
                  show wr.cell? ⟨X, j, none⟩ = some v
                  rw [hcell j (by omega)]
                  rcases j with _ | _ | j
                  · exact hj
                  · exact hj
                  · omega) (fun j hj => by
                  have hj2 : j < 2 := hj
                  show (wr.cell? ⟨P, J + j, none⟩).isSome = true
                  have : cur[J + j]? = some (cur[J + j]'(by omega)) := Array.getElem?_eq_getElem _
                  simp [World.cell?, hcb, this]) (fun j hj => by
                  show wr.frozen? ⟨P, J + j, none⟩ = false
                  simp [World.frozen?, hcb]) (by simp [Value.oneCell'])
              exact h
            have HCP := Lib.hid hcp
            have hwJ : IntKind.i64.wrap ((J : Int) + 2) = ((J + 2 : Nat) : Int) := by rw [i64_w]; unfold wrap64; omega
            clear hcell hcb
            go_wp2_with fail
            go_region
            go_wp2_with fail
            go_roundw
            case rel =>
              have h1 := HQ1.out
              rw [hes, her] at h1
              have h2 : encs (quoteB (s.data.toList.take (i + 1))) = (E ++ [.int .u8 ((r[0]'(by omega)).toNat : Int)]) ++ [.int .u8 ((r[1]'(by omega)).toNat : Int)] := by rw [h1]; unfold encs; rw [List.map_append, ← hE, List.append_assoc]; rfl
              have h3 : (E ++ [Value.int .u8 ((r[0]'(by omega)).toNat : Int)]).length = J + 1 := by rw [List.length_append, hJ]; rfl
              have h4 := put1 (cur := cur) (E := E) (by rw [hJ]; exact HCT.out) (by omega) (.int .u8 ((r[0]'(by omega)).toNat : Int))
              have h5 := put1 h4 (by rw [h3, Array.size_setIfInBounds]; omega) (.int .u8 ((r[1]'(by omega)).toNat : Int))
              rw [h3, hJ] at h5
              refine ⟨i + 1, by omega, congrArg (Value.int .i64) (by omega), congrArg (Value.int .i64) (by rw [h2, List.length_append, h3]; show (J : Int) + 2 = ((J + 1 + 1 : Nat) : Int); omega), ⟨_, heap_set (heap_set HCB.out _ _) _ _, by simp [hcz], by rw [h2]; exact h5⟩, ((HBW.out.setCell (Nat.le_refl P) _).setCell (Nat.le_refl P) _).drew⟩
            case measure => simp [intOf]; omega
        · obtain rfl : i = s.size := by omega
          have hd2 : decide (((s.size : Nat) : Int) < (s.size : Int)) = false := decide_eq_false (by omega)
          have ht : s.data.toList.take s.size = s.data.toList := List.take_of_length_le (by omega)
          rw [ht] at hct
          have hel : (encs (quoteB s.data.toList)).length = L := by rw [← hq]; exact List.length_map _
          have hcv : (convert 69 9 (.slice (some ⟨P, 0, none⟩) L L)).run Tryz.prog wr = .ok (.string ⟨(quoteB s.data.toList).toArray⟩) wr := by
            have h := run_convert_bytes_back (P := Tryz.prog) wr 69 9 5 ⟨P, 0, none⟩ L (quoteB s.data.toList) Tryz.underlying69 Tryz.underlying5 Tryz.underlying9 (fun j hj => by
              have e1 : (⟨P, 0, none⟩ : Addr).add j = ⟨P, j, none⟩ := by rw [add_at, Nat.zero_add]
              have h1 := hct j (by omega)
              rw [e1]
              simp only [World.cell?, hcb]
              rw [if_neg (by simp)]
              rw [h1]
              simp [encs, hj])
            rw [hq] at h
            exact h
          have HBW := Lib.hid hbw
          clear hbw hct hcb
          go_wp2_with fail
          go_ret
          subst hP
          exact ⟨rfl, HBW.out⟩
end Go.Proofs.YthgppbpmcjkadaaGreatDoor.X
