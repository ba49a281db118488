/- lexer's scan: texts in quotes, in the form of contracts. -/
import Derived.Test.YtemjgafocgnccaaDoorX5
import Derived.Maps.AppendAt
import Derived.RangeFuncBox
set_option linter.unusedVariables false
set_option linter.unusedSimpArgs false
namespace Go.Proofs.YtemjgafocgnccaaDoor.X
open Go.RowKit Go.Proofs.YtemjgafocgnccaaDoorW.PrintWords Go.Proofs.YtemjgafocgnccaaDoorW.PrintLast Go.Proofs.YtemjgafocgnccaaDoorW.PrintMore
def escZ (d : Int) : Int := if d = 34 then 34 else if d = 92 then 92 else if d = 110 then 10 else -1
/-- A text in quotes, behind its first quote: the content so far, the bytes passed. -/
def quoteL : List Int → List Int → Nat → Found
  | [], _, _ => .err 7
  | c :: r, acc, i =>
    if c = 34 then (if 200 < acc.length then .err 3 else .tok 3 (strOfNums acc) 0 (i + 2))
    else if c = 10 then .err 5
    else if c = 92 then match r with
      | [] => .err 7
      | d :: r' => if escZ d < 0 then .err 5 else quoteL r' (acc ++ [escZ d]) (i + 2)
    else quoteL r (acc ++ [c]) (i + 1)
def quotedZ (l : List Int) : Found := if l.headD 0 = 34 then quoteL (l.drop 1) [] 0 else .none
theorem esc_index (d : Nat) (h : d < 256) : (escZ d = 34 ∧ d = 34 ∧ Lib.indexByte [34, 92, 110] (d : Int).toNat.toUInt8 = 0) ∨ (escZ d = 92 ∧ d = 92 ∧ Lib.indexByte [34, 92, 110] (d : Int).toNat.toUInt8 = 1) ∨ (escZ d = 10 ∧ d = 110 ∧ Lib.indexByte [34, 92, 110] (d : Int).toNat.toUInt8 = 2) ∨ (escZ d = -1 ∧ Lib.indexByte [34, 92, 110] (d : Int).toNat.toUInt8 = -1) := by
  revert d
  decide +kernel
theorem quote_end (l acc : List Int) (i : Nat) (h : l = []) : quoteL l acc i = .err 7 := by subst h; rfl
theorem quote_34 (r acc : List Int) (i : Nat) : quoteL (34 :: r) acc i = if 200 < acc.length then .err 3 else .tok 3 (strOfNums acc) 0 (i + 2) := by rw [quoteL.eq_def]; simp
theorem quote_10 (r acc : List Int) (i : Nat) : quoteL (10 :: r) acc i = .err 5 := by rw [quoteL.eq_def]; simp
theorem quote_92_end (acc : List Int) (i : Nat) : quoteL [92] acc i = .err 7 := by rw [quoteL.eq_def]; simp
theorem quote_92 (d : Int) (r acc : List Int) (i : Nat) : quoteL (92 :: d :: r) acc i = if escZ d < 0 then .err 5 else quoteL r (acc ++ [escZ d]) (i + 2) := by rw [quoteL.eq_def]; simp
theorem quote_else (c : Int) (r acc : List Int) (i : Nat) (h1 : c ≠ 34) (h2 : c ≠ 10) (h3 : c ≠ 92) : quoteL (c :: r) acc i = quoteL r (acc ++ [c]) (i + 1) := by rw [quoteL.eq_def]; simp [h1, h2, h3]
theorem info5 : (Tryd.prog.info? 5).map (fun i => (i.zero, i.size, i.bytes)) = some (some (.int .u8 0), 1, 1) := by kernel_rfl
set_option maxRecDepth 100000 in
set_option maxHeartbeats 8000000 in
theorem quoted_any (b : Nat) (t : ByteArray) (i : Nat) (hi : i < t.size) (ht : t.size ≤ 21000) (w : World) (hs : ScanAt w b t i) :
    Calls Tryd.prog 17 #[.pointer (some ⟨b, 0, none⟩)] w fun e w' => (quotedZ ((bytesOf t).drop i)).says i e ∧ Below w.heap.size w w' := by
  have HS := Lib.hid hs
  have hb : b < w.heap.size := World.block_lt_of_cell? w ⟨b, 0, none⟩ hs.cell0
  clear hs
  obtain ⟨i0, hinfo, hz0, hz1, hz2⟩ := info_parts info5
  have hsl : ∀ W : World, (Instr.slice 9 (.string t) (some (.int .i64 ((i : Int) + 1))) none none).run Tryd.prog W = .ok (.string (t.extract (i + 1) t.size)) W := fun W => by
    rw [run_slice_string_l (P := Tryd.prog) W 9 t Tryd.underlying9 .i64 ((i : Int) + 1) (by omega) (by omega)]
    rfl
  have hRb : bytesOf (t.extract (i + 1) t.size) = (bytesOf t).drop (i + 1) := by
    rw [bytes_extract, List.take_of_length_le]
    unfold bytesOf; rw [List.length_map, Array.length_toList]; exact Nat.le_refl _
  have hRs : (t.extract (i + 1) t.size).size ≤ 21000 := by rw [ByteArray.size_extract]; omega
  have hZ : quotedZ ((bytesOf t).drop i) = if ((t[i]'hi).toNat : Int) = 34 then quoteL (bytesOf (t.extract (i + 1) t.size)) [] 0 else .none := by
    unfold quotedZ
    rw [head_at t i hi, hRb, List.drop_drop, ← bt_at t (i : Int) (by simpa using hi)]
    rfl
  have HZ := Lib.hid hZ
  clear hZ hRb
  generalize t.extract (i + 1) t.size = R at *
  have p0 : (0 ≤ ((i : Nat) : Int)) = True := eq_true (by omega)
  have q0 : (((i : Nat) : Int) < (t.size : Int)) = True := eq_true (by omega)
  have hw1i : IntKind.i64.wrap ((i : Int) + 1) = (i : Int) + 1 := by rw [i64_w]; unfold wrap64; omega
  have HB := Lib.hid (show Below w.heap.size w (w.alloc tok0) from below_alloc (Below.refl _ _) _)
  have HS1 := Lib.hid (HS.out.alloc tok0)
  have hc0 := HS1.out.cell0
  have hc1 := HS1.out.cell1
  unfold tok0 at hc0 hc1
  have hw0 := HS.out.cell0
  have hw1 := HS.out.cell1
  rcases Classical.em (((t[i]'hi).toNat : Int) = 34) with c0 | c0
  · have hn : ((((t[i]'hi).toNat : Nat) : Int) != 34) = false := by rw [c0]; rfl
    have HZ2 := HZ.out
    rw [if_pos c0] at HZ2
    have HZ2 := Lib.hid HZ2
    clear HZ c0
    go_enter Tryd.func17, Tryd.ntmps17
    go_wp2_with fail
    go_quiet (fail)
    go_wp2_with fail
    go_quiet (fail)
    go_wp2_with fail
    generalize hW1 : (w.alloc (.cells #[.int .i64 0, .string ⟨#[]⟩, .int .i64 0, .int .i64 0] 30)).drewN _ = W1
    have hRh : W1.heap[w.heap.size]? = some tok0 := by rw [← hW1]; exact heap_new w tok0
    have hB1 : Below w.heap.size w W1 := by rw [← hW1]; exact pw_below_drewN HB.out _
    have hS1 : ScanAt W1 b t i := by rw [← hW1]; exact HS1.out
    have hz : W1.heap.size = w.heap.size + 1 := by rw [← hW1]; simp
    clear hW1 hc0 hc1 hw0 hw1 HB HS1 hsl hw1i
    have HRH := Lib.hid hRh
    have HB1 := Lib.hid hB1
    have HS1 := Lib.hid hS1
    have HSZ := Lib.hid hz
    have HRS := Lib.hid hRs
    clear hRh hB1 hS1 hz hRs
    go_loopw [4, 6] (fun v q wr => ∃ (acc : List Int) (j cap : Nat) (A : Option Addr), v = .slice A acc.length cap ∧ q = .int .i64 (j : Int) ∧ wr.ownsRow W1.heap.size 5 1 v acc.length (nums .u8 acc) ∧ Below W1.heap.size W1 wr ∧ j ≤ R.size ∧ acc.length ≤ j ∧ quoteL ((bytesOf R).drop j) acc j = quoteL (bytesOf R) [] 0) (fun _ q _ => R.size - (intOf q).toNat)
    case atStart => exact ⟨[], 0, 0, none, rfl, rfl, World.ownsRow_nil _ _ _ _, pw_below_drewN (Below.refl _ _) _, Nat.zero_le _, Nat.zero_le _, by simp⟩
    case round =>
      obtain ⟨acc, j, cap, A, rfl, rfl, hown, hbl, hj, hal, hq⟩ := hrel
      have HO := Lib.hid hown
      have HBL := Lib.hid hbl
      have HQ := Lib.hid hq
      clear hown hbl hq
      have hst : ScanAt wr b t i := HS1.out.below HBL.out
      have HST := Lib.hid hst
      clear hst
      rcases Classical.em (j < R.size) with c | c
      · have hd : decide (((j : Nat) : Int) < (R.size : Int)) = true := decide_eq_true (by omega)
        have p1 : (0 ≤ ((j : Nat) : Int)) = True := eq_true (by omega)
        have q1 : (((j : Nat) : Int) < (R.size : Int)) = True := eq_true (by omega)
        have hl : ((List.drop j (bytesOf R))) = ((R[j]'c).toNat : Int) :: (bytesOf R).drop (j + 1) := by
          rw [drop_at R j c, ← bt_at R (j : Int) (by simpa using c)]; rfl
        have hch := (R[j]'c).toNat_lt
        generalize hx : (R[j]'c).toNat = x at *
        have hR4 : wr.heap[w.heap.size]? = some tok0 := by rw [HBL.out.block w.heap.size (by rw [HSZ.out]; omega)]; exact HRH.out
        have HR4 := Lib.hid hR4
        have HBW := Lib.hid (show Below w.heap.size w wr from below_then HB1.out (by rw [HSZ.out]; omega) HBL.out)
        have hwj1 : IntKind.i64.wrap ((j : Int) + 1) = (j : Int) + 1 := by have := HRS.out; rw [i64_w]; unfold wrap64; omega
        rcases Classical.em (x = 34) with e1 | e1
        · subst e1
          have hq34 := HQ.out
          rw [hl] at hq34
          replace hq34 := (quote_34 ((bytesOf R).drop (j + 1)) acc j).symm.trans hq34
          have HQ34 := Lib.hid hq34
          clear hq34 hl
          rcases Classical.em (200 < acc.length) with c2 | c2
          · have hd2 : decide ((200 : Int) < ((acc.length : Nat) : Int)) = true := decide_eq_true (by omega)
            clear hR4
            go_wp2_with fail
            refine (fail_any b t i 3 _ ?_).mono ?_
            · exact HST.out
            rintro e w' ⟨rfl, m3, rfl⟩
            go_wp2_with fail
            refine ⟨rfl, ?_, pw_below_drewN HBW.out _⟩
            rw [HZ2.out, ← HQ34.out, if_pos c2]; rfl
          · have hd2 : decide ((200 : Int) < ((acc.length : Nat) : Int)) = false := decide_eq_false (by omega)
            have hcv : (convert 56 9 (.slice A acc.length cap)).run Tryd.prog wr = .ok (.string (strOfNums acc)) wr := own_string Tryd.underlying56 Tryd.underlying5 Tryd.underlying9 HO.out
            have hwj2 : IntKind.i64.wrap ((j : Int) + 2) = (j : Int) + 2 := by have := HRS.out; rw [i64_w]; unfold wrap64; omega
            have k0 : wr.cell? ⟨w.heap.size, 0, none⟩ = some (.int .i64 0) := by simp [World.cell?, hR4, tok0]
            have k1 : wr.cell? ⟨w.heap.size, 1, none⟩ = some (.string ⟨#[]⟩) := by simp [World.cell?, hR4, tok0]
            have k2 : wr.cell? ⟨w.heap.size, 2, none⟩ = some (.int .i64 0) := by simp [World.cell?, hR4, tok0]
            have k3 : wr.cell? ⟨w.heap.size, 3, none⟩ = some (.int .i64 0) := by simp [World.cell?, hR4, tok0]
            have f0 : wr.frozen? ⟨w.heap.size, 0, none⟩ = false := by simp [World.frozen?, hR4, tok0]
            have f1 : wr.frozen? ⟨w.heap.size, 1, none⟩ = false := by simp [World.frozen?, hR4, tok0]
            have f2 : wr.frozen? ⟨w.heap.size, 2, none⟩ = false := by simp [World.frozen?, hR4, tok0]
            have f3 : wr.frozen? ⟨w.heap.size, 3, none⟩ = false := by simp [World.frozen?, hR4, tok0]
            clear hR4
            go_wp2_with fail
            obtain ⟨W4, hW4, g0, g1, g2, g3, hB4⟩ := put4 HR4.out HBW.out (Nat.le_refl _) (.int .i64 3) (.string (strOfNums acc)) (.int .i64 0) (.int .i64 0)
            rw [← hW4]
            refine bodyPost_ret (res_tok rfl _ w.heap.size _ _ _ _ _ rfl g0 g1 g2 g3) rfl ⟨?_, hB4⟩
            rw [HZ2.out, ← HQ34.out, if_neg c2]
            rfl
        have h34 : (((x : Nat) : Int) == 34) = false := beq_eq_false_iff_ne.2 (by omega)
        rcases Classical.em (x = 10) with e2 | e2
        · subst e2
          have hq10 := HQ.out
          rw [hl] at hq10
          replace hq10 := (quote_10 ((bytesOf R).drop (j + 1)) acc j).symm.trans hq10
          have HQ10 := Lib.hid hq10
          clear hq10 hl hR4
          go_wp2_with fail
          refine (fail_any b t i 5 _ ?_).mono ?_
          · exact HST.out
          rintro e w' ⟨rfl, m3, rfl⟩
          go_wp2_with fail
          refine ⟨rfl, ?_, pw_below_drewN HBW.out _⟩
          rw [HZ2.out, ← HQ10.out]; rfl
        have h10 : (((x : Nat) : Int) == 10) = false := beq_eq_false_iff_ne.2 (by omega)
        rcases Classical.em (x = 92) with e3 | e3
        · subst e3
          rcases Classical.em (j + 1 = R.size) with c3 | c3
          · have hend : (((j : Int) + 1) == (R.size : Int)) = true := beq_iff_eq.2 (by omega)
            have hq92 := HQ.out
            rw [hl, drop_end R (j + 1) (by omega)] at hq92
            replace hq92 := (quote_92_end acc j).symm.trans hq92
            have HQ92 := Lib.hid hq92
            clear hq92 hl hR4
            go_wp2_with fail
            refine (fail_any b t i 7 _ ?_).mono ?_
            · exact HST.out
            rintro e w' ⟨rfl, m3, rfl⟩
            go_wp2_with fail
            refine ⟨rfl, ?_, pw_below_drewN HBW.out _⟩
            rw [HZ2.out, ← HQ92.out]; rfl
          · have hend : (((j : Int) + 1) == (R.size : Int)) = false := beq_eq_false_iff_ne.2 (by omega)
            have c4 : j + 1 < R.size := by omega
            have hl2 : (bytesOf R).drop (j + 1) = ((R[j + 1]'c4).toNat : Int) :: (bytesOf R).drop (j + 2) := by
              rw [drop_at R (j + 1) c4, ← bt_at R ((j + 1 : Nat) : Int) (by simpa using c4)]; rfl
            have hq9 := HQ.out
            rw [hl, hl2] at hq9
            replace hq9 := (quote_92 ((R[j + 1]'c4).toNat : Int) ((bytesOf R).drop (j + 2)) acc j).symm.trans hq9
            have p2 : (0 ≤ (j : Int) + 1) = True := eq_true (by omega)
            have q2 : ((j : Int) + 1 < (R.size : Int)) = True := eq_true (by omega)
            have hj1 : ((j : Int) + 1).toNat = j + 1 := by omega
            have hwj2 : IntKind.i64.wrap ((j : Int) + 1 + 1) = (j : Int) + 1 + 1 := by have := HRS.out; rw [i64_w]; unfold wrap64; omega
            have hd256 := (R[j + 1]'c4).toNat_lt
            have hI := fun W => Tryd.strings_IndexByte ⟨#[34, 92, 110]⟩ ((R[j + 1]'c4).toNat : Int) W
            rw [show (⟨#[34, 92, 110]⟩ : ByteArray).data.toList = [34, 92, 110] from rfl] at hI
            have hesc := esc_index (R[j + 1]'c4).toNat hd256
            generalize hy : (R[j + 1]'c4).toNat = d at *
            generalize Lib.indexByte [34, 92, 110] ((d : Int).toNat.toUInt8) = kx at *
            have HQ9 := Lib.hid hq9
            have HI := Lib.hid hI
            clear hq9 hl hl2 hR4 hI
            rcases hesc with ⟨hE, hd0, rfl⟩ | ⟨hE, hd0, rfl⟩ | ⟨hE, hd0, rfl⟩ | ⟨hE, rfl⟩
            · subst hd0
              have hkb : ((⟨#[34, 92, 10]⟩ : ByteArray)[0]'(by decide)).toNat = 34 := rfl
              have  hq9 := HQ9.out
              rw [hE, if_neg (by omega)] at hq9
              have HQ9' := Lib.hid hq9
              clear hq9
              go_wp2_with fail
              refine (HI.out _).mono ?_
              rintro e wr ⟨rfl, rfl⟩
              go_wp2_with (at_builtin; refine wpList_append_own _ rfl _ _ 56 rfl W1.heap.size 5 i0 (.int .u8 0) 1 1 Tryd.underlying56 hinfo hz0 hz1 hz2 rfl (by decide) _ _ _ rfl (HO.out.alloc _) ⟨wr.heap.size, 0, none⟩ 1 1 [.int .u8 (34)] rfl rfl (cell_one_new _ _ _) (by simp [Value.oneCell']) (by have := HRS.out; have hm : 100000 ≤ maxLen := (by decide); omega) (by have := HRS.out; omega) (by have := HBL.out.size; simp; omega) ?_; intro v' w1 hown' hgrow _; obtain ⟨g', cap', rfl⟩ := ownsRow_succ hown')
              have HBX := Lib.hid (show Below W1.heap.size W1 (wr.alloc (.cells #[.int .u8 34] 5)) from below_alloc HBL.out _)
              have hb2 : Below W1.heap.size W1 w1 := HBX.out.grown hgrow HBX.out.size (fun k hk => own_base HO.out k hk)
              refine ⟨⟨acc ++ [34], j + 2, cap', some ⟨g', 0, none⟩, by simp, by simp; omega, by simpa [nums] using hown', hb2, by omega, by simp; omega, HQ9'.out⟩, by simp [intOf]; omega⟩
            · subst hd0
              have hkb : ((⟨#[34, 92, 10]⟩ : ByteArray)[1]'(by decide)).toNat = 92 := rfl
              have  hq9 := HQ9.out
              rw [hE, if_neg (by omega)] at hq9
              have HQ9' := Lib.hid hq9
              clear hq9
              go_wp2_with fail
              refine (HI.out _).mono ?_
              rintro e wr ⟨rfl, rfl⟩
              go_wp2_with (at_builtin; refine wpList_append_own _ rfl _ _ 56 rfl W1.heap.size 5 i0 (.int .u8 0) 1 1 Tryd.underlying56 hinfo hz0 hz1 hz2 rfl (by decide) _ _ _ rfl (HO.out.alloc _) ⟨wr.heap.size, 0, none⟩ 1 1 [.int .u8 (92)] rfl rfl (cell_one_new _ _ _) (by simp [Value.oneCell']) (by have := HRS.out; have hm : 100000 ≤ maxLen := (by decide); omega) (by have := HRS.out; omega) (by have := HBL.out.size; simp; omega) ?_; intro v' w1 hown' hgrow _; obtain ⟨g', cap', rfl⟩ := ownsRow_succ hown')
              have HBX := Lib.hid (show Below W1.heap.size W1 (wr.alloc (.cells #[.int .u8 92] 5)) from below_alloc HBL.out _)
              have hb2 : Below W1.heap.size W1 w1 := HBX.out.grown hgrow HBX.out.size (fun k hk => own_base HO.out k hk)
              refine ⟨⟨acc ++ [92], j + 2, cap', some ⟨g', 0, none⟩, by simp, by simp; omega, by simpa [nums] using hown', hb2, by omega, by simp; omega, HQ9'.out⟩, by simp [intOf]; omega⟩
            · subst hd0
              have hkb : ((⟨#[34, 92, 10]⟩ : ByteArray)[2]'(by decide)).toNat = 10 := rfl
              have  hq9 := HQ9.out
              rw [hE, if_neg (by omega)] at hq9
              have HQ9' := Lib.hid hq9
              clear hq9
              go_wp2_with fail
              refine (HI.out _).mono ?_
              rintro e wr ⟨rfl, rfl⟩
              go_wp2_with (at_builtin; refine wpList_append_own _ rfl _ _ 56 rfl W1.heap.size 5 i0 (.int .u8 0) 1 1 Tryd.underlying56 hinfo hz0 hz1 hz2 rfl (by decide) _ _ _ rfl (HO.out.alloc _) ⟨wr.heap.size, 0, none⟩ 1 1 [.int .u8 (10)] rfl rfl (cell_one_new _ _ _) (by simp [Value.oneCell']) (by have := HRS.out; have hm : 100000 ≤ maxLen := (by decide); omega) (by have := HRS.out; omega) (by have := HBL.out.size; simp; omega) ?_; intro v' w1 hown' hgrow _; obtain ⟨g', cap', rfl⟩ := ownsRow_succ hown')
              have HBX := Lib.hid (show Below W1.heap.size W1 (wr.alloc (.cells #[.int .u8 10] 5)) from below_alloc HBL.out _)
              have hb2 : Below W1.heap.size W1 w1 := HBX.out.grown hgrow HBX.out.size (fun k hk => own_base HO.out k hk)
              refine ⟨⟨acc ++ [10], j + 2, cap', some ⟨g', 0, none⟩, by simp, by simp; omega, by simpa [nums] using hown', hb2, by omega, by simp; omega, HQ9'.out⟩, by simp [intOf]; omega⟩
            · have hq9 := HQ9.out
              rw [hE, if_pos (by omega)] at hq9
              have HQ9' := Lib.hid hq9
              clear hq9
              go_wp2_with fail
              refine (HI.out _).mono ?_
              rintro e wr ⟨rfl, rfl⟩
              go_wp2_with fail
              refine (fail_any b t i 5 _ ?_).mono ?_
              · exact HST.out
              rintro e w' ⟨rfl, m3, rfl⟩
              go_wp2_with fail
              refine ⟨rfl, ?_, pw_below_drewN HBW.out _⟩
              rw [HZ2.out, ← HQ9'.out]; rfl
        have h92 : (((x : Nat) : Int) == 92) = false := beq_eq_false_iff_ne.2 (by omega)
        have hqe := HQ.out
        rw [hl, quote_else _ _ _ _ (by omega) (by omega) (by omega)] at hqe
        have HQE := Lib.hid hqe
        clear hqe hl hR4
        go_wp2_with (at_builtin; refine wpList_append_own _ rfl _ _ 56 rfl W1.heap.size 5 i0 (.int .u8 0) 1 1 Tryd.underlying56 hinfo hz0 hz1 hz2 rfl (by decide) _ _ _ rfl (HO.out.alloc _) ⟨wr.heap.size, 0, none⟩ 1 1 [.int .u8 (x : Int)] rfl rfl (cell_one_new _ _ _) (by simp [Value.oneCell']) (by have := HRS.out; have hm : 100000 ≤ maxLen := (by decide); omega) (by have := HRS.out; omega) (by have := HBL.out.size; simp; omega) ?_; intro v' w1 hown' hgrow _; obtain ⟨g', cap', rfl⟩ := ownsRow_succ hown')
        have HBX := Lib.hid (show Below W1.heap.size W1 (wr.alloc (.cells #[.int .u8 (x : Int)] 5)) from below_alloc HBL.out _)
        have hb2 : Below W1.heap.size W1 w1 := HBX.out.grown hgrow HBX.out.size (fun k hk => own_base HO.out k hk)
        refine ⟨⟨acc ++ [(x : Int)], j + 1, cap', some ⟨g', 0, none⟩, by simp, by simp, by simpa [nums] using hown', hb2, by omega, by simp; omega, HQE.out⟩, by simp [intOf]; omega⟩
      · have hd : decide (((j : Nat) : Int) < (R.size : Int)) = false := decide_eq_false (by omega)
        go_wp2_with fail
        refine (fail_any b t i 7 _ ?_).mono ?_
        · exact HST.out
        rintro e w' ⟨rfl, m3, rfl⟩
        go_wp2_with fail
        refine ⟨rfl, ?_, ?_⟩
        · rw [HZ2.out, ← HQ.out, quote_end _ _ _ (drop_end R j (by omega))]; rfl
        · exact pw_below_drewN (below_then HB1.out (by rw [HSZ.out]; omega) HBL.out) _
  · have hn : ((((t[i]'hi).toNat : Nat) : Int) != 34) = true := by simpa using c0
    go_enter Tryd.func17, Tryd.ntmps17
    go_wp2_with fail
    go_quiet (fail)
    go_wp2_with fail
    obtain ⟨W4, hW4, k0, k1, k2, k3, hB4⟩ := put4 (W := (w.alloc tok0).drewN nq) (heap_new w tok0) (pw_below_drewN HB.out _) (Nat.le_refl _) (.int .i64 0) (.string ⟨#[]⟩) (.int .i64 0) (.int .i64 0)
    unfold tok0 at hW4
    rw [← hW4]
    refine bodyPost_ret (res_tok rfl _ w.heap.size _ _ _ _ _ rfl k0 k1 k2 k3) rfl ⟨?_, hB4⟩
    rw [HZ.out, if_neg c0]
    exact ⟨_, _, _, _, rfl⟩
end Go.Proofs.YtemjgafocgnccaaDoor.X
