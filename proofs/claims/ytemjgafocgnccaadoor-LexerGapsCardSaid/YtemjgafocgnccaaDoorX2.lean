/- lexer's scan: its predicates, its panic, the gaps that it passes, in the form of contracts. -/
import Derived.Test.YtemjgafocgnccaaDoorX1
import Derived.Test.YtemjgafocgnccaaDoorPy1
import Derived.Test.YtemjgafocgnccaaDoorPy2
import Derived.Test.YtemjgafocgnccaaDoorPy3
set_option linter.unusedVariables false
set_option linter.unusedSimpArgs false
namespace Go.Proofs.YtemjgafocgnccaaDoor.X
open Go.RowKit Go.Proofs.YtemjgafocgnccaaDoorW.PrintWords Go.Proofs.YtemjgafocgnccaaDoorW.PrintLast Go.Proofs.YtemjgafocgnccaaDoorW.PrintMore
def letterZ (c : Int) : Bool := decide (97 ≤ Go.bits .or .u8 c 32) && decide (Go.bits .or .u8 c 32 ≤ 122)
def digitZ (c : Int) : Bool := decide (48 ≤ c) && decide (c ≤ 57)
def innerZ (c : Int) : Bool := letterZ c || (digitZ c || c == 95)
theorem drawn_of {w w' : World} (h : Drawn0 w w') : ∃ m, w' = w.drewN m := by
  obtain ⟨m, h⟩ := h; exact ⟨m, h⟩
theorem letter_pred : IsPred 23 letterZ := by
  intro c w
  refine (Py.lexer_letter.calls c (letterZ c) w ?_).mono fun e w' h => ⟨h.1, drawn_of h.2⟩
  unfold Py.lexer_letter.f letterZ
  by_cases h : 97 ≤ Go.bits .or .u8 c 32
  · rw [if_pos h, decide_eq_true h]; simp
  · rw [if_neg h, decide_eq_false h]; simp
theorem digit_pred : IsPred 26 digitZ := by
  intro c w
  refine (Py.lexer_digit.calls c (digitZ c) w ?_).mono fun e w' h => ⟨h.1, drawn_of h.2⟩
  unfold Py.lexer_digit.f digitZ
  by_cases h : 48 ≤ c
  · rw [if_pos h, decide_eq_true h]; simp
  · rw [if_neg h, decide_eq_false h]; simp
theorem inner_pred : IsPred 25 innerZ := by
  intro c w
  refine (Py.lexer_inner.calls c (innerZ c) w ?_).mono fun e w' h => ⟨h.1, drawn_of h.2⟩
  have h1 : Py.lexer_letter.f c = some (letterZ c) := by
    unfold Py.lexer_letter.f letterZ
    by_cases h : 97 ≤ Go.bits .or .u8 c 32
    · rw [if_pos h, decide_eq_true h]; simp
    · rw [if_neg h, decide_eq_false h]; simp
  have h2 : Py.lexer_digit.f c = some (digitZ c) := by
    unfold Py.lexer_digit.f digitZ
    by_cases h : 48 ≤ c
    · rw [if_pos h, decide_eq_true h]; simp
    · rw [if_neg h, decide_eq_false h]; simp
  unfold Py.lexer_inner.f innerZ
  rw [h1, h2]
  simp only [Option.bind_some]
  cases letterZ c <;> cases digitZ c <;> simp
def bodyZ (c : Int) : Bool := c != 10
theorem comment_pred : IsPred 30 bodyZ := by
  intro c w
  go_enter Tryd.func30, Tryd.ntmps30
  go_wp2_with fail
  go_ret
  exact ⟨rfl, 0, rfl⟩
/-- The panic by which an error ends a scan. -/
def faultZ (e : Int) (i : Nat) : List PanicEntry := [{ v := .iface 36 (.agg #[.int .i64 e, .int .i64 i]), recovered := false }]
theorem fail_any (b : Nat) (t : ByteArray) (i : Nat) (x : Int) (w : World) (hs : ScanAt w b t i) :
    Calls Tryd.prog 20 #[.pointer (some ⟨b, 0, none⟩), .int .i64 x] w fun e w' => e = .panicked (faultZ x i) ∧ ∃ m, w' = w.drewN m := by
  have hc0 := hs.cell0
  have hc1 := hs.cell1
  clear hs
  go_enter Tryd.func20, Tryd.ntmps20
  go_wp2_with fail
  exact ⟨rfl, rfl, 0, rfl⟩
/-! ### gaps -/
def gapL : Bool → List Int → Nat
  | _, [] => 0
  | cm, c :: l => if c = 10 then 1 + gapL false l else if c = 35 then 1 + gapL true l else if cm = true then 1 + gapL true l else if c = 32 ∨ c = 9 then 1 + gapL false l else 0
theorem gap_comment : ∀ l : List Int, gapL true l = run bodyZ l + gapL false (l.drop (run bodyZ l))
  | [] => rfl
  | c :: l => by
    by_cases h : c = 10
    · have hb : ¬ bodyZ c = true := by unfold bodyZ; simp [h]
      unfold run
      rw [List.takeWhile_cons_of_neg hb]
      subst h
      simp [gapL]
    · have hb : bodyZ c = true := by unfold bodyZ; simp [h]
      have ih := gap_comment l
      unfold run at ih ⊢
      rw [List.takeWhile_cons_of_pos hb, List.length_cons, List.drop_succ_cons]
      have : gapL true (c :: l) = 1 + gapL true l := by
        simp only [gapL]
        rw [if_neg h]
        split <;> rfl
      rw [this, ih]; omega
theorem run_le (p : Int → Bool) (l : List Int) : run p l ≤ l.length := by
  unfold run; exact (List.takeWhile_sublist p).length_le
theorem gap_le : ∀ (l : List Int) (cm : Bool), gapL cm l ≤ l.length
  | [], _ => Nat.le_refl _
  | c :: l, cm => by
    have h1 := gap_le l true
    have h2 := gap_le l false
    simp only [gapL, List.length_cons]
    split <;> (try split) <;> (try split) <;> (try split) <;> omega
theorem drop_at (t : ByteArray) (i : Nat) (h : i < t.size) : (bytesOf t).drop i = bt t (i : Int) :: (bytesOf t).drop (i + 1) := by
  have hl : i < (bytesOf t).length := by unfold bytesOf; rw [List.length_map, Array.length_toList]; exact h
  have hb : bt t (i : Int) = (bytesOf t)[i] := by
    have h2 : (bytesOf t)[i] = ((t[i]'h).toNat : Int) := List.getElem_map _
    rw [h2]
    unfold bt
    rw [dif_pos (show (i : Int).toNat < t.size by omega)]
    rfl
  rw [List.drop_eq_getElem_cons hl, hb]
theorem drop_end (t : ByteArray) (i : Nat) (h : t.size ≤ i) : (bytesOf t).drop i = [] :=
  List.drop_of_length_le (by unfold bytesOf; rw [List.length_map, Array.length_toList]; exact h)
theorem drop_len (t : ByteArray) (i : Nat) : ((bytesOf t).drop i).length = t.size - i := by
  rw [List.length_drop]; unfold bytesOf; rw [List.length_map, Array.length_toList]; rfl
set_option maxRecDepth 100000 in
set_option maxHeartbeats 1000000 in
theorem skip_any (b : Nat) (t : ByteArray) (i : Nat) (hi : i ≤ t.size) (ht : t.size ≤ 21000) (w : World) (hs : ScanAt w b t i) :
    Calls Tryd.prog 19 #[.pointer (some ⟨b, 0, none⟩)] w fun e w' => e = .returned (.tuple #[]) ∧ ∃ m, w' = (w.drewN m).setCell ⟨b, 1, none⟩ (.int .i64 ((i + gapL false ((bytesOf t).drop i) : Nat) : Int)) := by
  have HS := Lib.hid hs
  clear hs
  have HC0 : ∀ (W : World) (j : Nat), ScanAt W b t j → j ≤ t.size → Calls Tryd.prog 24 #[.pointer (some ⟨b, 0, none⟩), .func (.func 30) #[] #[]] W fun e w' => e = .returned (.int .i64 (run bodyZ ((bytesOf t).drop j))) ∧ ∃ m, w' = W.drewN m :=
    fun W j h hj => run30_any bodyZ comment_pred b t j hj ht W h
  have HC := Lib.hid HC0
  clear HC0
  go_enter Tryd.func19, Tryd.ntmps19
  go_wp2_with fail
  go_loopw [] (fun wr => ∃ j m : Nat, wr = (w.drewN m).setCell ⟨b, 1, none⟩ (.int .i64 (j : Int)) ∧ i ≤ j ∧ j ≤ t.size ∧ j + gapL false ((bytesOf t).drop j) = i + gapL false ((bytesOf t).drop i)) (fun wr => t.size - (intOf ((wr.cell? ⟨b, 1, none⟩).getD (.int .i64 0))).toNat)
  case atStart => exact ⟨i, 0, HS.out.same.symm, Nat.le_refl _, hi, rfl⟩
  case round =>
    obtain ⟨j, m, hwr, hij, hle, hg⟩ := hrel
    have hst : ScanAt wr b t j := by rw [hwr]; exact (HS.out.drewN m).set j
    have hc0 := hst.cell0
    have hc1 := hst.cell1
    have hfz := hst.frozen1
    have HW := Lib.hid hwr
    have HT := Lib.hid hst
    have HN := Lib.hid hg
    clear hwr hst hg
    rcases Classical.em (j < t.size) with c | c
    · have hd : decide (((j : Nat) : Int) < (t.size : Int)) = true := decide_eq_true (by omega)
      have p0 : (0 ≤ ((j : Nat) : Int)) = True := eq_true (by omega)
      have q0 : (((j : Nat) : Int) < (t.size : Int)) = True := eq_true (by omega)
      have HX := Lib.hid (show ((t[j]'c).toNat : Int) = bt t (j : Int) from bt_at t (j : Int) (by simpa using c))
      have step1 : ∀ (x : Int) (q : Nat), ((((t[j]'c).toNat : Int) == x) = true) → (x = 32 ∨ x = 9 ∨ x = 10) → (∃ j_1 m_1 : Nat, (wr.drewN q).setCell ⟨b, 1, none⟩ (.int .i64 ((j : Int) + 1)) = (w.drewN m_1).setCell ⟨b, 1, none⟩ (.int .i64 (j_1 : Int)) ∧ i ≤ j_1 ∧ j_1 ≤ t.size ∧ j_1 + gapL false ((bytesOf t).drop j_1) = i + gapL false ((bytesOf t).drop i)) ∧
          t.size - (intOf ((((wr.drewN q).setCell ⟨b, 1, none⟩ (.int .i64 ((j : Int) + 1))).cell? ⟨b, 1, none⟩).getD (.int .i64 0))).toNat < t.size - (intOf ((wr.cell? ⟨b, 1, none⟩).getD (.int .i64 0))).toNat := by
        intro x q hx hx3
        have hx : bt t (j : Int) = x := by rw [← HX.out]; exact beq_iff_eq.1 hx
        have hst := ((HT.out.drewN q).set (j + 1)).cell1
        rw [show ((j + 1 : Nat) : Int) = (j : Int) + 1 by omega] at hst
        rw [hst, hc1]
        refine ⟨⟨j + 1, m + q, ?_, by omega, by omega, ?_⟩, by simp [intOf]; omega⟩
        · rw [HW.out, set_drewN, World.drewN_drewN, set_set, show ((j + 1 : Nat) : Int) = (j : Int) + 1 by omega]
        · have h := HN.out
          rw [drop_at t j c, hx] at h
          rw [← h]
          have : gapL false (x :: (bytesOf t).drop (j + 1)) = 1 + gapL false ((bytesOf t).drop (j + 1)) := by
            simp only [gapL]
            rcases hx3 with rfl | rfl | rfl <;> simp
          omega
      have HST := Lib.hid step1
      clear step1
      go_wp2_with fail
      go_quiet (fail)
      revert nq
      intro nq0
      go_wp2_with fail
      go_quiet (fail)
      go_wp2_with fail
      · rename_i _ hx
        exact HST.out _ _ hx (by decide)
      · rename_i _ hx
        exact HST.out _ _ hx (by decide)
      · rename_i _ hx
        exact HST.out _ _ hx (by decide)
      · rename_i hx
        have hrl := run_le bodyZ ((bytesOf t).drop j)
        rw [drop_len] at hrl
        have hw : IntKind.i64.wrap ((j : Int) + ((run bodyZ ((bytesOf t).drop j) : Nat) : Int)) = ((j + run bodyZ ((bytesOf t).drop j) : Nat) : Int) := by rw [i64_w]; unfold wrap64; omega
        have HSC : RowKit.Hid (∀ (q : Nat), ((((t[j]'c).toNat : Int) == 35) = true) → (∃ j_1 m_1 : Nat, (wr.drewN q).setCell ⟨b, 1, none⟩ (.int .i64 ((j : Int) + ((run bodyZ ((bytesOf t).drop j) : Nat) : Int))) = (w.drewN m_1).setCell ⟨b, 1, none⟩ (.int .i64 (j_1 : Int)) ∧ i ≤ j_1 ∧ j_1 ≤ t.size ∧ j_1 + gapL false ((bytesOf t).drop j_1) = i + gapL false ((bytesOf t).drop i)) ∧
          t.size - (intOf ((((wr.drewN q).setCell ⟨b, 1, none⟩ (.int .i64 ((j : Int) + ((run bodyZ ((bytesOf t).drop j) : Nat) : Int)))).cell? ⟨b, 1, none⟩).getD (.int .i64 0))).toNat < t.size - (intOf ((wr.cell? ⟨b, 1, none⟩).getD (.int .i64 0))).toNat) := Lib.hid fun q hx => by
          have hx : bt t (j : Int) = 35 := by rw [← HX.out]; exact beq_iff_eq.1 hx
          have hst := ((HT.out.drewN q).set (j + run bodyZ ((bytesOf t).drop j))).cell1
          have g0 : gapL true ((bytesOf t).drop j) = gapL false ((bytesOf t).drop j) := by rw [drop_at t j c, hx]; simp [gapL]
          have g1 := gap_comment ((bytesOf t).drop j)
          have g2 : 1 ≤ run bodyZ ((bytesOf t).drop j) := by
            rw [drop_at t j c, hx]
            unfold run
            rw [List.takeWhile_cons_of_pos (by decide), List.length_cons]; omega
          rw [List.drop_drop] at g1
          generalize run bodyZ ((bytesOf t).drop j) = r at *
          rw [show ((j : Int) + (r : Int)) = ((j + r : Nat) : Int) by omega, hst, hc1]
          refine ⟨⟨j + r, m + q, ?_, by omega, by omega, ?_⟩, by simp [intOf]; omega⟩
          · rw [HW.out, set_drewN, World.drewN_drewN, set_set]
          · have h := HN.out
            omega
        go_region_with (go_at_call 24; refine (HC.out _ j (HT.out.drewN _) hle).mono ?_; rintro e w' ⟨rfl, m3, rfl⟩)
        all_goals (go_wp2_with fail; exact HSC.out _ hx)
      · rename_i h32 h9 h10 h35
        refine bodyPost_ret (results_none rfl _ _ _) rfl ?_
        refine ⟨rfl, m + (nq0 + nq), ?_⟩
        have h2 := HN.out
        rw [drop_at t j c] at h2
        have hx : ∀ x : Int, ((((t[j]'c).toNat : Int) == x) = false) → bt t (j : Int) ≠ x := fun x h => by rw [← HX.out]; exact beq_eq_false_iff_ne.1 h
        have g : gapL false (bt t (j : Int) :: (bytesOf t).drop (j + 1)) = 0 := by
          simp only [gapL]
          rw [if_neg (hx _ h10), if_neg (hx _ h35), if_neg (by simp), if_neg (by rintro (h | h); exact hx _ h32 h; exact hx _ h9 h)]
        rw [g] at h2
        rw [HW.out, set_drewN, World.drewN_drewN, ← h2]
        rfl
    · have hd : decide (((j : Nat) : Int) < (t.size : Int)) = false := decide_eq_false (by omega)
      go_wp2_with fail
      go_quiet (fail)
      go_wp2_with fail
      go_end0
      refine ⟨rfl, m + nq, ?_⟩
      have h2 := HN.out
      rw [drop_end t j (by omega)] at h2
      simp only [gapL] at h2
      rw [HW.out, set_drewN, World.drewN_drewN, ← h2]
      rfl
end Go.Proofs.YtemjgafocgnccaaDoor.X
