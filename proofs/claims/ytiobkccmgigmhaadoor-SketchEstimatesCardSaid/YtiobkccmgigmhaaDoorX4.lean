/- The statement SketchEstimates' Go function returns true: its walk, out of what Estimate comes to. -/
import Derived.Test.YtiobkccmgigmhaaDoorX3
import Derived.Test.YtiobkccmgigmhaaDoorPlD
import Derived.Deep.QuietTactic
import Derived.BigQuiet
set_option linter.unusedVariables false
set_option linter.unusedSimpArgs false
namespace Go.Proofs.YtiobkccmgigmhaaDoor.X
open Go.RowKit Go.Proofs.YtiobkccmgigmhaaDoorW.PrintWords Go.Proofs.YtiobkccmgigmhaaDoorW.PrintMore

theorem ints_any (A0 : Option Addr) (c0 : Nat) (l0 : List Int) (A1 : Option Addr) (c1 : Nat) (l1 : List Int) (w : World) (hr0 : Kd.C (Kd.int .i64) w A0 l0.length l0) (hc0 : l0.length ≤ c0) (hr1 : Kd.C (Kd.int .i64) w A1 l1.length l1) (hc1 : l1.length ≤ c1) :
    Calls Tryd.prog 22 #[.slice A0 l0.length c0, .slice A1 l1.length c1] w fun e w' => e = .returned (.bool (decide (l0 = l1))) ∧ ∃ m, w' = w.drewN m :=
  (Px.cleanseref05_Ints.calls (l0.length + 1) A0 c0 l0 A1 c1 l1 _ w hr0 hc0 hr1 hc1 (Pl.ints_spec l0 l1 hr0.2.1 _ (Nat.lt_succ_self _))).mono fun _ _ ⟨he, hd⟩ => ⟨he, hd.out⟩
theorem head_any (w : World) (hG : GT w) : Calls Tryd.prog 10 #[] w fun e w' => e = .returned (.bool true) ∧ Below w.heap.size w w' := cleanselaw05_head.walk w hG

set_option maxHeartbeats 1000000 in
set_option maxRecDepth 100000 in
theorem estimates_ok (A0 : Option Addr) (c0 : Nat) (a : List Int) (A1 : Option Addr) (c1 : Nat) (b : List Int) (p q : Int) (w : World) (hr0 : Kd.C (Kd.int .i64) w A0 a.length a) (hc0 : a.length ≤ c0) (hr1 : Kd.C (Kd.int .i64) w A1 b.length b) (hc1 : b.length ≤ c1) (hG : GT w)
    (k : Nat) (e1 : Px.sketch_Estimate.f k a b = some (p, q, 0)) (e2 : Px.sketch_Estimate.f k b a = some (p, q, 0)) (la : a.length ≤ 100) (lb : b.length ≤ 100)
    (h1 : 0 ≤ p) (h2 : 1 ≤ q) (h3 : p ≤ q) (h4 : ((a.length : Int) % q == 0) = true) (h5 : ((p == 1 && (q == 1)) == decide (a = b)) = true) :
    Calls Tryd.prog 6 #[.slice A0 a.length c0, .slice A1 b.length c1] w fun e w' => e = .returned (.bool true) ∧ Below w.heap.size w w' := by
  have E1 := Lib.hid e1
  have E2 := Lib.hid e2
  clear e1 e2
  have H4 := Lib.hid h4
  have H5 := Lib.hid h5
  clear h4 h5
  have HR0 := Lib.hid hr0
  have HR1 := Lib.hid hr1
  have HG := Lib.hid hG
  clear hr0 hr1 hG
  have hm : decide (100 < (a.length : Int)) = false := by simp; omega
  have hm2 : decide (100 < (b.length : Int)) = false := by simp; omega
  go_enter Tryd.func6, Tryd.ntmps6
  go_wp2_with fail
  refine (head_any _ HG.out).mono ?_
  rintro e w1 ⟨rfl, hb⟩
  have HB1 := Lib.hid hb
  clear hb
  go_wp2_with fail
  refine (Px.sketch_Estimate.calls k A0 c0 a A1 c1 b p q 0 _ (Kd.C_below HR0.out HB1.out) hc0 (Kd.C_below HR1.out HB1.out) hc1 E1.out).mono ?_
  rintro e w2 ⟨rfl, hb⟩
  have HB2 := Lib.hid (below_then' HB1.out hb)
  clear hb HB1
  have hu31 := Tryd.underlying31
  go_wp2_with fail
  refine (Px.sketch_Estimate.calls k A1 c1 b A0 c0 a p q 0 _ (Kd.C_alloc (Kd.C_below HR1.out HB2.out) _) hc1 (Kd.C_alloc (Kd.C_below HR0.out HB2.out) _) hc0 E2.out).mono ?_
  rintro e w3 ⟨rfl, hb⟩
  have x0 : w3.cell? ⟨w2.heap.size, 0, none⟩ = some (.int .i64 p) := pw_cell_below hb (by simp)
  have x1 : w3.cell? ⟨w2.heap.size, 1, none⟩ = some (.int .i64 q) := pw_cell_below hb (by simp)
  have hlt : w2.heap.size < w3.heap.size := by have := hb.size; simp at this; omega
  have HB3 := Lib.hid (below_then' (below_alloc HB2.out _) hb)
  clear hb HB2
  have h4 := H4.out
  have g0 : decide (0 ≤ p) = true := decide_eq_true h1
  have g1 : decide (1 ≤ q) = true := decide_eq_true h2
  have g2 : decide (p ≤ q) = true := decide_eq_true h3
  have g3 : ¬ q = 0 := by omega
  have g4 : ((a.length : Int).tmod q == 0) = true := by rw [Int.tmod_eq_emod_of_nonneg (by omega)]; exact h4
  rcases Classical.em (p = 1) with hp | hp
  · subst hp
    rcases Classical.em (q = 1) with hq | hq
    · subst hq
      have h5 : decide (a = b) = true := by simpa using H5.out
      go_wp2_with fail
      go_quiet ((go_at_call 22; exact Calls.quiet_of (ints_any A0 c0 a A1 c1 b _ (by repeat (first | exact Kd.C_below HR0.out HB3.out | refine Kd.C_alloc ?_ _ | refine Kd.C_drewN ?_ _)) hc0 (by repeat (first | exact Kd.C_below HR1.out HB3.out | refine Kd.C_alloc ?_ _ | refine Kd.C_drewN ?_ _)) hc1)))
      go_wp2_with fail
      go_ret
      refine ⟨rfl, ?_⟩
      repeat (first | exact HB3.out | apply below_alloc | apply pw_below_drewN | apply below_drew1)
    · have h5 : decide (a = b) = false := by have := H5.out; rw [show (q == 1) = false from beq_eq_false_iff_ne.2 hq] at this; simpa using this
      go_wp2_with fail
      go_quiet ((go_at_call 22; exact Calls.quiet_of (ints_any A0 c0 a A1 c1 b _ (by repeat (first | exact Kd.C_below HR0.out HB3.out | refine Kd.C_alloc ?_ _ | refine Kd.C_drewN ?_ _)) hc0 (by repeat (first | exact Kd.C_below HR1.out HB3.out | refine Kd.C_alloc ?_ _ | refine Kd.C_drewN ?_ _)) hc1)))
      go_wp2_with fail
      go_ret
      refine ⟨rfl, ?_⟩
      repeat (first | exact HB3.out | apply below_alloc | apply pw_below_drewN | apply below_drew1)
  · have h5 : decide (a = b) = false := by have := H5.out; rw [show (p == 1) = false from beq_eq_false_iff_ne.2 hp] at this; simpa using this
    go_wp2_with fail
    go_quiet ((go_at_call 22; exact Calls.quiet_of (ints_any A0 c0 a A1 c1 b _ (by repeat (first | exact Kd.C_below HR0.out HB3.out | refine Kd.C_alloc ?_ _ | refine Kd.C_drewN ?_ _)) hc0 (by repeat (first | exact Kd.C_below HR1.out HB3.out | refine Kd.C_alloc ?_ _ | refine Kd.C_drewN ?_ _)) hc1)))
    go_wp2_with fail
    go_ret
    refine ⟨rfl, ?_⟩
    repeat (first | exact HB3.out | apply below_alloc | apply pw_below_drewN | apply below_drew1)

set_option maxHeartbeats 1000000 in
set_option maxRecDepth 100000 in
theorem estimates_bad (A0 : Option Addr) (c0 : Nat) (a : List Int) (A1 : Option Addr) (c1 : Nat) (b : List Int) (w : World) (hr0 : Kd.C (Kd.int .i64) w A0 a.length a) (hc0 : a.length ≤ c0) (hr1 : Kd.C (Kd.int .i64) w A1 b.length b) (hc1 : b.length ≤ c1) (hG : GT w)
    (k : Nat) (e1 : Px.sketch_Estimate.f k a b = some (0, 0, 1)) (e2 : Px.sketch_Estimate.f k b a = some (0, 0, 1)) (la : a.length ≤ 100) (lb : b.length ≤ 100) :
    Calls Tryd.prog 6 #[.slice A0 a.length c0, .slice A1 b.length c1] w fun e w' => e = .returned (.bool true) ∧ Below w.heap.size w w' := by
  have E1 := Lib.hid e1
  have E2 := Lib.hid e2
  clear e1 e2
  have HR0 := Lib.hid hr0
  have HR1 := Lib.hid hr1
  have HG := Lib.hid hG
  clear hr0 hr1 hG
  have hm : decide (100 < (a.length : Int)) = false := by simp; omega
  have hm2 : decide (100 < (b.length : Int)) = false := by simp; omega
  go_enter Tryd.func6, Tryd.ntmps6
  go_wp2_with fail
  refine (head_any _ HG.out).mono ?_
  rintro e w1 ⟨rfl, hb⟩
  have HB1 := Lib.hid hb
  clear hb
  go_wp2_with fail
  refine (Px.sketch_Estimate.calls k A0 c0 a A1 c1 b 0 0 1 _ (Kd.C_below HR0.out HB1.out) hc0 (Kd.C_below HR1.out HB1.out) hc1 E1.out).mono ?_
  rintro e w2 ⟨rfl, hb⟩
  have HB2 := Lib.hid (below_then' HB1.out hb)
  clear hb HB1
  have hu31 := Tryd.underlying31
  go_wp2_with fail
  refine (Px.sketch_Estimate.calls k A1 c1 b A0 c0 a 0 0 1 _ (Kd.C_alloc (Kd.C_below HR1.out HB2.out) _) hc1 (Kd.C_alloc (Kd.C_below HR0.out HB2.out) _) hc0 E2.out).mono ?_
  rintro e w3 ⟨rfl, hb⟩
  have x0 : w3.cell? ⟨w2.heap.size, 0, none⟩ = some (.int .i64 0) := pw_cell_below hb (by simp)
  have x1 : w3.cell? ⟨w2.heap.size, 1, none⟩ = some (.int .i64 0) := pw_cell_below hb (by simp)
  have hlt : w2.heap.size < w3.heap.size := by have := hb.size; simp at this; omega
  have HB3 := Lib.hid (below_then' (below_alloc HB2.out _) hb)
  clear hb HB2
  go_wp2_with fail
  try go_quiet (fail)
  go_wp2_with fail
  go_ret
  refine ⟨rfl, ?_⟩
  repeat (first | exact HB3.out | apply below_alloc | apply pw_below_drewN | apply below_drew1)
set_option maxHeartbeats 1000000 in
set_option maxRecDepth 100000 in
theorem estimates_long (A0 : Option Addr) (c0 : Nat) (a : List Int) (A1 : Option Addr) (c1 : Nat) (b : List Int) (w : World) (hr0 : Kd.C (Kd.int .i64) w A0 a.length a) (hr1 : Kd.C (Kd.int .i64) w A1 b.length b) (hG : GT w)
    (hl : 100 < a.length ∨ 100 < b.length) :
    Calls Tryd.prog 6 #[.slice A0 a.length c0, .slice A1 b.length c1] w fun e w' => e = .returned (.bool true) ∧ Below w.heap.size w w' := by
  have HL := Lib.hid hl
  have ma := hr0.2.1
  have mb := hr1.2.1
  have HG := Lib.hid hG
  clear hG hl
  go_enter Tryd.func6, Tryd.ntmps6
  go_wp2_with fail
  refine (head_any _ HG.out).mono ?_
  rintro e w1 ⟨rfl, hb⟩
  have HB1 := Lib.hid hb
  clear hb
  rcases Classical.em (100 < a.length) with c | c
  · have hm : decide (100 < (a.length : Int)) = true := by simp; omega
    go_wp2_with fail
    go_ret
    exact ⟨rfl, HB1.out⟩
  · have hm : decide (100 < (a.length : Int)) = false := by simp; omega
    have hm2 : decide (100 < (b.length : Int)) = true := by have := HL.out; simp; omega
    go_wp2_with fail
    go_ret
    exact ⟨rfl, HB1.out⟩
theorem cnt_symm : ∀ (a b : List Int), Pl.cnt a b = Pl.cnt b a
  | [], [] => rfl
  | [], _ :: _ => rfl
  | _ :: _, [] => rfl
  | x :: a, y :: b => by simp only [Pl.cnt]; rw [cnt_symm a b]; congr 1; simp only [eq_comm]
theorem cnt_all : ∀ (a b : List Int), a.length = b.length → (Pl.cnt a b = a.length ↔ a = b)
  | [], [], _ => by simp [Pl.cnt]
  | x :: a, y :: b, h => by
    have ih := cnt_all a b (by simpa using h)
    have hle := Pl.cnt_le a b
    simp only [Pl.cnt, List.length_cons, List.cons.injEq]
    split
    · rename_i e
      rw [← ih]
      constructor
      · intro h; exact ⟨e, by omega⟩
      · intro h; omega
    · rename_i e
      constructor
      · intro h; omega
      · intro h; exact absurd h.1 e
theorem est_facts (c n : Nat) (h1 : 1 ≤ n) (hc : c ≤ n) : 1 ≤ n / Nat.gcd c n ∧ c / Nat.gcd c n ≤ n / Nat.gcd c n ∧ n % (n / Nat.gcd c n) = 0 ∧ ((c / Nat.gcd c n = 1 ∧ n / Nat.gcd c n = 1) ↔ c = n) := by
  have hg : 0 < Nat.gcd c n := Nat.gcd_pos_of_pos_right _ h1
  have hd : Nat.gcd c n ∣ n := Nat.gcd_dvd_right c n
  have hdc : Nat.gcd c n ∣ c := Nat.gcd_dvd_left c n
  have hle : Nat.gcd c n ≤ n := Nat.le_of_dvd h1 hd
  refine ⟨(Nat.one_le_div_iff hg).2 hle, Nat.div_le_div_right hc, Nat.mod_eq_zero_of_dvd (Nat.div_dvd_of_dvd hd), ?_, ?_⟩
  · rintro ⟨h2, h3⟩
    have e1 := Nat.div_mul_cancel hd
    have e2 := Nat.div_mul_cancel hdc
    rw [h3, Nat.one_mul] at e1
    rw [h2, Nat.one_mul] at e2
    omega
  · intro e
    have : Nat.gcd c n = n := by rw [e, Nat.gcd_self]
    rw [this, e]
    exact ⟨Nat.div_self h1, Nat.div_self h1⟩
def cleanselaw05_SketchEstimates.f (l0 l1 : List Int) : Option Bool := some true
theorem cleanselaw05_SketchEstimates.calls (A0 : Option Addr) (c0 : Nat) (l0 : List Int) (A1 : Option Addr) (c1 : Nat) (l1 : List Int) (r : Bool) (w : World) (hr0 : Kd.C (Kd.int .i64) w A0 l0.length l0) (hc0 : l0.length ≤ c0) (hr1 : Kd.C (Kd.int .i64) w A1 l1.length l1) (hc1 : l1.length ≤ c1) (hG : GT w) (h : cleanselaw05_SketchEstimates.f l0 l1 = some r) :
    Calls Tryd.prog 6 #[.slice A0 l0.length c0, .slice A1 l1.length c1] w fun e w' => e = .returned (.bool r) ∧ Below w.heap.size w w' := by
  obtain rfl := Option.some.inj h
  by_cases la : l0.length ≤ 100
  · by_cases lb : l1.length ≤ 100
    · by_cases hok : X.rightB l0 = true ∧ X.rightB l1 = true ∧ l0.length = l1.length
      · obtain ⟨ha, hb, hl⟩ := hok
        obtain ⟨h1, h2, _⟩ := (Pl.right_iff l0).1 ha
        obtain ⟨f1, f2, f3, f4⟩ := est_facts (Pl.cnt l0 l1) l0.length h1 (Pl.cnt_le l0 l1)
        have e1 := Pl.est_spec l0 l1 ha hb hl 501 (by omega)
        have e2 := Pl.est_spec l1 l0 hb ha hl.symm 501 (by omega)
        rw [cnt_symm l1 l0, ← hl] at e2
        rw [cnt_all l0 l1 hl] at f4
        generalize Pl.cnt l0 l1 / Nat.gcd (Pl.cnt l0 l1) l0.length = p at *
        generalize l0.length / Nat.gcd (Pl.cnt l0 l1) l0.length = q at *
        refine estimates_ok A0 c0 l0 A1 c1 l1 (p : Int) (q : Int) w hr0 hc0 hr1 hc1 hG 501 e1 e2 la lb (by omega) (by omega) (by omega) ?_ ?_
        · rw [beq_iff_eq, ← Int.natCast_emod, f3]; rfl
        · rw [beq_iff_eq, Bool.eq_iff_iff, Bool.and_eq_true, beq_iff_eq, beq_iff_eq, decide_eq_true_eq, ← f4]
          constructor
          · intro h; exact ⟨by omega, by omega⟩
          · intro h; exact ⟨by omega, by omega⟩
      · exact estimates_bad A0 c0 l0 A1 c1 l1 w hr0 hc0 hr1 hc1 hG 501 (Pl.est_bad l0 l1 hok 501 (by omega)) (Pl.est_bad l1 l0 (fun h => hok ⟨h.2.1, h.1, h.2.2.symm⟩) 501 (by omega)) la lb
    · exact estimates_long A0 c0 l0 A1 c1 l1 w hr0 hr1 hG (.inr (by omega))
  · exact estimates_long A0 c0 l0 A1 c1 l1 w hr0 hr1 hG (.inl (by omega))
end Go.Proofs.YtiobkccmgigmhaaDoor.X
