/- lexer's scan: numbers and symbols, in the form of contracts. -/
import Derived.Test.YtemjgafocgnccaaDoorX3
import Derived.Lib.Atoi
set_option linter.unusedVariables false
set_option linter.unusedSimpArgs false
namespace Go.Proofs.YtemjgafocgnccaaDoor.X
open Go.RowKit Go.Proofs.YtemjgafocgnccaaDoorW.PrintWords Go.Proofs.YtemjgafocgnccaaDoorW.PrintLast Go.Proofs.YtemjgafocgnccaaDoorW.PrintMore
def numV (l : List Int) : Int := l.foldl (fun a c => a * 10 + (c - 48)) 0
def numberZ (l : List Int) : Found :=
  if run digitZ l = 0 then .none
  else if 10 < run digitZ l then .err 6
  else if run digitZ l < run innerZ l then .err 6
  else .tok 2 (strOfNums (l.take (run digitZ l))) (numV (l.take (run digitZ l))) (run digitZ l)
theorem dec_of : ∀ (l : List UInt8) (acc : Nat), (∀ c ∈ l, 48 ≤ c.toNat ∧ c.toNat ≤ 57) → Lib.decFrom acc l = some (l.foldl (fun a c => a * 10 + (c.toNat - 48)) acc)
  | [], acc, _ => rfl
  | c :: l, acc, h => by
    have hc := h c List.mem_cons_self
    rw [Lib.decFrom, Lib.digitVal, if_pos hc]
    exact dec_of l _ (fun x hx => h x (List.mem_cons_of_mem _ hx))
theorem atoi_digits (l : List UInt8) (hne : l ≠ []) (h : ∀ c ∈ l, 48 ≤ c.toNat ∧ c.toNat ≤ 57) : Lib.atoi l = some ((l.foldl (fun a c => a * 10 + (c.toNat - 48)) 0 : Nat) : Int) := by
  cases l with
  | nil => exact absurd rfl hne
  | cons c l =>
    have hc := h c List.mem_cons_self
    have h1 : (c == 45) = false := by
      rw [beq_eq_false_iff_ne]; rintro rfl; simp at hc
    have h2 : (c == 43) = false := by
      rw [beq_eq_false_iff_ne]; rintro rfl; simp at hc
    simp only [Lib.atoi, h1, h2, Bool.false_eq_true, if_false]
    unfold Lib.decNat
    rw [if_neg (by simp), dec_of (c :: l) 0 h]
    rfl
theorem numV_nat : ∀ (l : List Int) (a : Nat), (∀ c ∈ l, digitZ c = true) → l.foldl (fun a c => a * 10 + (c - 48)) (a : Int) = (((l.map fun n => UInt8.ofNat n.toNat).foldl (fun a c => a * 10 + (c.toNat - 48)) a : Nat) : Int)
  | [], a, _ => rfl
  | c :: l, a, h => by
    have hc := h c List.mem_cons_self
    unfold digitZ at hc
    simp only [Bool.and_eq_true, decide_eq_true_eq] at hc
    have e : (UInt8.ofNat c.toNat).toNat = c.toNat := by rw [UInt8.toNat_ofNat']; omega
    rw [List.foldl_cons, List.map_cons, List.foldl_cons, e, ← numV_nat l _ (fun x hx => h x (List.mem_cons_of_mem _ hx))]
    congr 1
    omega
theorem atoi_nums (l : List Int) (hne : l ≠ []) (h : ∀ c ∈ l, digitZ c = true) : Lib.atoi (strOfNums l).data.toList = some (numV l) := by
  have e : (strOfNums l).data.toList = l.map fun n => UInt8.ofNat n.toNat := rfl
  rw [e, atoi_digits _ (by simpa using hne)]
  · unfold numV
    rw [show (0 : Int) = ((0 : Nat) : Int) from rfl, numV_nat l 0 h]
  · intro c hc
    obtain ⟨x, hx, rfl⟩ := List.mem_map.1 hc
    have h2 := h x hx
    unfold digitZ at h2
    simp only [Bool.and_eq_true, decide_eq_true_eq] at h2
    rw [UInt8.toNat_ofNat']; omega
theorem run_take (p : Int → Bool) (l : List Int) : l.take (run p l) = l.takeWhile p := by
  unfold run
  exact (List.prefix_iff_eq_take.1 (List.takeWhile_prefix p)).symm
theorem run_all (p : Int → Bool) (l : List Int) : ∀ c ∈ l.take (run p l), p c = true := by
  rw [run_take]
  intro c hc
  induction l with
  | nil => simp at hc
  | cons a l ih =>
    by_cases ha : p a = true
    · rw [List.takeWhile_cons_of_pos ha] at hc
      rcases List.mem_cons.1 hc with rfl | hc
      · exact ha
      · exact ih hc
    · rw [List.takeWhile_cons_of_neg ha] at hc
      simp at hc
set_option maxRecDepth 100000 in
set_option maxHeartbeats 1000000 in
theorem number_any (b : Nat) (t : ByteArray) (i : Nat) (hi : i < t.size) (ht : t.size ≤ 21000) (w : World) (hs : ScanAt w b t i) :
    Calls Tryd.prog 16 #[.pointer (some ⟨b, 0, none⟩)] w fun e w' => (numberZ ((bytesOf t).drop i)).says i e ∧ Below w.heap.size w w' := by
  have HS := Lib.hid hs
  have hb : b < w.heap.size := World.block_lt_of_cell? w ⟨b, 0, none⟩ hs.cell0
  clear hs
  have HC := Lib.hid (fun (W : World) (h : ScanAt W b t i) => run25_any innerZ inner_pred b t i (Nat.le_of_lt hi) ht W h)
  have HE := Lib.hid (fun (W : World) (h : ScanAt W b t i) => run26_any digitZ digit_pred b t i (Nat.le_of_lt hi) ht W h)
  have hrl := run_le digitZ ((bytesOf t).drop i)
  have hA := atoi_nums (((bytesOf t).drop i).take (run digitZ ((bytesOf t).drop i)))
  have hall := run_all digitZ ((bytesOf t).drop i)
  have hT := cut_str t i
  have hZ : numberZ ((bytesOf t).drop i) = numberZ ((bytesOf t).drop i) := rfl
  conv at hZ => rhs; unfold numberZ
  rw [drop_len] at hrl
  have hlen : (((bytesOf t).drop i).take (run digitZ ((bytesOf t).drop i))).length = run digitZ ((bytesOf t).drop i) := by rw [List.length_take, drop_len]; omega
  generalize run digitZ ((bytesOf t).drop i) = n at *
  generalize run innerZ ((bytesOf t).drop i) = r at *
  have HZ := Lib.hid hZ
  have HA := Lib.hid hA
  have HALL := Lib.hid hall
  have HT := Lib.hid hT
  clear hZ hA hall hT
  have HB := Lib.hid (show Below w.heap.size w (w.alloc tok0) from below_alloc (Below.refl _ _) _)
  have HS1 := Lib.hid (HS.out.alloc tok0)
  have hc0 := HS1.out.cell0
  have hc1 := HS1.out.cell1
  unfold tok0 at hc0 hc1
  have hw0 := HS.out.cell0
  have hw1 := HS.out.cell1
  have endN : ∀ (tmps : Array Value) (m : Nat), tmps.getD 2 undef = .pointer (some ⟨w.heap.size, 0, none⟩) → tmps.getD 3 undef = .int .i64 0 → n = 0 → bodyPost Tryd.prog Tryd.f16 (fun e w' => (numberZ ((bytesOf t).drop i)).says i e ∧ Below w.heap.size w w') Exit.ret { tmps := tmps, defers := [] }
      ((((((w.alloc (.cells #[.int .i64 0, .string ⟨#[]⟩, .int .i64 0, .int .i64 0] 30)).drewN m).setCell ⟨w.heap.size, 0, none⟩ (.int .i64 0)).setCell ⟨w.heap.size, 1, none⟩ (.string ⟨#[]⟩)).setCell ⟨w.heap.size, 2, none⟩ (.int .i64 0)).setCell ⟨w.heap.size, 3, none⟩ (.int .i64 0)) := by
    intro tmps m h2 h3 hn
    obtain ⟨W4, hW4, k0, k1, k2, k3, hB4⟩ := put4 (W := (w.alloc tok0).drewN m) (heap_new w tok0) (pw_below_drewN HB.out _) (Nat.le_refl _) (.int .i64 0) (.string ⟨#[]⟩) (.int .i64 0) (.int .i64 0)
    unfold tok0 at hW4
    rw [← hW4]
    refine bodyPost_ret (res_tok rfl tmps w.heap.size _ _ _ _ _ h2 k0 k1 k2 k3) rfl ⟨?_, hB4⟩
    rw [HZ.out, if_pos hn, h3]
    exact ⟨_, _, _, _, rfl⟩
  have EN := Lib.hid endN
  clear endN
  rcases Classical.em (n = 0) with c0 | c0
  · have h0 : (((n : Nat) : Int) == 0) = true := by rw [c0]; rfl
    go_enter Tryd.func16, Tryd.ntmps16
    go_wp2_with fail
    refine (HE.out _ ?_).mono ?_
    · exact HS1.out
    rintro e w' ⟨rfl, m, rfl⟩
    go_wp2_with fail
    exact EN.out _ _ rfl rfl c0
  · have h0 : (((n : Nat) : Int) == 0) = false := beq_eq_false_iff_ne.2 (by omega)
    have h0' : ¬ ((n : Nat) : Int) = 0 := by omega
    have h0'' : ¬ n = 0 := c0
    go_enter Tryd.func16, Tryd.ntmps16
    go_wp2_with fail
    refine (HE.out _ ?_).mono ?_
    · exact HS1.out
    rintro e w' ⟨rfl, m, rfl⟩
    rcases Classical.em (10 < n) with c1 | c1
    · have hd : decide ((10 : Int) < ((n : Nat) : Int)) = true := decide_eq_true (by omega)
      go_wp2_with fail
      refine (fail_any b t i 6 _ ?_).mono ?_
      · exact HS1.out
      rintro e w' ⟨rfl, m2, rfl⟩
      go_wp2_with fail
      refine ⟨rfl, ?_, ?_⟩
      · rw [HZ.out, if_neg c0, if_pos c1]; rfl
      · exact pw_below_drewN HB.out _
    · have hd : decide ((10 : Int) < ((n : Nat) : Int)) = false := decide_eq_false (by omega)
      go_wp2_with fail
      refine (HC.out _ ?_).mono ?_
      · exact HS1.out
      rintro e w' ⟨rfl, m2, rfl⟩
      rcases Classical.em (n < r) with c2 | c2
      · have hd2 : decide (((n : Nat) : Int) < ((r : Nat) : Int)) = true := decide_eq_true (by omega)
        go_wp2_with fail
        refine (fail_any b t i 6 _ ?_).mono ?_
        · exact HS1.out
        rintro e w' ⟨rfl, m3, rfl⟩
        go_wp2_with fail
        refine ⟨rfl, ?_, ?_⟩
        · rw [HZ.out, if_neg c0, if_neg c1, if_pos c2]; rfl
        · exact pw_below_drewN HB.out _
      · have hd2 : decide (((n : Nat) : Int) < ((r : Nat) : Int)) = false := decide_eq_false (by omega)
        have hw : IntKind.i64.wrap ((i : Int) + ((n : Nat) : Int)) = (i : Int) + ((n : Nat) : Int) := by rw [i64_w]; unfold wrap64; omega
        have hsl : ∀ W : World, (Instr.slice 9 (.string t) (some (.int .i64 (i : Int))) (some (.int .i64 ((i : Int) + ((n : Nat) : Int)))) none).run Tryd.prog W = .ok (.string (t.extract i (i + n))) W := fun W => by
          rw [run_slice_string W 9 t .i64 .i64 (i : Int) ((i : Int) + ((n : Nat) : Int)) Tryd.underlying9 (by omega) (by omega) (by omega)]
          rfl
        have HZ2 : RowKit.Hid (numberZ ((bytesOf t).drop i) = .tok 2 (t.extract i (i + n)) (numV (((bytesOf t).drop i).take n)) n) := Lib.hid (by rw [HZ.out, if_neg c0, if_neg c1, if_neg c2, HT.out])
        have HAT : RowKit.Hid (∀ W : World, Calls Tryd.prog 27 #[.string (t.extract i (i + n))] W fun e w' => e = .returned (.tuple #[.int .i64 (numV (((bytesOf t).drop i).take n)), .nilIface]) ∧ ∃ q, w' = Lib.bytesWorld W 5 q) := Lib.hid fun W =>
          Tryd.strconv_Atoi (t.extract i (i + n)) _ (by rw [ByteArray.size_extract]; omega) (by
            rw [HT.out]
            exact HA.out (by intro h; rw [h] at hlen; simp at hlen; omega) HALL.out) W
        clear HZ HA HALL HT hlen
        generalize numV (((bytesOf t).drop i).take n) = v at *
        go_wp2_with fail
        go_quiet (fail)
        go_wp2_with fail
        refine (HAT.out _).mono ?_
        rintro e W5 ⟨rfl, q, hq⟩
        have hB5 : Below w.heap.size w W5 := by
          rw [hq]
          exact below_then (pw_below_drewN HB.out _) (Nat.le_of_lt (by simp)) (Lib.bytesWorld_below _ _ _)
        have hR : W5.heap[w.heap.size]? = some tok0 := by
          rw [hq, (Lib.bytesWorld_below _ _ _).block w.heap.size (by simp)]
          exact heap_new w tok0
        have HB5 := Lib.hid hB5
        have HR := Lib.hid hR
        have k0 : W5.cell? ⟨w.heap.size, 0, none⟩ = some (.int .i64 0) := by simp [World.cell?, hR, tok0]
        have k1 : W5.cell? ⟨w.heap.size, 1, none⟩ = some (.string ⟨#[]⟩) := by simp [World.cell?, hR, tok0]
        have k2 : W5.cell? ⟨w.heap.size, 2, none⟩ = some (.int .i64 0) := by simp [World.cell?, hR, tok0]
        have k3 : W5.cell? ⟨w.heap.size, 3, none⟩ = some (.int .i64 0) := by simp [World.cell?, hR, tok0]
        have f0 : W5.frozen? ⟨w.heap.size, 0, none⟩ = false := by simp [World.frozen?, hR, tok0]
        have f1 : W5.frozen? ⟨w.heap.size, 1, none⟩ = false := by simp [World.frozen?, hR, tok0]
        have f2 : W5.frozen? ⟨w.heap.size, 2, none⟩ = false := by simp [World.frozen?, hR, tok0]
        have f3 : W5.frozen? ⟨w.heap.size, 3, none⟩ = false := by simp [World.frozen?, hR, tok0]
        clear hq hB5 hR hc0 hc1 hw0 hw1 HAT HC HE HB HS1 HS EN
        go_wp2_with fail
        obtain ⟨W4, hW4, g0, g1, g2, g3, hB4⟩ := put4 HR.out HB5.out (Nat.le_refl _) (.int .i64 2) (.string (t.extract i (i + n))) (.int .i64 v) (.int .i64 0)
        rw [← hW4]
        refine bodyPost_ret (res_tok rfl _ w.heap.size _ _ _ _ _ rfl g0 g1 g2 g3) rfl ⟨?_, hB4⟩
        rw [HZ2.out]
        rfl
end Go.Proofs.YtemjgafocgnccaaDoor.X
