/- lexer's scan: names, numbers and symbols, in the form of contracts. -/
import Derived.Test.YtemjgafocgnccaaDoorX2
import Derived.Test.YtemjgafocgnccaaDoorShelf
import Derived.Laws.ResultCell
set_option linter.unusedVariables false
set_option linter.unusedSimpArgs false
namespace Go.Proofs.YtemjgafocgnccaaDoor.X
open Go.RowKit Go.Proofs.YtemjgafocgnccaaDoorW.PrintWords Go.Proofs.YtemjgafocgnccaaDoorW.PrintLast Go.Proofs.YtemjgafocgnccaaDoorW.PrintMore
/-- What a reader of tokens finds at the beginning of the bytes that are left: an error; none; or a token's kind, text, number and length. -/
inductive Found
  | err (e : Int)
  | none
  | tok (kind : Int) (text : ByteArray) (n : Int) (len : Nat)
def Found.says (r : Found) (i : Nat) (e : Ending) : Prop := match r with
  | .err x => e = .panicked (faultZ x i)
  | .none => ∃ k s n a, e = .returned (.tuple #[.agg #[.int .i64 k, .string s, .int .i64 n, .int .i64 a], .int .i64 0])
  | .tok k s n l => e = .returned (.tuple #[.agg #[.int .i64 k, .string s, .int .i64 n, .int .i64 0], .int .i64 (l : Int)])
def nameZ (l : List Int) : Found :=
  if letterZ (l.headD 0) = true then (if 24 < run innerZ l then .err 3 else .tok 1 (strOfNums (l.take (run innerZ l))) 0 (run innerZ l)) else .none
theorem head_at (t : ByteArray) (i : Nat) (h : i < t.size) : ((bytesOf t).drop i).headD 0 = bt t (i : Int) := by rw [drop_at t i h]; rfl
theorem str_bytes (s : ByteArray) : strOfNums (bytesOf s) = s := by
  unfold strOfNums bytesOf
  rw [List.map_map]
  have : ((fun n : Int => UInt8.ofNat n.toNat) ∘ fun b : UInt8 => (b.toNat : Int)) = id := by funext b; simp
  rw [this, List.map_id]
theorem bytes_extract (s : ByteArray) (i j : Nat) : bytesOf (s.extract i j) = ((bytesOf s).take j).drop i := by
  unfold bytesOf
  rw [← List.map_take, ← List.map_drop]
  congr 1
  rw [ByteArray.data_extract, Array.toList_extract]
  rw [List.extract_eq_take_drop, List.drop_take]
theorem cut_str (t : ByteArray) (i n : Nat) : t.extract i (i + n) = strOfNums (((bytesOf t).drop i).take n) := by
  rw [← str_bytes (t.extract i (i + n)), bytes_extract, List.drop_take, Nat.add_sub_cancel_left]
theorem ScanAt.alloc {w : World} {b : Nat} {t : ByteArray} {i : Nat} (h : ScanAt w b t i) (o : Obj) : ScanAt (w.alloc o) b t i := by
  have hb : b < w.heap.size := World.block_lt_of_cell? w ⟨b, 0, none⟩ h.cell0
  unfold ScanAt at *
  rw [World.alloc]
  show (w.heap.push o)[b]? = _
  rw [Array.getElem?_push_lt hb, ← h, Array.getElem?_eq_getElem hb]
/-- An empty token, in a new block. -/
def tok0 : Obj := .cells #[.int .i64 0, .string ⟨#[]⟩, .int .i64 0, .int .i64 0] 30
theorem res_tok {fn : Func} (h : fn.results = #[.cell 2 30, .tmp 3]) (tmps : Array Value) (R : Nat) (w : World) (v0 v1 v2 v3 : Value) (hR : tmps.getD 2 undef = .pointer (some ⟨R, 0, none⟩))
    (h0 : w.cell? ⟨R, 0, none⟩ = some v0) (h1 : w.cell? ⟨R, 1, none⟩ = some v1) (h2 : w.cell? ⟨R, 2, none⟩ = some v2) (h3 : w.cell? ⟨R, 3, none⟩ = some v3) :
    (results fn tmps).run Tryd.prog w = .ok (.tuple #[.agg #[v0, v1, v2, v3], tmps.getD 3 undef]) w := by
  rw [results_cell_tmp h, hR]
  simp [go_sem, h0, h1, h2, h3, Tryd.underlying30]
theorem ScanAt.below {w W : World} {b : Nat} {t : ByteArray} {i : Nat} (h : ScanAt w b t i) (hB : Below w.heap.size w W) : ScanAt W b t i := by
  have hb : b < w.heap.size := World.block_lt_of_cell? w ⟨b, 0, none⟩ h.cell0
  unfold ScanAt at *
  rw [hB.block b hb, h]
theorem heap_new (w : World) (o : Obj) : (w.alloc o).heap[w.heap.size]? = some o := by
  show (w.heap.push o)[w.heap.size]? = _
  simp
theorem put4 {w W : World} {R : Nat} {a0 a1 a2 a3 : Value} (h : W.heap[R]? = some (.cells #[a0, a1, a2, a3] 30 (0, 0))) (hB : Below w.heap.size w W) (hge : w.heap.size ≤ R) (v0 v1 v2 v3 : Value) :
    ∃ W4, W4 = (((W.setCell ⟨R, 0, none⟩ v0).setCell ⟨R, 1, none⟩ v1).setCell ⟨R, 2, none⟩ v2).setCell ⟨R, 3, none⟩ v3 ∧ W4.cell? ⟨R, 0, none⟩ = some v0 ∧ W4.cell? ⟨R, 1, none⟩ = some v1 ∧ W4.cell? ⟨R, 2, none⟩ = some v2 ∧ W4.cell? ⟨R, 3, none⟩ = some v3 ∧ Below w.heap.size w W4 := by
  refine ⟨_, rfl, ?_, ?_, ?_, ?_, (((hB.setCell hge v0).setCell hge v1).setCell hge v2).setCell hge v3⟩ <;>
  · simp only [Sort.setCell_eq]
    unfold Sort.mapBlock World.cell?
    simp [Array.getElem?_modify, h, Sort.onCells]
set_option maxRecDepth 100000 in
set_option maxHeartbeats 1000000 in
theorem name_any (b : Nat) (t : ByteArray) (i : Nat) (hi : i < t.size) (ht : t.size ≤ 21000) (w : World) (hs : ScanAt w b t i) :
    Calls Tryd.prog 15 #[.pointer (some ⟨b, 0, none⟩)] w fun e w' => (nameZ ((bytesOf t).drop i)).says i e ∧ Below w.heap.size w w' := by
  have HS := Lib.hid hs
  have hb : b < w.heap.size := World.block_lt_of_cell? w ⟨b, 0, none⟩ hs.cell0
  clear hs
  have HL := Lib.hid letter_pred
  have HC0 : ∀ (W : World), ScanAt W b t i → Calls Tryd.prog 24 #[.pointer (some ⟨b, 0, none⟩), .func (.func 25) #[] #[]] W fun e w' => e = .returned (.int .i64 (run innerZ ((bytesOf t).drop i))) ∧ ∃ m, w' = W.drewN m :=
    fun W h => run25_any innerZ inner_pred b t i (Nat.le_of_lt hi) ht W h
  have HC := Lib.hid HC0
  clear HC0
  have p0 : (0 ≤ ((i : Nat) : Int)) = True := eq_true (by omega)
  have q0 : (((i : Nat) : Int) < (t.size : Int)) = True := eq_true (by omega)
  have HX := Lib.hid (show ((t[i]'hi).toNat : Int) = bt t (i : Int) from bt_at t (i : Int) (by simpa using hi))
  have hrl := run_le innerZ ((bytesOf t).drop i)
  rw [drop_len] at hrl
  have HRL := Lib.hid hrl
  clear hrl
  go_enter Tryd.func15, Tryd.ntmps15
  go_wp2_with fail
  have HS1 := Lib.hid (HS.out.alloc tok0)
  have hc0 := HS1.out.cell0
  have hc1 := HS1.out.cell1
  unfold tok0 at hc0 hc1
  have hw0 := HS.out.cell0
  have hw1 := HS.out.cell1
  have HB := Lib.hid (show Below w.heap.size w (w.alloc tok0) from below_alloc (Below.refl _ _) _)
  have HD := Lib.hid (head_at t i hi)
  rcases hpl : letterZ ((t[i]'hi).toNat : Int) with _ | _
  · go_quiet ((go_at_call 23; exact Calls.quiet_of (HL.out _ _)))
    go_wp2_with fail
    obtain ⟨W4, hW4, h0, h1, h2, h3, hB4⟩ := put4 (W := (w.alloc tok0).drewN nq) (heap_new w tok0) (pw_below_drewN HB.out _) (Nat.le_refl _) (.int .i64 0) (.string ⟨#[]⟩) (.int .i64 0) (.int .i64 0)
    unfold tok0 at hW4
    rw [← hW4]
    refine bodyPost_ret (res_tok rfl _ w.heap.size _ _ _ _ _ rfl h0 h1 h2 h3) rfl ⟨?_, hB4⟩
    unfold nameZ
    rw [HD.out, ← HX.out, hpl, if_neg (by simp)]
    exact ⟨_, _, _, _, rfl⟩
  · have HZ : nameZ ((bytesOf t).drop i) = if 24 < run innerZ ((bytesOf t).drop i) then .err 3 else .tok 1 (strOfNums (((bytesOf t).drop i).take (run innerZ ((bytesOf t).drop i)))) 0 (run innerZ ((bytesOf t).drop i)) := by
      unfold nameZ
      rw [HD.out, ← HX.out, hpl, if_pos rfl]
    have HZ := Lib.hid HZ
    have HT := Lib.hid (cut_str t i)
    go_quiet ((go_at_call 23; exact Calls.quiet_of (HL.out _ _)))
    go_wp2_with fail
    refine (HC.out _ ?_).mono ?_
    · exact HS1.out
    rintro e w' ⟨rfl, m, rfl⟩
    rcases Classical.em (24 < run innerZ ((bytesOf t).drop i)) with c | c
    · have hd : decide ((24 : Int) < ((run innerZ ((bytesOf t).drop i) : Nat) : Int)) = true := decide_eq_true (by omega)
      go_wp2_with fail
      refine (fail_any b t i 3 _ ?_).mono ?_
      · exact HS1.out
      rintro e w' ⟨rfl, m2, rfl⟩
      go_wp2_with fail
      refine ⟨rfl, ?_, ?_⟩
      · rw [HZ.out, if_pos c]; rfl
      · exact pw_below_drewN HB.out _
    · have hd : decide ((24 : Int) < ((run innerZ ((bytesOf t).drop i) : Nat) : Int)) = false := decide_eq_false (by omega)
      have hw : IntKind.i64.wrap ((i : Int) + ((run innerZ ((bytesOf t).drop i) : Nat) : Int)) = ((i + run innerZ ((bytesOf t).drop i) : Nat) : Int) := by have := HRL.out; rw [i64_w]; unfold wrap64; omega
      have hsl : ∀ W : World, (Instr.slice 9 (.string t) (some (.int .i64 (i : Int))) (some (.int .i64 ((i : Int) + ((run innerZ ((bytesOf t).drop i) : Nat) : Int)))) none).run Tryd.prog W = .ok (.string (t.extract i (i + run innerZ ((bytesOf t).drop i)))) W := fun W => by
        have := HRL.out
        rw [run_slice_string W 9 t .i64 .i64 (i : Int) ((i : Int) + ((run innerZ ((bytesOf t).drop i) : Nat) : Int)) Tryd.underlying9 (by omega) (by omega) (by omega)]
        rfl
      have HZ2 := HZ.out
      rw [if_neg c, ← HT.out] at HZ2
      have HZ2 := Lib.hid HZ2
      clear HT HZ
      go_wp2_with fail
      go_region
      obtain ⟨W4, hW4, h0, h1, h2, h3, hB4⟩ := put4 (W := (w.alloc tok0).drewN (nq + m + 1)) (heap_new w tok0) (pw_below_drewN HB.out _) (Nat.le_refl _) (.int .i64 1) (.string (t.extract i (i + run innerZ ((bytesOf t).drop i)))) (.int .i64 0) (.int .i64 0)
      go_wp2_with fail
      unfold tok0 at hW4
      rw [← hW4]
      refine bodyPost_ret (res_tok rfl _ w.heap.size _ _ _ _ _ rfl h0 h1 h2 h3) rfl ⟨?_, hB4⟩
      rw [HZ2.out]
      rfl
end Go.Proofs.YtemjgafocgnccaaDoor.X
