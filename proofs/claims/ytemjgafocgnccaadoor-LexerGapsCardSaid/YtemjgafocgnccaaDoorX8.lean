/- lexer.Lex: its contract in the form of the printed ones. -/
import Derived.Test.YtemjgafocgnccaaDoorPlA
import Derived.WalkMore
import Derived.Laws.EntriesVeiled
import Derived.Scope
import Derived.Deep.LoopGhost
set_option linter.unusedVariables false
set_option linter.unusedSimpArgs false
namespace Go.Proofs.YtemjgafocgnccaaDoor.X
open Go.RowKit Go.Proofs.YtemjgafocgnccaaDoorW.PrintWords Go.Proofs.YtemjgafocgnccaaDoorW.PrintLast Go.Proofs.YtemjgafocgnccaaDoorW.PrintMore
open Px (k30)
def LexPost (w : World) (r : List Px.S30 × Int × Int) (e : Ending) (w' : World) : Prop :=
  ∃ v0_ : Value, e = .returned (.tuple #[v0_, .int .i64 r.2.1, .int .i64 r.2.2]) ∧ Kd.R k30 30 w' w.heap.size (fun _ => True) v0_ r.1 ∧ Below w.heap.size w w'
theorem cell_of {W : World} {b : Nat} {cs : Array Value} {T : TypeId} {j : Nat} {v : Value} (h : W.heap[b]? = some (.cells cs T (0, 0))) (hj : cs[j]? = some v) : W.cell? ⟨b, j, none⟩ = some v := by
  simp [World.cell?, h, hj]
theorem frozen_of {W : World} {b : Nat} {cs : Array Value} {T : TypeId} {j : Nat} (h : W.heap[b]? = some (.cells cs T (0, 0))) : W.frozen? ⟨b, j, none⟩ = false := by
  simp [World.frozen?, h]
theorem res_lex (tmps : Array Value) (N : Nat) (w : World) (v0 v1 v2 : Value) (h2 : tmps.getD 2 undef = .pointer (some ⟨N, 0, none⟩)) (h3 : tmps.getD 3 undef = .pointer (some ⟨N + 1, 0, none⟩)) (h4 : tmps.getD 4 undef = .pointer (some ⟨N + 1 + 1, 0, none⟩))
    (c0 : w.cell? ⟨N, 0, none⟩ = some v0) (c1 : w.cell? ⟨N + 1, 0, none⟩ = some v1) (c2 : w.cell? ⟨N + 1 + 1, 0, none⟩ = some v2) :
    (results Tryd.f9 tmps).run Tryd.prog w = .ok (.tuple #[v0, v1, v2]) w := by
  have h : Tryd.f9.results = #[.cell 2 23, .cell 3 24, .cell 4 3] := rfl
  have e : ∀ i, tmps[i]?.getD undef = tmps.getD i undef := fun i => by simp
  rw [← e] at h2 h3 h4
  unfold results
  rw [h]
  simp [go_sem, h2, h3, h4, c0, c1, c2, Tryd.underlying23, Tryd.underlying24, Tryd.underlying3]
set_option maxRecDepth 100000 in
set_option maxHeartbeats 8000000 in
theorem lex_long (t : ByteArray) (ht : 20000 < t.size) (w : World) : Calls Tryd.prog 9 #[.string t] w fun e w' => LexPost w (lexZ t) e w' := by
  have hd : decide ((20000 : Int) < (t.size : Int)) = true := decide_eq_true (by omega)
  have hz : lexZ t = ([], 3, -1) := by unfold lexZ; rw [if_pos ht]
  rw [hz]
  go_enter_defers Tryd.func9, Tryd.ntmps9
  go_wp2_with fail
  go_step3
  go_wp2_with fail
  rw [Exit.noGoto_ret]
  go_wp2_with fail
  refine ⟨_, res_lex _ w.heap.size _ (.slice none 0 0) (.int .i64 3) (.int .i64 (-1)) rfl rfl rfl (by simp [go_sem]) (by simp [go_sem]) (by simp [go_sem]), _, rfl, Kd.R_nil _ _ _ _ _, ?_⟩
  exact below_alloc (below_alloc (below_alloc (Below.refl _ _) _) _) _
def Rd (N k : Nat) : Value := .func (.func k) #[.pointer (some ⟨N + 1 + 1 + 1, 0, none⟩)] #[]
/-- How the world of a scan stands: the variables' blocks N, N + 1, N + 2, the scan, the readers; the tokens so far. -/
structure LexSt (w : World) (t : ByteArray) (wr : World) (j : Nat) (v : Value) (acc : List Px.S30) : Prop where
  tk : wr.heap[w.heap.size]? = some (.cells #[v] 23 (0, 0))
  er : wr.heap[w.heap.size + 1]? = some (.cells #[.int .i64 0] 24 (0, 0))
  at_ : wr.heap[w.heap.size + 1 + 1]? = some (.cells #[.int .i64 0] 3 (0, 0))
  sc : ScanAt wr (w.heap.size + 1 + 1 + 1) t j
  rd : wr.heap[w.heap.size + 1 + 1 + 1 + 1]? = some (.cells #[Rd w.heap.size 15, Rd w.heap.size 16, Rd w.heap.size 17, Rd w.heap.size 18] 44 (0, 0))
  row : Kd.R k30 30 wr (w.heap.size + 5) (fun k => w.heap.size + 5 ≤ k) v acc
  bel : Below w.heap.size w wr
  siz : w.heap.size + 5 ≤ wr.heap.size
theorem LexSt.below {w : World} {t : ByteArray} {wr W : World} {j : Nat} {v : Value} {acc : List Px.S30} (h : LexSt w t wr j v acc) (hb : Below wr.heap.size wr W) : LexSt w t W j v acc := by
  have hs := h.siz
  refine ⟨?_, ?_, ?_, h.sc.below hb, ?_, Kd.R_below h.row hb, below_then h.bel (by omega) hb, Nat.le_trans hs hb.size⟩
  · rw [hb.block _ (by omega)]; exact h.tk
  · rw [hb.block _ (by omega)]; exact h.er
  · rw [hb.block _ (by omega)]; exact h.at_
  · rw [hb.block _ (by omega)]; exact h.rd
theorem heap_set_ne (W : World) (b o k : Nat) (u : Value) (h : ¬ b = k) : (W.setCell ⟨b, o, none⟩ u).heap[k]? = W.heap[k]? := by
  rw [Sort.setCell_eq]
  unfold Sort.mapBlock
  rw [Array.getElem?_modify, if_neg h]
theorem size_set (W : World) (b o : Nat) (u : Value) : (W.setCell ⟨b, o, none⟩ u).heap.size = W.heap.size := by
  rw [Sort.setCell_eq]
  unfold Sort.mapBlock
  simp
theorem LexSt.drewN {w : World} {t : ByteArray} {wr : World} {j : Nat} {v : Value} {acc : List Px.S30} (h : LexSt w t wr j v acc) (m : Nat) : LexSt w t (wr.drewN m) j v acc := h.below (pw_below_drewN (Below.refl _ _) m)
theorem LexSt.set {w : World} {t : ByteArray} {wr : World} {j : Nat} {v : Value} {acc : List Px.S30} (h : LexSt w t wr j v acc) (i : Nat) : LexSt w t (wr.setCell ⟨w.heap.size + 1 + 1 + 1, 1, none⟩ (.int .i64 (i : Int))) i v acc := by
  refine ⟨?_, ?_, ?_, h.sc.set i, ?_, Kd.R_far (p := ⟨w.heap.size + 1 + 1 + 1, 1, none⟩) h.row (fun k hk => Nat.ne_of_gt (show w.heap.size + 1 + 1 + 1 < k by omega)) _, h.bel.setCell (by simp; omega) _, ?_⟩
  · rw [heap_set_ne _ _ _ _ _ (by omega)]; exact h.tk
  · rw [heap_set_ne _ _ _ _ _ (by omega)]; exact h.er
  · rw [heap_set_ne _ _ _ _ _ (by omega)]; exact h.at_
  · rw [heap_set_ne _ _ _ _ _ (by omega)]; exact h.rd
  · rw [size_set]; exact h.siz
theorem heap_set_at (W : World) (b : Nat) (x u : Value) (T : TypeId) (h : W.heap[b]? = some (.cells #[x] T (0, 0))) : (W.setCell ⟨b, 0, none⟩ u).heap[b]? = some (.cells #[u] T (0, 0)) := by
  rw [Sort.setCell_eq]
  unfold Sort.mapBlock
  rw [Array.getElem?_modify, if_pos rfl, h]
  rfl
theorem LexSt.tok {w : World} {t : ByteArray} {wr W : World} {j : Nat} {v v1 : Value} {acc acc1 : List Px.S30} (h : LexSt w t wr j v acc) (hr : Kd.R k30 30 W (w.heap.size + 5) (fun k => w.heap.size + 5 ≤ k) v1 acc1) (hb : Below (w.heap.size + 5) wr W) :
    LexSt w t (W.setCell ⟨w.heap.size, 0, none⟩ v1) j v1 acc1 := by
  have hs := h.siz
  have ho : ∀ k, k < w.heap.size + 5 → W.heap[k]? = wr.heap[k]? := fun k hk => hb.block k hk
  refine ⟨heap_set_at _ _ v _ _ (by rw [ho _ (by omega)]; exact h.tk), ?_, ?_, ?_, ?_, Kd.R_far (p := ⟨w.heap.size, 0, none⟩) hr (fun k hk => Nat.ne_of_gt (show w.heap.size < k by omega)) _, (h.bel.trans ⟨hb.os, hb.tape, hb.output, hb.size, fun k hk => hb.block k (by omega)⟩).setCell (Nat.le_refl _) _, ?_⟩
  · rw [heap_set_ne _ _ _ _ _ (by omega), ho _ (by omega)]; exact h.er
  · rw [heap_set_ne _ _ _ _ _ (by omega), ho _ (by omega)]; exact h.at_
  · unfold ScanAt
    rw [heap_set_ne _ _ _ _ _ (by omega), ho _ (by omega)]; exact h.sc
  · rw [heap_set_ne _ _ _ _ _ (by omega), ho _ (by omega)]; exact h.rd
  · rw [size_set]; exact Nat.le_trans hs hb.size
theorem LexSt.facts {w : World} {t : ByteArray} {wr W : World} {j : Nat} {v : Value} {acc : List Px.S30} (h : LexSt w t wr j v acc) (hb : Below (w.heap.size + 5) wr W) : W.heap[w.heap.size]? = some (.cells #[v] 23 (0, 0)) ∧ ScanAt W (w.heap.size + 1 + 1 + 1) t j := by
  have ho : ∀ k, k < w.heap.size + 5 → W.heap[k]? = wr.heap[k]? := fun k hk => hb.block k hk
  refine ⟨by rw [ho _ (by omega)]; exact h.tk, ?_⟩
  unfold ScanAt
  rw [ho _ (by omega)]; exact h.sc
theorem alloc_old (W : World) (o : Obj) (k : Nat) (h : k < W.heap.size) : (W.alloc o).heap[k]? = W.heap[k]? := by
  show (W.heap.push o)[k]? = _
  rw [Array.getElem?_push_lt h, Array.getElem?_eq_getElem h]
theorem alloc_new (W : World) (o : Obj) (k : Nat) (h : k = W.heap.size) : (W.alloc o).heap[k]? = some o := by subst h; exact heap_new W o
theorem lexSt_start (w : World) (t : ByteArray) : LexSt w t (((((w.alloc (Obj.cells #[Value.slice none 0 0] 23)).alloc (Obj.cells #[Value.int IntKind.i64 0] 24)).alloc (Obj.cells #[Value.int IntKind.i64 0] 3)).alloc (Obj.cells #[Value.string t, Value.int IntKind.i64 0] 40)).alloc
    (Obj.cells #[Value.func (Fn.func 15) #[Value.pointer (some { block := w.heap.size + 1 + 1 + 1, off := 0 })] #[], Value.func (Fn.func 16) #[Value.pointer (some { block := w.heap.size + 1 + 1 + 1, off := 0 })] #[], Value.func (Fn.func 17) #[Value.pointer (some { block := w.heap.size + 1 + 1 + 1, off := 0 })] #[], Value.func (Fn.func 18) #[Value.pointer (some { block := w.heap.size + 1 + 1 + 1, off := 0 })] #[]] 44)) 0 (.slice none 0 0) [] := by
  refine ⟨?_, ?_, ?_, ?_, ?_, Kd.R_nil _ _ _ _ _, below_alloc (below_alloc (below_alloc (below_alloc (below_alloc (Below.refl _ _) _) _) _) _) _, by simp⟩
  · rw [alloc_old _ _ _ (by simp; omega), alloc_old _ _ _ (by simp; omega), alloc_old _ _ _ (by simp; omega), alloc_old _ _ _ (by simp)]; exact heap_new _ _
  · rw [alloc_old _ _ _ (by simp), alloc_old _ _ _ (by simp), alloc_old _ _ _ (by simp)]; exact alloc_new _ _ _ (by simp)
  · rw [alloc_old _ _ _ (by simp), alloc_old _ _ _ (by simp)]; exact alloc_new _ _ _ (by simp)
  · unfold ScanAt; rw [alloc_old _ _ _ (by simp)]; exact alloc_new _ _ _ (by simp)
  · exact alloc_new _ _ _ (by simp)
theorem lex_dies (w : World) (t : ByteArray) (wr : World) (j : Nat) (v : Value) (acc : List Px.S30) (h : LexSt w t wr j v acc) (x : Int) (i : Nat) (r : List Px.S30 × Int × Int) (hz : r = ([], x, (i : Int))) (tmps : Array Value)
    (h2 : tmps.getD 2 undef = .pointer (some ⟨w.heap.size, 0, none⟩)) (h3 : tmps.getD 3 undef = .pointer (some ⟨w.heap.size + 1, 0, none⟩)) (h4 : tmps.getD 4 undef = .pointer (some ⟨w.heap.size + 1 + 1, 0, none⟩)) :
    Leaves Tryd.prog Tryd.f9 tmps (fun e w' => LexPost w r e w') [{ target := .fn (.func 14) #[.pointer (some ⟨w.heap.size, 0, none⟩), .pointer (some ⟨w.heap.size + 1, 0, none⟩), .pointer (some ⟨w.heap.size + 1 + 1, 0, none⟩)], args := #[] }] (.panicking (faultZ x i)) wr := by
  have hs := h.siz
  refine leaves_cons (f := 14) (args := #[.pointer (some ⟨w.heap.size, 0, none⟩), .pointer (some ⟨w.heap.size + 1, 0, none⟩), .pointer (some ⟨w.heap.size + 1 + 1, 0, none⟩)]) (by simp) (by simp [go_sem]) ?_
  refine (catch_panicking w.heap.size x i [] w wr v 0 0 h.bel (by omega) h.tk h.er h.at_).mono ?_
  rintro e u' w'' ⟨rfl, rfl, c0, c1, c2, hb⟩
  subst hz
  exact ⟨_, res_lex tmps w.heap.size w'' _ _ _ h2 h3 h4 c0 c1 c2, _, rfl, Kd.R_nil k30 30 w'' w.heap.size _, hb⟩
theorem lex_ends (w : World) (t : ByteArray) (wr : World) (j : Nat) (v : Value) (acc : List Px.S30) (h : LexSt w t wr j v acc) (r : List Px.S30 × Int × Int) (hz : r = (acc, 0, 0)) (tmps : Array Value)
    (h2 : tmps.getD 2 undef = .pointer (some ⟨w.heap.size, 0, none⟩)) (h3 : tmps.getD 3 undef = .pointer (some ⟨w.heap.size + 1, 0, none⟩)) (h4 : tmps.getD 4 undef = .pointer (some ⟨w.heap.size + 1 + 1, 0, none⟩)) :
    Leaves Tryd.prog Tryd.f9 tmps (fun e w' => LexPost w r e w') [{ target := .fn (.func 14) #[.pointer (some ⟨w.heap.size, 0, none⟩), .pointer (some ⟨w.heap.size + 1, 0, none⟩), .pointer (some ⟨w.heap.size + 1 + 1, 0, none⟩)], args := #[] }] .returning
      (((wr.setCell ⟨w.heap.size, 0, none⟩ v).setCell ⟨w.heap.size + 1, 0, none⟩ (.int .i64 0)).setCell ⟨w.heap.size + 1 + 1, 0, none⟩ (.int .i64 0)) := by
  have hs := h.siz
  refine leaves_cons (f := 14) (args := #[.pointer (some ⟨w.heap.size, 0, none⟩), .pointer (some ⟨w.heap.size + 1, 0, none⟩), .pointer (some ⟨w.heap.size + 1 + 1, 0, none⟩)]) (by simp) (by simp [go_sem]) ?_
  refine (catch_idle _ _ _ _).mono ?_
  rintro e u' w'' ⟨rfl, rfl, rfl⟩
  refine ⟨_, res_lex tmps w.heap.size _ v (.int .i64 0) (.int .i64 0) h2 h3 h4 ?_ ?_ ?_, v, ?_, ?_, ?_⟩
  · exact cell_of (by rw [heap_set_ne _ _ _ _ _ (by omega), heap_set_ne _ _ _ _ _ (by omega)]; exact heap_set_at _ _ _ _ _ h.tk) rfl
  · exact cell_of (by rw [heap_set_ne _ _ _ _ _ (by omega)]; exact heap_set_at _ _ _ _ _ (by rw [heap_set_ne _ _ _ _ _ (by omega)]; exact h.er)) rfl
  · exact cell_of (heap_set_at _ _ _ _ _ (by rw [heap_set_ne _ _ _ _ _ (by omega), heap_set_ne _ _ _ _ _ (by omega)]; exact h.at_)) rfl
  · rw [hz]
  · rw [hz]
    refine Kd.R_mono (Kd.R_lower (Kd.R_far (p := ⟨w.heap.size + 1 + 1, 0, none⟩) (Kd.R_far (p := ⟨w.heap.size + 1, 0, none⟩) (Kd.R_far (p := ⟨w.heap.size, 0, none⟩) h.row ?_ _) ?_ _) ?_ _) (by omega)) (fun _ _ => trivial)
    · exact fun k hk => Nat.ne_of_gt (show w.heap.size < k by omega)
    · exact fun k hk => Nat.ne_of_gt (show w.heap.size + 1 < k by omega)
    · exact fun k hk => Nat.ne_of_gt (show w.heap.size + 1 + 1 < k by omega)
  · exact ((h.bel.setCell (Nat.le_refl _) _).setCell (by simp) _).setCell (by simp; omega) _
def readF (F : Nat) (l : List Int) : Found := if F = 15 then nameZ l else if F = 16 then numberZ l else if F = 17 then quotedZ l else symbolZ l
theorem reader_any (q : Nat) (hq : q < 4) (b : Nat) (t : ByteArray) (i : Nat) (hi : i < t.size) (ht : t.size ≤ 21000) (w : World) (hs : ScanAt w b t i) :
    Calls Tryd.prog (15 + q) #[.pointer (some ⟨b, 0, none⟩)] w fun e w' => (readF (15 + q) ((bytesOf t).drop i)).says i e ∧ Below w.heap.size w w' := by
  rcases q with _ | _ | _ | _ | q
  · exact name_any b t i hi ht w hs
  · exact number_any b t i hi ht w hs
  · exact quoted_any b t i hi ht w hs
  · exact symbol_any b t i hi ht w hs
  · omega
theorem reader_enters (q : Nat) (hq : q < 4) : ∀ args w, (callFunc (15 + q) args).run Tryd.prog w = .ok (.enter (15 + q) args) w := by
  rcases q with _ | _ | _ | _ | q
  · exact enters_of Tryd.func15 (by kernel_rfl) rfl
  · exact enters_of Tryd.func16 (by kernel_rfl) rfl
  · exact enters_of Tryd.func17 (by kernel_rfl) rfl
  · exact enters_of Tryd.func18 (by kernel_rfl) rfl
  · omega
theorem reader_index (N q : Nat) (hq : q < 4) (W : World) : (Instr.index 42 (.agg #[Rd N 15, Rd N 16, Rd N 17, Rd N 18]) (.int .i64 (q : Int))).run Tryd.prog W = .ok (Rd N (15 + q)) W := by
  rcases q with _ | _ | _ | _ | q
  · simp [Instr.index, go_sem, Tryd.underlying42]
  · simp [Instr.index, go_sem, Tryd.underlying42]
  · simp [Instr.index, go_sem, Tryd.underlying42]
  · simp [Instr.index, go_sem, Tryd.underlying42]
  · omega
theorem tok_of (l : List Int) (q : Nat) (hq : q < 4) (hn : ∀ p, p < q → readF (15 + p) l = .none) (h : readF (15 + q) l ≠ .none) : tokZ l = readF (15 + q) l := by
  unfold tokZ
  rcases q with _ | _ | _ | _ | q
  · have e : readF (15 + 0) l = nameZ l := rfl
    rw [e] at h ⊢
    cases hr : nameZ l with
    | none => exact absurd hr h
    | err x => rfl
    | tok k s n m => rfl
  · have e0 : nameZ l = .none := hn 0 (by omega)
    have e : readF (15 + (0 + 1)) l = numberZ l := rfl
    rw [e] at h ⊢
    rw [e0]
    cases hr : numberZ l with
    | none => exact absurd hr h
    | err x => rfl
    | tok k s n m => rfl
  · have e0 : nameZ l = .none := hn 0 (by omega)
    have e1 : numberZ l = .none := hn 1 (by omega)
    have e : readF (15 + (0 + 1 + 1)) l = quotedZ l := rfl
    rw [e] at h ⊢
    rw [e0, e1]
    cases hr : quotedZ l with
    | none => exact absurd hr h
    | err x => rfl
    | tok k s n m => rfl
  · have e0 : nameZ l = .none := hn 0 (by omega)
    have e1 : numberZ l = .none := hn 1 (by omega)
    have e2 : quotedZ l = .none := hn 2 (by omega)
    rw [e0, e1, e2]
    rfl
  · omega
theorem tok_none (l : List Int) (hn : ∀ p, p < 4 → readF (15 + p) l = .none) : tokZ l = .none := by
  have e0 : nameZ l = .none := hn 0 (by omega)
  have e1 : numberZ l = .none := hn 1 (by omega)
  have e2 : quotedZ l = .none := hn 2 (by omega)
  have e3 : symbolZ l = .none := hn 3 (by omega)
  unfold tokZ
  rw [e0, e1, e2]
  exact e3
theorem lexL_err (g : Nat) (l : List Int) (i : Nat) (acc : List Px.S30) (x : Int) (hl : l ≠ []) (hg : 0 < g) (h : tokZ l = .err x) : lexL g l i acc = ([], x, (i : Int)) := by
  obtain ⟨g, rfl⟩ : ∃ m, g = m + 1 := ⟨g - 1, by omega⟩
  cases l with
  | nil => exact absurd rfl hl
  | cons c r => simp only [lexL, h]
theorem lexL_none (g : Nat) (l : List Int) (i : Nat) (acc : List Px.S30) (hl : l ≠ []) (hg : 0 < g) (h : tokZ l = .none) : lexL g l i acc = ([], 5, (i : Int)) := by
  obtain ⟨g, rfl⟩ : ∃ m, g = m + 1 := ⟨g - 1, by omega⟩
  cases l with
  | nil => exact absurd rfl hl
  | cons c r => simp only [lexL, h]
theorem lexL_tok (g : Nat) (l : List Int) (i : Nat) (acc : List Px.S30) (k : Int) (s : ByteArray) (n : Int) (m : Nat) (hl : l ≠ []) (h : tokZ l = .tok k s n m) : lexL (g + 1) l i acc = if acc.length = 5000 then ([], 3, (i : Int)) else lexL g (l.drop (m + gapL false (l.drop m))) (i + (m + gapL false (l.drop m))) (acc ++ [⟨k, s, n, (i : Int)⟩]) := by
  cases l with
  | nil => exact absurd rfl hl
  | cons c r => simp only [lexL, h]
set_option maxRecDepth 100000 in
set_option maxHeartbeats 8000000 in
theorem lex_short (t : ByteArray) (ht : t.size ≤ 20000) (w : World) : Calls Tryd.prog 9 #[.string t] w fun e w' => LexPost w (lexZ t) e w' := by
  have hd : decide ((20000 : Int) < (t.size : Int)) = false := decide_eq_false (by omega)
  have hmf : ∀ (fn : Fn) (first cap : Array Value) (w : World), (Instr.makeFunc fn first cap).run Tryd.prog w = .ok (.func fn first cap) w := fun _ _ _ _ => rfl
  have HST := Lib.hid (lexSt_start w t)
  have HZ := Lib.hid (show lexZ t = lexL (t.size + 1) ((bytesOf t).drop (gapL false (bytesOf t))) (gapL false (bytesOf t)) [] by unfold lexZ; rw [if_neg (by omega)])
  have HG := Lib.hid (gap_le (bytesOf t) false)
  go_enter_defers Tryd.func9, Tryd.ntmps9
  go_wp2_with fail
  go_step3
  go_wp2_with fail
  refine (skip_any (w.heap.size + 1 + 1 + 1) t 0 (Nat.zero_le _) (by omega) _ HST.out.sc).mono ?_
  rintro e w' ⟨rfl, m, hw'⟩
  have hst6 : LexSt w t w' (gapL false (bytesOf t)) (.slice none 0 0) [] := by
    rw [hw']
    have := (HST.out.drewN m).set (gapL false (bytesOf t))
    simpa using this
  have HS6 := Lib.hid hst6
  clear hw' hst6 HST
  go_wp2_with fail
  go_step3
  go_wp2_with fail
  have HL : (bytesOf t).length = t.size := by unfold bytesOf; rw [List.length_map, Array.length_toList]; rfl
  go_loopg [] (t.size + 1) (fun g wr => ∃ (j : Nat) (v : Value) (acc : List Px.S30), LexSt w t wr j v acc ∧ j ≤ t.size ∧ acc.length ≤ 5000 ∧ t.size - j < g ∧ lexL g ((bytesOf t).drop j) j acc = lexZ t)
  case atStart => exact ⟨_, _, _, HS6.out, by have := HG.out; omega, by simp, by omega, HZ.out.symm⟩
  case round =>
    obtain ⟨j, v, acc, hst, hj, hacc, hfuel, hlex⟩ := hrel
    obtain ⟨G, hG⟩ : ∃ G, G = gk := ⟨_, rfl⟩
    subst hG
    obtain ⟨A, cp, rfl⟩ := Kd.R_slice hst.row
    have HS := Lib.hid hst
    have HLX := Lib.hid hlex
    have hc1 := hst.sc.cell1
    have htk : wr.cell? ⟨w.heap.size, 0, none⟩ = some (.slice A acc.length cp) := cell_of hst.tk rfl
    clear hst hlex HS6 HZ HG
    rcases Classical.em (j < t.size) with c | c
    · have hne : (bytesOf t).drop j ≠ [] := by
        intro h
        have := congrArg List.length h
        rw [drop_len] at this
        simp at this; omega
      have HNE := Lib.hid hne
      clear hne
      have hd2 : decide (((j : Nat) : Int) < (t.size : Int)) = true := decide_eq_true (by omega)
      have r0 : wr.cell? ⟨w.heap.size + 1 + 1 + 1 + 1, 0, none⟩ = some (Rd w.heap.size 15) := cell_of HS.out.rd rfl
      have r1 : wr.cell? ⟨w.heap.size + 1 + 1 + 1 + 1, 1, none⟩ = some (Rd w.heap.size 16) := cell_of HS.out.rd rfl
      have r2 : wr.cell? ⟨w.heap.size + 1 + 1 + 1 + 1, 2, none⟩ = some (Rd w.heap.size 17) := cell_of HS.out.rd rfl
      have r3 : wr.cell? ⟨w.heap.size + 1 + 1 + 1 + 1, 3, none⟩ = some (Rd w.heap.size 18) := cell_of HS.out.rd rfl
      unfold Rd at r0 r1 r2 r3
      go_wp2_with fail
      clear r0 r1 r2 r3 hc1 htk hd2
      have HJ := Lib.hid (And.intro hj (And.intro hacc hfuel))
      clear hj hacc hfuel
      go_loopg [39] 4 (fun g s39 wx => ∃ q : Nat, q + g = 4 ∧ s39 = .int .i64 (q : Int) ∧ LexSt w t wx j (.slice A acc.length cp) acc ∧ ∀ p, p < q → readF (15 + p) ((bytesOf t).drop j) = .none)
      case atStart => exact ⟨0, rfl, rfl, HS.out, fun p hp => by omega⟩
      case round =>
        clear HS
        obtain ⟨q, hq, rfl, hst, hnone⟩ := hrel
        have HS := Lib.hid hst
        have HN := Lib.hid hnone
        clear hst hnone
        rcases Classical.em (q < 4) with c4 | c4
        · have hd4 : decide (((q : Nat) : Int) < 4) = true := decide_eq_true (by omega)
          have hix := reader_index w.heap.size q c4
          unfold Rd at hix
          have hen := reader_enters q c4
          have HC := Lib.hid (reader_any q c4 (w.heap.size + 1 + 1 + 1) t j c (by omega))
          have HTK := Lib.hid (fun h => tok_of ((bytesOf t).drop j) q c4 HN.out h)
          generalize hF : 15 + q = F at *
          go_wp2_with fail
          refine (HC.out _ HS.out.sc).mono ?_
          rintro e W5 ⟨hsay, hb5⟩
          have HS5 := Lib.hid (HS.out.below hb5)
          have hz5 : w.heap.size + 5 ≤ W5.heap.size := HS5.out.siz
          clear hb5 hix hen HC
          cases hr : readF F ((bytesOf t).drop j) with
          | err x =>
            have HTK2 := HTK.out (by rw [hr]; simp)
            rw [hr] at hsay HTK2
            have he : e = .panicked (faultZ x j) := hsay
            subst he
            have hz := HLX.out
            rw [lexL_err G _ j acc x HNE.out (by have := HJ.out; omega) HTK2] at hz
            go_wp2_with fail
            exact lex_dies w t W5 j _ acc HS5.out x j (lexZ t) hz.symm _ rfl rfl rfl
          | none =>
            rw [hr] at hsay
            obtain ⟨k, s, n, a, rfl⟩ := hsay
            go_wp2_with fail
            go_roundg (gk - 1)
            case measure => omega
            case rel =>
              refine ⟨q + 1, by omega, by simp, HS5.out.below (below_alloc (Below.refl _ _) _), fun p hp => ?_⟩
              by_cases e : p = q
              · subst e; rw [hF]; exact hr
              · exact HN.out p (by omega)
          | tok kd s n len =>
            have HTK2 := HTK.out (by rw [hr]; simp)
            rw [hr] at hsay HTK2
            have he : e = .returned (.tuple #[.agg #[.int .i64 kd, .string s, .int .i64 n, .int .i64 0], .int .i64 (len : Int)]) := hsay
            subst he
            have htl := tok_len HNE.out HTK2
            rw [drop_len] at htl
            obtain ⟨G, rfl⟩ : ∃ m, G = m + 1 := ⟨G - 1, by have := HJ.out; omega⟩
            have hz := HLX.out
            rw [lexL_tok G _ j acc kd s n len HNE.out HTK2] at hz
            have HZ := Lib.hid hz
            clear hz
            have hl0 : (((len : Nat) : Int) == 0) = false := beq_eq_false_iff_ne.2 (by omega)
            have hl1 : ¬ ((len : Nat) : Int) = 0 := by omega
            have hl2 : ¬ len = 0 := by omega
            have HS6 := Lib.hid (HS5.out.below (below_alloc (Below.refl W5.heap.size W5) (.cells #[.int .i64 kd, .string s, .int .i64 n, .int .i64 0] 30)))
            have htk6 : (W5.alloc (.cells #[.int .i64 kd, .string s, .int .i64 n, .int .i64 0] 30)).cell? ⟨w.heap.size, 0, none⟩ = some (.slice A acc.length cp) := cell_of HS6.out.tk rfl
            have htk : W5.cell? ⟨w.heap.size, 0, none⟩ = some (.slice A acc.length cp) := cell_of HS5.out.tk rfl
            rcases Classical.em (acc.length = 5000) with c5 | c5
            · have hd5 : (((acc.length : Nat) : Int) == 5000) = true := beq_iff_eq.2 (by omega)
              go_wp2_with fail
              refine (fail_any (w.heap.size + 1 + 1 + 1) t j 3 _ ?_).mono ?_
              · exact HS6.out.sc
              rintro e w5 ⟨rfl, m5, rfl⟩
              have hz := HZ.out
              rw [if_pos c5] at hz
              go_wp2_with fail
              exact lex_dies w t _ j _ acc (HS6.out.drewN m5) 3 j (lexZ t) hz.symm _ rfl rfl rfl
            · have hd5 : (((acc.length : Nat) : Int) == 5000) = false := beq_eq_false_iff_ne.2 (by omega)
              have hc1 := HS5.out.sc.cell1
              have hc6 := HS6.out.sc.cell1
              have HS7 := Lib.hid (HS5.out.below (below_alloc (Below.refl W5.heap.size W5) (.cells #[.int .i64 kd, .string s, .int .i64 n, .int .i64 (j : Int)] 30)))
              have htk7 : (W5.alloc (.cells #[.int .i64 kd, .string s, .int .i64 n, .int .i64 (j : Int)] 30)).cell? ⟨w.heap.size, 0, none⟩ = some (.slice A acc.length cp) := cell_of HS7.out.tk rfl
              have hc7 := HS7.out.sc.cell1
              have hwl : IntKind.i64.wrap ((j : Int) + (len : Int)) = (j : Int) + (len : Int) := by rw [i64_w]; unfold wrap64; omega
              go_wp2_with (at_builtin; refine Kd.R_append k30 (w0 := W5.alloc (.cells #[.int .i64 kd, .string s, .int .i64 n, .int .i64 (j : Int)] 30)) (W := W5.alloc (.cells #[.int .i64 kd, .string s, .int .i64 n, .int .i64 (j : Int)] 30)) (w.heap.size + 5) rfl (.tmp 59) (.tmp 61) 23 30 (.agg #[(.int .i64 0), (.string ⟨#[]⟩), (.int .i64 0), (.int .i64 0)]) 40 rfl Tryd.underlying23 Px.info30 rfl (by decide) (by decide) (.slice A acc.length cp) acc ⟨kd, s, n, (j : Int)⟩ [.int .i64 kd, .string s, .int .i64 n, .int .i64 (j : Int)] (fun k => w.heap.size + 5 ≤ k) (fun _ => False) ?a1 ?a2 ?a3 ?a4 ?a5 ?a6 ?a7 ?a8 ?a9 ?a10; (case a1 => exact rfl); (case a2 => (rw [World.size_alloc]; exact rfl)); (case a3 => exact Px.k30_mkM _ _ _ _); (case a4 => exact (fun k hk => hk.elim)); (case a5 => exact (fun k hk => Nat.le_trans HS7.out.siz hk)); (case a6 => exact HS7.out.row); (case a7 => exact (Below.refl _ _)); (case a8 => exact HS7.out.siz); (case a9 => exact (by have := HJ.out; omega)); intro v1 w1 hr1 hb1 _ _; obtain ⟨A1, cp1, rfl⟩ := Kd.R_slice hr1; obtain ⟨gtk, gsc⟩ := HS7.out.facts hb1; have g0 : w1.cell? ⟨w.heap.size, 0, none⟩ = some (.slice A acc.length cp) := cell_of gtk rfl; have g0f : w1.frozen? ⟨w.heap.size, 0, none⟩ = false := frozen_of gtk; have g1 := gsc.cell1; have g1f := gsc.frozen1; have HR1 := Lib.hid hr1; have HB1 := Lib.hid hb1; clear hr1 hb1 gtk gsc)
              have h8 := (HS7.out.tok HR1.out HB1.out).set (j + len)
              simp only [List.length_append, List.length_cons, List.length_nil, Nat.zero_add, Int.natCast_add] at h8
              refine (skip_any (w.heap.size + 1 + 1 + 1) t (j + len) (by omega) (by omega) _ ?_).mono ?_
              · exact h8.sc
              rintro e W9 ⟨rfl, m9, hW9⟩
              have h9 := (h8.drewN m9).set (j + len + gapL false ((bytesOf t).drop (j + len)))
              rw [← hW9] at h9
              have hz := HZ.out
              rw [if_neg c5, List.drop_drop, List.drop_drop] at hz
              have hgl := gap_le ((bytesOf t).drop (j + len)) false
              rw [drop_len] at hgl
              have HZ2 := Lib.hid hz
              have HS9 := Lib.hid h9
              clear hW9 h8 h9 hz
              go_wp2_with fail
              go_roundg G
              case measure => omega
              case rel =>
                have hacc := HJ.out.2.1
                have hfu := HJ.out.2.2
                have h9 := HS9.out
                rw [Nat.add_assoc] at h9
                exact ⟨j + (len + gapL false ((bytesOf t).drop (j + len))), _, _, h9, by omega, by simp; omega, by omega, HZ2.out⟩
        · have hd4 : decide (((q : Nat) : Int) < 4) = false := decide_eq_false (by omega)
          go_wp2_with fail
          refine (fail_any (w.heap.size + 1 + 1 + 1) t j 5 _ HS.out.sc).mono ?_
          rintro e w5 ⟨rfl, m5, rfl⟩
          have hz := HLX.out
          rw [lexL_none G _ j acc HNE.out (by have := HJ.out; omega) (tok_none _ (fun p hp => HN.out p (by omega)))] at hz
          go_wp2_with fail
          exact lex_dies w t _ j _ acc (HS.out.drewN m5) 5 j (lexZ t) hz.symm _ rfl rfl rfl
    · have hd2 : decide (((j : Nat) : Int) < (t.size : Int)) = false := decide_eq_false (by omega)
      have e0 : wr.cell? ⟨w.heap.size + 1, 0, none⟩ = some (.int .i64 0) := cell_of HS.out.er rfl
      have e1 : wr.cell? ⟨w.heap.size + 1 + 1, 0, none⟩ = some (.int .i64 0) := cell_of HS.out.at_ rfl
      have f0 : wr.frozen? ⟨w.heap.size, 0, none⟩ = false := frozen_of HS.out.tk
      have f1 : wr.frozen? ⟨w.heap.size + 1, 0, none⟩ = false := frozen_of HS.out.er
      have f2 : wr.frozen? ⟨w.heap.size + 1 + 1, 0, none⟩ = false := frozen_of HS.out.at_
      go_wp2_with fail
      rw [Exit.noGoto_ret]
      refine lex_ends w t wr j _ acc HS.out (lexZ t) ?_ _ rfl rfl rfl
      rw [← HLX.out, drop_end t j (by omega)]
      cases G <;> rfl
def lexer_Lex.f (a0 : ByteArray) : Option (List Px.S30 × Int × Int) := if a0.size ≤ 21000 then some (lexZ a0) else none
theorem lexer_Lex.calls (a0 : ByteArray) (r1 : List Px.S30) (r2 : Int) (r3 : Int) (w : World) (h : lexer_Lex.f a0 = some (r1, r2, r3)) :
    Calls Tryd.prog 9 #[.string a0] w fun e w' => ∃ v0_ : Value, e = .returned (.tuple #[v0_, .int .i64 r2, .int .i64 r3]) ∧ Kd.R k30 30 w' w.heap.size (fun _ => True) v0_ r1 ∧ Below w.heap.size w w' := by
  unfold lexer_Lex.f at h
  split at h
  case isFalse => cases h
  have hz := Option.some.inj h
  by_cases c : 20000 < a0.size
  · refine (lex_long a0 c w).mono ?_
    rintro e w' ⟨v, rfl, h1, h2⟩
    rw [hz] at h1 ⊢
    exact ⟨v, rfl, h1, h2⟩
  · refine (lex_short a0 (by omega) w).mono ?_
    rintro e w' ⟨v, rfl, h1, h2⟩
    rw [hz] at h1 ⊢
    exact ⟨v, rfl, h1, h2⟩
end Go.Proofs.YtemjgafocgnccaaDoor.X
