/- The statement ValueTexts's way, walked. -/
import Derived.Test.YthgppbpmcjkadaaGreatDoorX10
import Derived.Test.YthgppbpmcjkadaaGreatDoorXn1
import Derived.Test.YthgppbpmcjkadaaGreatDoorPlH
import Derived.Deep.RegionHeld3
set_option linter.unusedVariables false
set_option linter.unusedSimpArgs false
namespace Go.Proofs.YthgppbpmcjkadaaGreatDoor.X
open Go.RowKit Go.Proofs.YthgppbpmcjkadaaGreatDoorW.PrintWords Go.Proofs.YthgppbpmcjkadaaGreatDoorW.PrintLast Go.Proofs.YthgppbpmcjkadaaGreatDoorW.PrintMore
attribute [local go_sem high] Px.eqA23

def TSQ (w W : World) (k n : Int) (t : ByteArray) (k' n' : Int) (t' : ByteArray) : Prop := Below w.heap.size w W ∧ W.heap[w.heap.size]? = some (.cells #[.int .i64 k, .int .i64 n, .string t] 23 (0, 0)) ∧ W.heap[w.heap.size + 1]? = some (.cells #[.int .i64 k', .int .i64 n', .string t'] 23 (0, 0))
theorem ts_all {w W : World} {k n : Int} {t : ByteArray} {k' n' : Int} {t' : ByteArray} (h : TSQ w W k n t k' n' t') : W.cell? ⟨w.heap.size, 0, none⟩ = some (.int .i64 k) ∧ W.cell? ⟨w.heap.size, 1, none⟩ = some (.int .i64 n) ∧ W.cell? ⟨w.heap.size, 2, none⟩ = some (.string t) ∧ W.cell? ⟨w.heap.size + 1, 0, none⟩ = some (.int .i64 k') ∧ W.cell? ⟨w.heap.size + 1, 1, none⟩ = some (.int .i64 n') ∧ W.cell? ⟨w.heap.size + 1, 2, none⟩ = some (.string t') ∧ TSQ w W k n t k' n' t' := by
  have h1 := (h_cells h.2.1).1
  have h2 := (h_cells h.2.2).1
  exact ⟨h1.1, h1.2.1, h1.2.2, h2.1, h2.2.1, h2.2.2, h⟩
theorem ts_step {w W W' : World} {k n : Int} {t : ByteArray} {k' n' : Int} {t' : ByteArray} (h : W.cell? ⟨w.heap.size, 0, none⟩ = some (.int .i64 k) ∧ W.cell? ⟨w.heap.size, 1, none⟩ = some (.int .i64 n) ∧ W.cell? ⟨w.heap.size, 2, none⟩ = some (.string t) ∧ W.cell? ⟨w.heap.size + 1, 0, none⟩ = some (.int .i64 k') ∧ W.cell? ⟨w.heap.size + 1, 1, none⟩ = some (.int .i64 n') ∧ W.cell? ⟨w.heap.size + 1, 2, none⟩ = some (.string t') ∧ TSQ w W k n t k' n' t') (hb : Below W.heap.size W W') : W'.cell? ⟨w.heap.size, 0, none⟩ = some (.int .i64 k) ∧ W'.cell? ⟨w.heap.size, 1, none⟩ = some (.int .i64 n) ∧ W'.cell? ⟨w.heap.size, 2, none⟩ = some (.string t) ∧ W'.cell? ⟨w.heap.size + 1, 0, none⟩ = some (.int .i64 k') ∧ W'.cell? ⟨w.heap.size + 1, 1, none⟩ = some (.int .i64 n') ∧ W'.cell? ⟨w.heap.size + 1, 2, none⟩ = some (.string t') ∧ TSQ w W' k n t k' n' t' := by
  have hs := h.2.2.2.2.2.2
  exact ts_all ⟨hs.1.trans (hb.mono hs.1.size), keep1 hb hs.2.1, keep1 hb hs.2.2⟩
theorem ts_gt {w W : World} {k n : Int} {t : ByteArray} {k' n' : Int} {t' : ByteArray} (hG : GT w) (h : W.cell? ⟨w.heap.size, 0, none⟩ = some (.int .i64 k) ∧ W.cell? ⟨w.heap.size, 1, none⟩ = some (.int .i64 n) ∧ W.cell? ⟨w.heap.size, 2, none⟩ = some (.string t) ∧ W.cell? ⟨w.heap.size + 1, 0, none⟩ = some (.int .i64 k') ∧ W.cell? ⟨w.heap.size + 1, 1, none⟩ = some (.int .i64 n') ∧ W.cell? ⟨w.heap.size + 1, 2, none⟩ = some (.string t') ∧ TSQ w W k n t k' n' t') : GT W := GT.below hG h.2.2.2.2.2.2.1
theorem parse_nil : parseR [] = (0, 0, bs [], 4) := by
  unfold parseR
  split
  · rfl
  · rename_i k n t hp
    obtain ⟨a, b⟩ := text_parse hp
    exact absurd b (text_ne a)
theorem text_short {k n : Int} {t : List UInt8} (h : ValidP k n t) (hl : t.length ≤ 500) : (textL k n t).length ≤ 2000 := by
  by_cases hk : k = 1
  · subst hk
    have e : textL 1 n t = 34 :: (quoteB t ++ [34]) := by
      unfold textL
      rw [if_pos (valid_iff.2 h), if_pos rfl]
    have := quote_size t
    have := more_le t
    rw [e]; simp; omega
  · have := text_len h hk; omega

set_option maxRecDepth 100000 in
set_option maxHeartbeats 4000000 in
theorem texts_s (k n : Int) (t : ByteArray) (k' n' : Int) (t' u : ByteArray) (w : World) (hG : GT w) (hs : shortB [⟨k, n, t⟩, ⟨k', n', t'⟩] = false)  :
    Calls Tryz.prog 5 #[.agg #[.int .i64 k, .int .i64 n, .string t], .agg #[.int .i64 k', .int .i64 n', .string t'], .string u] w fun e w' => HeadPost w e w' := by
  have HG := Lib.hid hG
  clear hG
  have HSH := Lib.hid ((short_f [⟨k, n, t⟩, ⟨k', n', t'⟩] (by simp) 10 (by simp)).trans (congrArg some hs))
  clear hs
  go_enter Tryz.func5, Tryz.ntmps5
  go_wp2_with fail
  have KA := heap_new w (.cells #[.int .i64 k, .int .i64 n, .string t] 23)
  have KB := heap_new (w.alloc (.cells #[.int .i64 k, .int .i64 n, .string t] 23)) (.cells #[.int .i64 k', .int .i64 n', .string t'] 23)
  rw [show (w.alloc (.cells #[.int .i64 k, .int .i64 n, .string t] 23)).heap.size = w.heap.size + 1 by simp] at KB
  have KA := keepA (o' := .cells #[.int .i64 k', .int .i64 n', .string t'] 23) KA
  have K_ := Lib.hid KA
  clear KA
  have KA := K_
  clear K_
  have K_ := Lib.hid KB
  clear KB
  have KB := K_
  clear K_
  have HB0 := Lib.hid (((Below.refl w.heap.size w).alloc (Nat.le_refl _) (.cells #[.int .i64 k, .int .i64 n, .string t] 23)).alloc (by simp) (.cells #[.int .i64 k', .int .i64 n', .string t'] 23))
  refine (cleanselaw02_head.calls true _ (GT.below HG.out HB0.out) rfl).mono ?_
  rintro e w1 ⟨rfl, hb⟩
  have K_ := Lib.hid (keep1 hb KA.out)
  clear KA
  have KA := K_
  clear K_
  have K_ := Lib.hid (keep1 hb KB.out)
  clear KB
  have KB := K_
  clear K_
  have HB1 := Lib.hid (HB0.out.trans (hb.mono HB0.out.size))
  clear hb
  obtain ⟨⟨cA0, cA1, cA2⟩, _⟩ := h_cells KA.out
  obtain ⟨⟨cB0, cB1, cB2⟩, _⟩ := h_cells KB.out
  go_wp2_with fail
  clear cA0 cA1 cA2 cB0 cB1 cB2
  have K_ := Lib.hid (keepA (o' := .cells #[.int .i64 k, .int .i64 n, .string t, .int .i64 k', .int .i64 n', .string t'] 23) KA.out)
  clear KA
  have KA := K_
  clear K_
  have K_ := Lib.hid (keepA (o' := .cells #[.int .i64 k, .int .i64 n, .string t, .int .i64 k', .int .i64 n', .string t'] 23) KB.out)
  clear KB
  have KB := K_
  clear K_
  have HB1s := Lib.hid (HB1.out.alloc HB1.out.size (.cells #[.int .i64 k, .int .i64 n, .string t, .int .i64 k', .int .i64 n', .string t'] 23))
  refine (Px.cleanselaw02_short.calls 10 _ 2 [⟨k, n, t⟩, ⟨k', n', t'⟩] false _ (row2 (heap_new w1 _)) (Nat.le_refl _) HSH.out).mono ?_
  rintro e w2 ⟨rfl, hd⟩
  have hb := hd.below
  clear hd
  have K_ := Lib.hid (keep1 hb KA.out)
  clear KA
  have KA := K_
  clear K_
  have K_ := Lib.hid (keep1 hb KB.out)
  clear KB
  have KB := K_
  clear K_
  have HB2 := Lib.hid (HB1s.out.trans (hb.mono HB1s.out.size))
  clear hb
  obtain ⟨⟨cA0, cA1, cA2⟩, _⟩ := h_cells KA.out
  obtain ⟨⟨cB0, cB1, cB2⟩, _⟩ := h_cells KB.out
  go_wp2_with fail
  go_ret
  exact ⟨rfl, HB2.out⟩

set_option maxRecDepth 100000 in
set_option maxHeartbeats 4000000 in
theorem texts_l (k n : Int) (t : ByteArray) (k' n' : Int) (t' u : ByteArray) (w : World) (hG : GT w) (hs : shortB [⟨k, n, t⟩, ⟨k', n', t'⟩] = true) (hu : ¬ u.size ≤ 500) :
    Calls Tryz.prog 5 #[.agg #[.int .i64 k, .int .i64 n, .string t], .agg #[.int .i64 k', .int .i64 n', .string t'], .string u] w fun e w' => HeadPost w e w' := by
  have HG := Lib.hid hG
  clear hG
  have HSH := Lib.hid ((short_f [⟨k, n, t⟩, ⟨k', n', t'⟩] (by simp) 10 (by simp)).trans (congrArg some hs))
  clear hs
  have q0 : decide (500 < (u.size : Int)) = true := decide_eq_true (by omega)
  clear hu
  go_enter Tryz.func5, Tryz.ntmps5
  go_wp2_with fail
  have KA := heap_new w (.cells #[.int .i64 k, .int .i64 n, .string t] 23)
  have KB := heap_new (w.alloc (.cells #[.int .i64 k, .int .i64 n, .string t] 23)) (.cells #[.int .i64 k', .int .i64 n', .string t'] 23)
  rw [show (w.alloc (.cells #[.int .i64 k, .int .i64 n, .string t] 23)).heap.size = w.heap.size + 1 by simp] at KB
  have KA := keepA (o' := .cells #[.int .i64 k', .int .i64 n', .string t'] 23) KA
  have K_ := Lib.hid KA
  clear KA
  have KA := K_
  clear K_
  have K_ := Lib.hid KB
  clear KB
  have KB := K_
  clear K_
  have HB0 := Lib.hid (((Below.refl w.heap.size w).alloc (Nat.le_refl _) (.cells #[.int .i64 k, .int .i64 n, .string t] 23)).alloc (by simp) (.cells #[.int .i64 k', .int .i64 n', .string t'] 23))
  refine (cleanselaw02_head.calls true _ (GT.below HG.out HB0.out) rfl).mono ?_
  rintro e w1 ⟨rfl, hb⟩
  have K_ := Lib.hid (keep1 hb KA.out)
  clear KA
  have KA := K_
  clear K_
  have K_ := Lib.hid (keep1 hb KB.out)
  clear KB
  have KB := K_
  clear K_
  have HB1 := Lib.hid (HB0.out.trans (hb.mono HB0.out.size))
  clear hb
  obtain ⟨⟨cA0, cA1, cA2⟩, _⟩ := h_cells KA.out
  obtain ⟨⟨cB0, cB1, cB2⟩, _⟩ := h_cells KB.out
  go_wp2_with fail
  clear cA0 cA1 cA2 cB0 cB1 cB2
  have K_ := Lib.hid (keepA (o' := .cells #[.int .i64 k, .int .i64 n, .string t, .int .i64 k', .int .i64 n', .string t'] 23) KA.out)
  clear KA
  have KA := K_
  clear K_
  have K_ := Lib.hid (keepA (o' := .cells #[.int .i64 k, .int .i64 n, .string t, .int .i64 k', .int .i64 n', .string t'] 23) KB.out)
  clear KB
  have KB := K_
  clear K_
  have HB1s := Lib.hid (HB1.out.alloc HB1.out.size (.cells #[.int .i64 k, .int .i64 n, .string t, .int .i64 k', .int .i64 n', .string t'] 23))
  refine (Px.cleanselaw02_short.calls 10 _ 2 [⟨k, n, t⟩, ⟨k', n', t'⟩] true _ (row2 (heap_new w1 _)) (Nat.le_refl _) HSH.out).mono ?_
  rintro e w2 ⟨rfl, hd⟩
  have hb := hd.below
  clear hd
  have K_ := Lib.hid (keep1 hb KA.out)
  clear KA
  have KA := K_
  clear K_
  have K_ := Lib.hid (keep1 hb KB.out)
  clear KB
  have KB := K_
  clear K_
  have HB2 := Lib.hid (HB1s.out.trans (hb.mono HB1s.out.size))
  clear hb
  obtain ⟨⟨cA0, cA1, cA2⟩, _⟩ := h_cells KA.out
  obtain ⟨⟨cB0, cB1, cB2⟩, _⟩ := h_cells KB.out
  go_wp2_with fail
  go_ret
  exact ⟨rfl, HB2.out⟩

set_option maxRecDepth 100000 in
set_option maxHeartbeats 4000000 in
theorem texts_a (k n : Int) (t : ByteArray) (k' n' : Int) (t' u : ByteArray) (w : World) (hG : GT w) (hs : shortB [⟨k, n, t⟩, ⟨k', n', t'⟩] = true) (hu : u.size ≤ 500) (ha : ¬ ValidP k n t.data.toList) (hta : value_Text.f k n t = some ⟨#[]⟩) (hps : value_Parse.f ⟨#[]⟩ = some (0, 0, ⟨#[]⟩, 4)) (hpu : value_Parse.f u = some (0, 0, ⟨#[]⟩, 4))  :
    Calls Tryz.prog 5 #[.agg #[.int .i64 k, .int .i64 n, .string t], .agg #[.int .i64 k', .int .i64 n', .string t'], .string u] w fun e w' => HeadPost w e w' := by
  have HG := Lib.hid hG
  clear hG
  have HSH := Lib.hid ((short_f [⟨k, n, t⟩, ⟨k', n', t'⟩] (by simp) 10 (by simp)).trans (congrArg some hs))
  clear hs
  have q0 : decide (500 < (u.size : Int)) = false := decide_eq_false (by omega)
  clear hu
  have HVA := Lib.hid ((valid_f 0 k n t).trans (congrArg some (not_valid ha)))
  have HTA := Lib.hid hta
  have HPS := Lib.hid hps
  clear ha hta hps
  have HPU := Lib.hid hpu
  clear hpu
  go_enter Tryz.func5, Tryz.ntmps5
  go_wp2_with fail
  have KA := heap_new w (.cells #[.int .i64 k, .int .i64 n, .string t] 23)
  have KB := heap_new (w.alloc (.cells #[.int .i64 k, .int .i64 n, .string t] 23)) (.cells #[.int .i64 k', .int .i64 n', .string t'] 23)
  rw [show (w.alloc (.cells #[.int .i64 k, .int .i64 n, .string t] 23)).heap.size = w.heap.size + 1 by simp] at KB
  have KA := keepA (o' := .cells #[.int .i64 k', .int .i64 n', .string t'] 23) KA
  have K_ := Lib.hid KA
  clear KA
  have KA := K_
  clear K_
  have K_ := Lib.hid KB
  clear KB
  have KB := K_
  clear K_
  have HB0 := Lib.hid (((Below.refl w.heap.size w).alloc (Nat.le_refl _) (.cells #[.int .i64 k, .int .i64 n, .string t] 23)).alloc (by simp) (.cells #[.int .i64 k', .int .i64 n', .string t'] 23))
  refine (cleanselaw02_head.calls true _ (GT.below HG.out HB0.out) rfl).mono ?_
  rintro e w1 ⟨rfl, hb⟩
  have K_ := Lib.hid (keep1 hb KA.out)
  clear KA
  have KA := K_
  clear K_
  have K_ := Lib.hid (keep1 hb KB.out)
  clear KB
  have KB := K_
  clear K_
  have HB1 := Lib.hid (HB0.out.trans (hb.mono HB0.out.size))
  clear hb
  obtain ⟨⟨cA0, cA1, cA2⟩, _⟩ := h_cells KA.out
  obtain ⟨⟨cB0, cB1, cB2⟩, _⟩ := h_cells KB.out
  go_wp2_with fail
  clear cA0 cA1 cA2 cB0 cB1 cB2
  have K_ := Lib.hid (keepA (o' := .cells #[.int .i64 k, .int .i64 n, .string t, .int .i64 k', .int .i64 n', .string t'] 23) KA.out)
  clear KA
  have KA := K_
  clear K_
  have K_ := Lib.hid (keepA (o' := .cells #[.int .i64 k, .int .i64 n, .string t, .int .i64 k', .int .i64 n', .string t'] 23) KB.out)
  clear KB
  have KB := K_
  clear K_
  have HB1s := Lib.hid (HB1.out.alloc HB1.out.size (.cells #[.int .i64 k, .int .i64 n, .string t, .int .i64 k', .int .i64 n', .string t'] 23))
  refine (Px.cleanselaw02_short.calls 10 _ 2 [⟨k, n, t⟩, ⟨k', n', t'⟩] true _ (row2 (heap_new w1 _)) (Nat.le_refl _) HSH.out).mono ?_
  rintro e w2 ⟨rfl, hd⟩
  have hb := hd.below
  clear hd
  have K_ := Lib.hid (keep1 hb KA.out)
  clear KA
  have KA := K_
  clear K_
  have K_ := Lib.hid (keep1 hb KB.out)
  clear KB
  have KB := K_
  clear K_
  have HB2 := Lib.hid (HB1s.out.trans (hb.mono HB1s.out.size))
  clear hb
  obtain ⟨⟨cA0, cA1, cA2⟩, _⟩ := h_cells KA.out
  obtain ⟨⟨cB0, cB1, cB2⟩, _⟩ := h_cells KB.out
  go_wp2_with fail
  refine (value_Text.calls k n t ⟨#[]⟩ _ (GT.below HG.out HB2.out) HTA.out).mono ?_
  rintro e w3 ⟨rfl, hb⟩
  clear cA0 cA1 cA2 cB0 cB1 cB2
  have K_ := Lib.hid (keep1 hb KA.out)
  clear KA
  have KA := K_
  clear K_
  have K_ := Lib.hid (keep1 hb KB.out)
  clear KB
  have KB := K_
  clear K_
  have HB3 := Lib.hid (HB2.out.trans (hb.mono HB2.out.size))
  clear hb
  obtain ⟨⟨cA0, cA1, cA2⟩, _⟩ := h_cells KA.out
  obtain ⟨⟨cB0, cB1, cB2⟩, _⟩ := h_cells KB.out
  go_wp2_with fail
  have hs0 := ts_all ⟨HB3.out, KA.out, KB.out⟩
  clear cA0 cA1 cA2 cB0 cB1 cB2
  generalize w3 = W at *
  refine wp_region_held_drew (S := fun w' => w'.cell? ⟨w.heap.size, 0, none⟩ = some (.int .i64 k) ∧ w'.cell? ⟨w.heap.size, 1, none⟩ = some (.int .i64 n) ∧ w'.cell? ⟨w.heap.size, 2, none⟩ = some (.string t) ∧ w'.cell? ⟨w.heap.size + 1, 0, none⟩ = some (.int .i64 k') ∧ w'.cell? ⟨w.heap.size + 1, 1, none⟩ = some (.int .i64 n') ∧ w'.cell? ⟨w.heap.size + 1, 2, none⟩ = some (.string t') ∧ TSQ w w' k n t k' n' t') (by kernel_rfl) (ts_step hs0 (Below.refl _ _).drew) (fun hHeld => ?_)
  refine wpAnyH_take (i := 0) (oi := { dst := some 27, op := Go.Op.move (Go.Operand.tmp 8), type := 9, pos := "law.go:93", after := #[], guard := none }) (v := ?_) rfl (by kernel_rfl) (by kernel_rfl) (by kernel_rfl) (fun _ _ _ h => h) (Or.inl ⟨by rfl, ?_⟩) (by assumption) ?_
  rotate_left
  · (intro w hSw; (try dsimp only at hSw); go_simp; try with_reducible rfl)
  try simp only [Act.put, List.setIfInBounds_toArray, List.set_cons_zero, List.set_cons_succ]
  refine wpAnyH_take (i := 1) (oi := { dst := some 28, op := Go.Op.binOp Go.BinOp.eql 9 (Go.Operand.tmp 27) (Go.Operand.const (Go.Value.string { data := #[] })) 9, type := 4, pos := "law.go:93", after := #[{ on := 0, ground := Go.Ground.data }], guard := none }) (v := ?_) rfl (by kernel_rfl) (by kernel_rfl) (by kernel_rfl) (fun _ _ _ h => h) (Or.inl ⟨by rfl, ?_⟩) (by assumption) ?_
  rotate_left
  · (intro w hSw; (try dsimp only at hSw); go_simp; try with_reducible rfl)
  try simp only [Act.put, List.setIfInBounds_toArray, List.set_cons_zero, List.set_cons_succ]
  refine wpAnyH_take (i := 2) (oi := { dst := some 29, op := Go.Op.load 23 (Go.Operand.tmp 3), type := 23, pos := "law.go:93", after := #[], guard := none }) (v := ?_) rfl (by kernel_rfl) (by kernel_rfl) (by kernel_rfl) (fun _ _ _ h => h) (Or.inl ⟨by rfl, ?_⟩) (by assumption) ?_
  rotate_left
  · (intro w hSw; (try dsimp only at hSw); go_simp; try with_reducible rfl)
  try simp only [Act.put, List.setIfInBounds_toArray, List.set_cons_zero, List.set_cons_succ]
  refine wpAnyH_ready (rs := [3]) (by kernel_rfl) (by simp) ?_
  refine AllReadyH.cons (o := { dst := some 30, op := Go.Op.call { callee := Go.Callee.value (Go.Operand.func 17), args := #[Go.Operand.tmp 29], argTypes := #[23] }, type := 4, pos := "law.go:93", after := #[{ on := 2, ground := Go.Ground.data }], guard := none }) rfl (fun K hK => ?_) AllReadyH.nil
  go_simp
  go_at_call 17
  refine (Px.value_Valid.calls 1 k n t _ _ HVA.out).mono ?_
  rintro e wt ⟨rfl, hb⟩
  have ht := ts_step (by assumption) hb
  clear hb
  try (go_wp2_with fail)
  refine hK.out _ _ ?_ (fun hHeld => ?_)
  · (first | assumption | (dsimp only; assumption))
  clear hK K
  try simp only [Act.put, List.setIfInBounds_toArray, List.set_cons_zero, List.set_cons_succ]
  refine wpAnyH_take (i := 4) (oi := { dst := some 31, op := Go.Op.binOp Go.BinOp.eql 4 (Go.Operand.tmp 28) (Go.Operand.tmp 30) 4, type := 4, pos := "law.go:93", after := #[{ on := 1, ground := Go.Ground.data }, { on := 3, ground := Go.Ground.data }], guard := none }) (v := ?_) rfl (by kernel_rfl) (by kernel_rfl) (by kernel_rfl) (fun _ _ _ h => h) (Or.inl ⟨by rfl, ?_⟩) (by assumption) ?_
  rotate_left
  · (intro w hSw; (try dsimp only at hSw); go_simp; try with_reducible rfl)
  try simp only [Act.put, List.setIfInBounds_toArray, List.set_cons_zero, List.set_cons_succ]
  refine wpAnyH_take (i := 5) (oi := { dst := some 32, op := Go.Op.move (Go.Operand.tmp 31), type := 4, pos := "law.go:93", after := #[{ on := 4, ground := Go.Ground.data }, { on := 3, ground := Go.Ground.chain }], guard := none }) (v := ?_) rfl (by kernel_rfl) (by kernel_rfl) (by kernel_rfl) (fun _ _ _ h => h) (Or.inl ⟨by rfl, ?_⟩) (by assumption) ?_
  rotate_left
  · (intro w hSw; (try dsimp only at hSw); go_simp; try with_reducible rfl)
  try simp only [Act.put, List.setIfInBounds_toArray, List.set_cons_zero, List.set_cons_succ]
  refine wpAnyH_take (i := 6) (oi := { dst := some 33, op := Go.Op.load 23 (Go.Operand.tmp 3), type := 23, pos := "law.go:93", after := #[{ on := 5, ground := Go.Ground.guard }], guard := some (5, false) }) (v := ?_) rfl (by kernel_rfl) (by kernel_rfl) (by kernel_rfl) (fun _ _ _ h => h) (Or.inl ⟨by rfl, ?_⟩) (by assumption) ?_
  rotate_left
  · (intro w hSw; (try dsimp only at hSw); go_simp; try with_reducible rfl)
  try simp only [Act.put, List.setIfInBounds_toArray, List.set_cons_zero, List.set_cons_succ]
  refine wpAnyH_ready (rs := [7]) (by kernel_rfl) (by simp) ?_
  refine AllReadyH.cons (o := { dst := some 34, op := Go.Op.call { callee := Go.Callee.value (Go.Operand.func 17), args := #[Go.Operand.tmp 33], argTypes := #[23] }, type := 4, pos := "law.go:93", after := #[{ on := 6, ground := Go.Ground.data }, { on := 5, ground := Go.Ground.chain }, { on := 5, ground := Go.Ground.guard }], guard := some (5, false) }) rfl (fun K hK => ?_) AllReadyH.nil
  go_simp
  go_at_call 17
  refine (Px.value_Valid.calls 1 k n t _ _ HVA.out).mono ?_
  rintro e wt ⟨rfl, hb⟩
  have ht := ts_step (by assumption) hb
  clear hb
  try (go_wp2_with fail)
  refine hK.out _ _ ?_ (fun hHeld => ?_)
  · (first | assumption | (dsimp only; assumption))
  clear hK K
  try simp only [Act.put, List.setIfInBounds_toArray, List.set_cons_zero, List.set_cons_succ]
  refine wpAnyH_take (i := 8) (oi := { dst := some 35, op := Go.Op.move (Go.Operand.tmp 34), type := 4, pos := "law.go:93", after := #[{ on := 7, ground := Go.Ground.data }, { on := 7, ground := Go.Ground.chain }, { on := 5, ground := Go.Ground.guard }], guard := some (5, false) }) (v := ?_) rfl (by kernel_rfl) (by kernel_rfl) (by kernel_rfl) (fun _ _ _ h => h) (Or.inl ⟨by rfl, ?_⟩) (by assumption) ?_
  rotate_left
  · (intro w hSw; (try dsimp only at hSw); go_simp; try with_reducible rfl)
  try simp only [Act.put, List.setIfInBounds_toArray, List.set_cons_zero, List.set_cons_succ]
  refine wpAnyH_take (i := 9) (oi := { dst := some 36, op := Go.Op.move (Go.Operand.tmp 8), type := 9, pos := "law.go:93", after := #[{ on := 8, ground := Go.Ground.guard }], guard := some (8, true) }) (v := undef) rfl (by kernel_rfl) (by kernel_rfl) (by kernel_rfl) (fun _ _ _ h => h) (Or.inr ⟨by rfl, rfl⟩) (by assumption) ?_
  try simp only [Act.put, List.setIfInBounds_toArray, List.set_cons_zero, List.set_cons_succ]
  refine wpAnyH_take (i := 10) (oi := { dst := some 37, op := Go.Op.load 23 (Go.Operand.tmp 4), type := 23, pos := "law.go:93", after := #[{ on := 8, ground := Go.Ground.guard }], guard := some (8, true) }) (v := undef) rfl (by kernel_rfl) (by kernel_rfl) (by kernel_rfl) (fun _ _ _ h => h) (Or.inr ⟨by rfl, rfl⟩) (by assumption) ?_
  try simp only [Act.put, List.setIfInBounds_toArray, List.set_cons_zero, List.set_cons_succ]
  refine wpAnyH_take (i := 13) (oi := { dst := some 40, op := Go.Op.load 23 (Go.Operand.tmp 3), type := 23, pos := "law.go:93", after := #[{ on := 8, ground := Go.Ground.guard }], guard := some (8, true) }) (v := undef) rfl (by kernel_rfl) (by kernel_rfl) (by kernel_rfl) (fun _ _ _ h => h) (Or.inr ⟨by rfl, rfl⟩) (by assumption) ?_
  try simp only [Act.put, List.setIfInBounds_toArray, List.set_cons_zero, List.set_cons_succ]
  refine wpAnyH_take (i := 14) (oi := { dst := some 41, op := Go.Op.load 23 (Go.Operand.tmp 4), type := 23, pos := "law.go:93", after := #[{ on := 8, ground := Go.Ground.guard }], guard := some (8, true) }) (v := undef) rfl (by kernel_rfl) (by kernel_rfl) (by kernel_rfl) (fun _ _ _ h => h) (Or.inr ⟨by rfl, rfl⟩) (by assumption) ?_
  try simp only [Act.put, List.setIfInBounds_toArray, List.set_cons_zero, List.set_cons_succ]
  refine wpAnyH_take (i := 11) (oi := { dst := some 38, op := Go.Op.call { callee := Go.Callee.value (Go.Operand.func 21), args := #[Go.Operand.tmp 37], argTypes := #[23] }, type := 9, pos := "law.go:93", after := #[{ on := 10, ground := Go.Ground.data }, { on := 8, ground := Go.Ground.chain }, { on := 8, ground := Go.Ground.guard }], guard := some (8, true) }) (v := undef) rfl (by kernel_rfl) (by kernel_rfl) (by kernel_rfl) (fun _ _ _ h => h) (Or.inr ⟨by rfl, rfl⟩) (by assumption) ?_
  try simp only [Act.put, List.setIfInBounds_toArray, List.set_cons_zero, List.set_cons_succ]
  refine wpAnyH_take (i := 12) (oi := { dst := some 39, op := Go.Op.binOp Go.BinOp.eql 9 (Go.Operand.tmp 36) (Go.Operand.tmp 38) 9, type := 4, pos := "law.go:93", after := #[{ on := 9, ground := Go.Ground.data }, { on := 11, ground := Go.Ground.data }, { on := 8, ground := Go.Ground.guard }], guard := some (8, true) }) (v := undef) rfl (by kernel_rfl) (by kernel_rfl) (by kernel_rfl) (fun _ _ _ h => h) (Or.inr ⟨by rfl, rfl⟩) (by assumption) ?_
  try simp only [Act.put, List.setIfInBounds_toArray, List.set_cons_zero, List.set_cons_succ]
  refine wpAnyH_take (i := 15) (oi := { dst := some 42, op := Go.Op.binOp Go.BinOp.eql 23 (Go.Operand.tmp 40) (Go.Operand.tmp 41) 23, type := 4, pos := "law.go:93", after := #[{ on := 13, ground := Go.Ground.data }, { on := 14, ground := Go.Ground.data }, { on := 8, ground := Go.Ground.guard }], guard := some (8, true) }) (v := undef) rfl (by kernel_rfl) (by kernel_rfl) (by kernel_rfl) (fun _ _ _ h => h) (Or.inr ⟨by rfl, rfl⟩) (by assumption) ?_
  try simp only [Act.put, List.setIfInBounds_toArray, List.set_cons_zero, List.set_cons_succ]
  refine wpAnyH_take (i := 16) (oi := { dst := some 43, op := Go.Op.binOp Go.BinOp.neq 4 (Go.Operand.tmp 39) (Go.Operand.tmp 42) 4, type := 4, pos := "law.go:93", after := #[{ on := 12, ground := Go.Ground.data }, { on := 15, ground := Go.Ground.data }, { on := 8, ground := Go.Ground.guard }], guard := some (8, true) }) (v := undef) rfl (by kernel_rfl) (by kernel_rfl) (by kernel_rfl) (fun _ _ _ h => h) (Or.inr ⟨by rfl, rfl⟩) (by assumption) ?_
  try simp only [Act.put, List.setIfInBounds_toArray, List.set_cons_zero, List.set_cons_succ]
  refine wpAnyH_take (i := 17) (oi := { dst := some 44, op := Go.Op.pick (Go.Operand.tmp 35) (Go.Operand.tmp 43) (Go.Operand.const (Go.Value.bool false)), type := 4, pos := "law.go:93", after := #[{ on := 8, ground := Go.Ground.data }, { on := 16, ground := Go.Ground.data }, { on := 5, ground := Go.Ground.guard }], guard := some (5, false) }) (v := ?_) rfl (by kernel_rfl) (by kernel_rfl) (by kernel_rfl) (fun _ _ _ h => h) (Or.inl ⟨by rfl, ?_⟩) (by assumption) ?_
  rotate_left
  · (intro w hSw; (try dsimp only at hSw); go_simp; try with_reducible rfl)
  try simp only [Act.put, List.setIfInBounds_toArray, List.set_cons_zero, List.set_cons_succ]
  refine wpAnyH_take (i := 18) (oi := { dst := some 45, op := Go.Op.pick (Go.Operand.tmp 32) (Go.Operand.const (Go.Value.bool true)) (Go.Operand.tmp 44), type := 4, pos := "law.go:93", after := #[{ on := 5, ground := Go.Ground.data }, { on := 17, ground := Go.Ground.data }], guard := none }) (v := ?_) rfl (by kernel_rfl) (by kernel_rfl) (by kernel_rfl) (fun _ _ _ h => h) (Or.inl ⟨by rfl, ?_⟩) (by assumption) ?_
  rotate_left
  · (intro w hSw; (try dsimp only at hSw); go_simp; try with_reducible rfl)
  try simp only [Act.put, List.setIfInBounds_toArray, List.set_cons_zero, List.set_cons_succ]
  refine wpAnyH_done (by kernel_rfl) ?_ _
  have HB50 := Lib.hid ht.2.2.2.2.2.2
  clear hs0 ht
  clear hHeld
  have K_ := Lib.hid HB50.out.2.1
  clear KA
  have KA := K_
  clear K_
  have K_ := Lib.hid HB50.out.2.2
  clear KB
  have KB := K_
  clear K_
  obtain ⟨⟨cA0, cA1, cA2⟩, _⟩ := h_cells KA.out
  obtain ⟨⟨cB0, cB1, cB2⟩, _⟩ := h_cells KB.out
  go_wp2_with fail
  refine (value_Parse.calls ⟨#[]⟩ 0 0 ⟨#[]⟩ 4 _ (GT.below HG.out HB50.out.1) HPS.out).mono ?_
  rintro e w51 ⟨rfl, hb⟩
  clear cA0 cA1 cA2 cB0 cB1 cB2
  have K_ := Lib.hid (keep1 hb KA.out)
  clear KA
  have KA := K_
  clear K_
  have K_ := Lib.hid (keep1 hb KB.out)
  clear KB
  have KB := K_
  clear K_
  have HB51 := Lib.hid (HB50.out.1.trans (hb.mono HB50.out.1.size))
  clear hb
  have K_ := Lib.hid (keepA (o' := .cells #[.int .i64 0, .int .i64 0, .string ⟨#[]⟩] 23) KA.out)
  clear KA
  have KA := K_
  clear K_
  have K_ := Lib.hid (keepA (o' := .cells #[.int .i64 0, .int .i64 0, .string ⟨#[]⟩] 23) KB.out)
  clear KB
  have KB := K_
  clear K_
  have KR := Lib.hid (heap_new w51 (.cells #[.int .i64 0, .int .i64 0, .string ⟨#[]⟩] 23))
  have HB51a := Lib.hid (HB51.out.alloc HB51.out.size (.cells #[.int .i64 0, .int .i64 0, .string ⟨#[]⟩] 23))
  obtain ⟨⟨cA0, cA1, cA2⟩, _⟩ := h_cells KA.out
  obtain ⟨⟨cB0, cB1, cB2⟩, _⟩ := h_cells KB.out
  obtain ⟨⟨cR0, cR1, cR2⟩, _⟩ := h_cells KR.out
  go_wp2_with fail
  refine (Px.value_Valid.calls 1 k n t _ _ HVA.out).mono ?_
  rintro e w52 ⟨rfl, hb⟩
  clear cA0 cA1 cA2 cB0 cB1 cB2 cR0 cR1 cR2
  have K_ := Lib.hid (keep1 hb KA.out)
  clear KA
  have KA := K_
  clear K_
  have K_ := Lib.hid (keep1 hb KB.out)
  clear KB
  have KB := K_
  clear K_
  have K_ := Lib.hid (keep1 hb KR.out)
  clear KR
  have KR := K_
  clear K_
  have HB52 := Lib.hid (HB51a.out.trans (hb.mono HB51a.out.size))
  clear hb
  obtain ⟨⟨cA0, cA1, cA2⟩, _⟩ := h_cells KA.out
  obtain ⟨⟨cB0, cB1, cB2⟩, _⟩ := h_cells KB.out
  obtain ⟨⟨cR0, cR1, cR2⟩, _⟩ := h_cells KR.out
  go_wp2_with fail
  refine (Px.value_Valid.calls 1 k n t _ _ HVA.out).mono ?_
  rintro e w53 ⟨rfl, hb⟩
  clear cA0 cA1 cA2 cB0 cB1 cB2 cR0 cR1 cR2
  have K_ := Lib.hid (keep1 hb KA.out)
  clear KA
  have KA := K_
  clear K_
  have K_ := Lib.hid (keep1 hb KB.out)
  clear KB
  have KB := K_
  clear K_
  have K_ := Lib.hid (keep1 hb KR.out)
  clear KR
  have KR := K_
  clear K_
  have HB53 := Lib.hid (HB52.out.trans (hb.mono HB52.out.size))
  clear hb
  obtain ⟨⟨cA0, cA1, cA2⟩, _⟩ := h_cells KA.out
  obtain ⟨⟨cB0, cB1, cB2⟩, _⟩ := h_cells KB.out
  obtain ⟨⟨cR0, cR1, cR2⟩, _⟩ := h_cells KR.out
  go_wp2_with fail
  refine (value_Parse.calls u 0 0 ⟨#[]⟩ 4 _ (GT.below HG.out HB53.out) HPU.out).mono ?_
  rintro e w54 ⟨rfl, hb⟩
  clear cA0 cA1 cA2 cB0 cB1 cB2 cR0 cR1 cR2
  have K_ := Lib.hid (keep1 hb KA.out)
  clear KA
  have KA := K_
  clear K_
  have K_ := Lib.hid (keep1 hb KB.out)
  clear KB
  have KB := K_
  clear K_
  have K_ := Lib.hid (keep1 hb KR.out)
  clear KR
  have KR := K_
  clear K_
  have HB54 := Lib.hid (HB53.out.trans (hb.mono HB53.out.size))
  clear hb
  have K_ := Lib.hid (keepA (o' := .cells #[.int .i64 0, .int .i64 0, .string ⟨#[]⟩] 23) KA.out)
  clear KA
  have KA := K_
  clear K_
  have K_ := Lib.hid (keepA (o' := .cells #[.int .i64 0, .int .i64 0, .string ⟨#[]⟩] 23) KB.out)
  clear KB
  have KB := K_
  clear K_
  have K_ := Lib.hid (keepA (o' := .cells #[.int .i64 0, .int .i64 0, .string ⟨#[]⟩] 23) KR.out)
  clear KR
  have KR := K_
  clear K_
  have KQ := Lib.hid (heap_new w54 (.cells #[.int .i64 0, .int .i64 0, .string ⟨#[]⟩] 23))
  have HB54a := Lib.hid (HB54.out.alloc HB54.out.size (.cells #[.int .i64 0, .int .i64 0, .string ⟨#[]⟩] 23))
  obtain ⟨⟨cA0, cA1, cA2⟩, _⟩ := h_cells KA.out
  obtain ⟨⟨cB0, cB1, cB2⟩, _⟩ := h_cells KB.out
  obtain ⟨⟨cR0, cR1, cR2⟩, _⟩ := h_cells KR.out
  obtain ⟨⟨cQ0, cQ1, cQ2⟩, _⟩ := h_cells KQ.out
  go_wp2_with fail
  go_ret
  exact ⟨rfl, HB54a.out⟩

set_option maxRecDepth 100000 in
set_option maxHeartbeats 4000000 in
theorem texts_b (k n : Int) (t : ByteArray) (k' n' : Int) (t' u : ByteArray) (w : World) (hG : GT w) (hs : shortB [⟨k, n, t⟩, ⟨k', n', t'⟩] = true) (hu : u.size ≤ 500) (ha : ¬ ValidP k n t.data.toList) (hta : value_Text.f k n t = some ⟨#[]⟩) (hps : value_Parse.f ⟨#[]⟩ = some (0, 0, ⟨#[]⟩, 4)) (x y : Int) (z : ByteArray) (hpu : value_Parse.f u = some (x, y, z, 0)) (hx : ValidP x y z.data.toList) (htx : value_Text.f x y z = some u)  :
    Calls Tryz.prog 5 #[.agg #[.int .i64 k, .int .i64 n, .string t], .agg #[.int .i64 k', .int .i64 n', .string t'], .string u] w fun e w' => HeadPost w e w' := by
  have HG := Lib.hid hG
  clear hG
  have HSH := Lib.hid ((short_f [⟨k, n, t⟩, ⟨k', n', t'⟩] (by simp) 10 (by simp)).trans (congrArg some hs))
  clear hs
  have q0 : decide (500 < (u.size : Int)) = false := decide_eq_false (by omega)
  clear hu
  have HVA := Lib.hid ((valid_f 0 k n t).trans (congrArg some (not_valid ha)))
  have HTA := Lib.hid hta
  have HPS := Lib.hid hps
  clear ha hta hps
  have HPU := Lib.hid hpu
  have HVX := Lib.hid ((valid_f 0 x y z).trans (congrArg some (valid_iff.2 hx)))
  have HTX := Lib.hid htx
  clear hpu hx htx
  go_enter Tryz.func5, Tryz.ntmps5
  go_wp2_with fail
  have KA := heap_new w (.cells #[.int .i64 k, .int .i64 n, .string t] 23)
  have KB := heap_new (w.alloc (.cells #[.int .i64 k, .int .i64 n, .string t] 23)) (.cells #[.int .i64 k', .int .i64 n', .string t'] 23)
  rw [show (w.alloc (.cells #[.int .i64 k, .int .i64 n, .string t] 23)).heap.size = w.heap.size + 1 by simp] at KB
  have KA := keepA (o' := .cells #[.int .i64 k', .int .i64 n', .string t'] 23) KA
  have K_ := Lib.hid KA
  clear KA
  have KA := K_
  clear K_
  have K_ := Lib.hid KB
  clear KB
  have KB := K_
  clear K_
  have HB0 := Lib.hid (((Below.refl w.heap.size w).alloc (Nat.le_refl _) (.cells #[.int .i64 k, .int .i64 n, .string t] 23)).alloc (by simp) (.cells #[.int .i64 k', .int .i64 n', .string t'] 23))
  refine (cleanselaw02_head.calls true _ (GT.below HG.out HB0.out) rfl).mono ?_
  rintro e w1 ⟨rfl, hb⟩
  have K_ := Lib.hid (keep1 hb KA.out)
  clear KA
  have KA := K_
  clear K_
  have K_ := Lib.hid (keep1 hb KB.out)
  clear KB
  have KB := K_
  clear K_
  have HB1 := Lib.hid (HB0.out.trans (hb.mono HB0.out.size))
  clear hb
  obtain ⟨⟨cA0, cA1, cA2⟩, _⟩ := h_cells KA.out
  obtain ⟨⟨cB0, cB1, cB2⟩, _⟩ := h_cells KB.out
  go_wp2_with fail
  clear cA0 cA1 cA2 cB0 cB1 cB2
  have K_ := Lib.hid (keepA (o' := .cells #[.int .i64 k, .int .i64 n, .string t, .int .i64 k', .int .i64 n', .string t'] 23) KA.out)
  clear KA
  have KA := K_
  clear K_
  have K_ := Lib.hid (keepA (o' := .cells #[.int .i64 k, .int .i64 n, .string t, .int .i64 k', .int .i64 n', .string t'] 23) KB.out)
  clear KB
  have KB := K_
  clear K_
  have HB1s := Lib.hid (HB1.out.alloc HB1.out.size (.cells #[.int .i64 k, .int .i64 n, .string t, .int .i64 k', .int .i64 n', .string t'] 23))
  refine (Px.cleanselaw02_short.calls 10 _ 2 [⟨k, n, t⟩, ⟨k', n', t'⟩] true _ (row2 (heap_new w1 _)) (Nat.le_refl _) HSH.out).mono ?_
  rintro e w2 ⟨rfl, hd⟩
  have hb := hd.below
  clear hd
  have K_ := Lib.hid (keep1 hb KA.out)
  clear KA
  have KA := K_
  clear K_
  have K_ := Lib.hid (keep1 hb KB.out)
  clear KB
  have KB := K_
  clear K_
  have HB2 := Lib.hid (HB1s.out.trans (hb.mono HB1s.out.size))
  clear hb
  obtain ⟨⟨cA0, cA1, cA2⟩, _⟩ := h_cells KA.out
  obtain ⟨⟨cB0, cB1, cB2⟩, _⟩ := h_cells KB.out
  go_wp2_with fail
  refine (value_Text.calls k n t ⟨#[]⟩ _ (GT.below HG.out HB2.out) HTA.out).mono ?_
  rintro e w3 ⟨rfl, hb⟩
  clear cA0 cA1 cA2 cB0 cB1 cB2
  have K_ := Lib.hid (keep1 hb KA.out)
  clear KA
  have KA := K_
  clear K_
  have K_ := Lib.hid (keep1 hb KB.out)
  clear KB
  have KB := K_
  clear K_
  have HB3 := Lib.hid (HB2.out.trans (hb.mono HB2.out.size))
  clear hb
  obtain ⟨⟨cA0, cA1, cA2⟩, _⟩ := h_cells KA.out
  obtain ⟨⟨cB0, cB1, cB2⟩, _⟩ := h_cells KB.out
  go_wp2_with fail
  have hs0 := ts_all ⟨HB3.out, KA.out, KB.out⟩
  clear cA0 cA1 cA2 cB0 cB1 cB2
  generalize w3 = W at *
  refine wp_region_held_drew (S := fun w' => w'.cell? ⟨w.heap.size, 0, none⟩ = some (.int .i64 k) ∧ w'.cell? ⟨w.heap.size, 1, none⟩ = some (.int .i64 n) ∧ w'.cell? ⟨w.heap.size, 2, none⟩ = some (.string t) ∧ w'.cell? ⟨w.heap.size + 1, 0, none⟩ = some (.int .i64 k') ∧ w'.cell? ⟨w.heap.size + 1, 1, none⟩ = some (.int .i64 n') ∧ w'.cell? ⟨w.heap.size + 1, 2, none⟩ = some (.string t') ∧ TSQ w w' k n t k' n' t') (by kernel_rfl) (ts_step hs0 (Below.refl _ _).drew) (fun hHeld => ?_)
  refine wpAnyH_take (i := 0) (oi := { dst := some 27, op := Go.Op.move (Go.Operand.tmp 8), type := 9, pos := "law.go:93", after := #[], guard := none }) (v := ?_) rfl (by kernel_rfl) (by kernel_rfl) (by kernel_rfl) (fun _ _ _ h => h) (Or.inl ⟨by rfl, ?_⟩) (by assumption) ?_
  rotate_left
  · (intro w hSw; (try dsimp only at hSw); go_simp; try with_reducible rfl)
  try simp only [Act.put, List.setIfInBounds_toArray, List.set_cons_zero, List.set_cons_succ]
  refine wpAnyH_take (i := 1) (oi := { dst := some 28, op := Go.Op.binOp Go.BinOp.eql 9 (Go.Operand.tmp 27) (Go.Operand.const (Go.Value.string { data := #[] })) 9, type := 4, pos := "law.go:93", after := #[{ on := 0, ground := Go.Ground.data }], guard := none }) (v := ?_) rfl (by kernel_rfl) (by kernel_rfl) (by kernel_rfl) (fun _ _ _ h => h) (Or.inl ⟨by rfl, ?_⟩) (by assumption) ?_
  rotate_left
  · (intro w hSw; (try dsimp only at hSw); go_simp; try with_reducible rfl)
  try simp only [Act.put, List.setIfInBounds_toArray, List.set_cons_zero, List.set_cons_succ]
  refine wpAnyH_take (i := 2) (oi := { dst := some 29, op := Go.Op.load 23 (Go.Operand.tmp 3), type := 23, pos := "law.go:93", after := #[], guard := none }) (v := ?_) rfl (by kernel_rfl) (by kernel_rfl) (by kernel_rfl) (fun _ _ _ h => h) (Or.inl ⟨by rfl, ?_⟩) (by assumption) ?_
  rotate_left
  · (intro w hSw; (try dsimp only at hSw); go_simp; try with_reducible rfl)
  try simp only [Act.put, List.setIfInBounds_toArray, List.set_cons_zero, List.set_cons_succ]
  refine wpAnyH_ready (rs := [3]) (by kernel_rfl) (by simp) ?_
  refine AllReadyH.cons (o := { dst := some 30, op := Go.Op.call { callee := Go.Callee.value (Go.Operand.func 17), args := #[Go.Operand.tmp 29], argTypes := #[23] }, type := 4, pos := "law.go:93", after := #[{ on := 2, ground := Go.Ground.data }], guard := none }) rfl (fun K hK => ?_) AllReadyH.nil
  go_simp
  go_at_call 17
  refine (Px.value_Valid.calls 1 k n t _ _ HVA.out).mono ?_
  rintro e wt ⟨rfl, hb⟩
  have ht := ts_step (by assumption) hb
  clear hb
  try (go_wp2_with fail)
  refine hK.out _ _ ?_ (fun hHeld => ?_)
  · (first | assumption | (dsimp only; assumption))
  clear hK K
  try simp only [Act.put, List.setIfInBounds_toArray, List.set_cons_zero, List.set_cons_succ]
  refine wpAnyH_take (i := 4) (oi := { dst := some 31, op := Go.Op.binOp Go.BinOp.eql 4 (Go.Operand.tmp 28) (Go.Operand.tmp 30) 4, type := 4, pos := "law.go:93", after := #[{ on := 1, ground := Go.Ground.data }, { on := 3, ground := Go.Ground.data }], guard := none }) (v := ?_) rfl (by kernel_rfl) (by kernel_rfl) (by kernel_rfl) (fun _ _ _ h => h) (Or.inl ⟨by rfl, ?_⟩) (by assumption) ?_
  rotate_left
  · (intro w hSw; (try dsimp only at hSw); go_simp; try with_reducible rfl)
  try simp only [Act.put, List.setIfInBounds_toArray, List.set_cons_zero, List.set_cons_succ]
  refine wpAnyH_take (i := 5) (oi := { dst := some 32, op := Go.Op.move (Go.Operand.tmp 31), type := 4, pos := "law.go:93", after := #[{ on := 4, ground := Go.Ground.data }, { on := 3, ground := Go.Ground.chain }], guard := none }) (v := ?_) rfl (by kernel_rfl) (by kernel_rfl) (by kernel_rfl) (fun _ _ _ h => h) (Or.inl ⟨by rfl, ?_⟩) (by assumption) ?_
  rotate_left
  · (intro w hSw; (try dsimp only at hSw); go_simp; try with_reducible rfl)
  try simp only [Act.put, List.setIfInBounds_toArray, List.set_cons_zero, List.set_cons_succ]
  refine wpAnyH_take (i := 6) (oi := { dst := some 33, op := Go.Op.load 23 (Go.Operand.tmp 3), type := 23, pos := "law.go:93", after := #[{ on := 5, ground := Go.Ground.guard }], guard := some (5, false) }) (v := ?_) rfl (by kernel_rfl) (by kernel_rfl) (by kernel_rfl) (fun _ _ _ h => h) (Or.inl ⟨by rfl, ?_⟩) (by assumption) ?_
  rotate_left
  · (intro w hSw; (try dsimp only at hSw); go_simp; try with_reducible rfl)
  try simp only [Act.put, List.setIfInBounds_toArray, List.set_cons_zero, List.set_cons_succ]
  refine wpAnyH_ready (rs := [7]) (by kernel_rfl) (by simp) ?_
  refine AllReadyH.cons (o := { dst := some 34, op := Go.Op.call { callee := Go.Callee.value (Go.Operand.func 17), args := #[Go.Operand.tmp 33], argTypes := #[23] }, type := 4, pos := "law.go:93", after := #[{ on := 6, ground := Go.Ground.data }, { on := 5, ground := Go.Ground.chain }, { on := 5, ground := Go.Ground.guard }], guard := some (5, false) }) rfl (fun K hK => ?_) AllReadyH.nil
  go_simp
  go_at_call 17
  refine (Px.value_Valid.calls 1 k n t _ _ HVA.out).mono ?_
  rintro e wt ⟨rfl, hb⟩
  have ht := ts_step (by assumption) hb
  clear hb
  try (go_wp2_with fail)
  refine hK.out _ _ ?_ (fun hHeld => ?_)
  · (first | assumption | (dsimp only; assumption))
  clear hK K
  try simp only [Act.put, List.setIfInBounds_toArray, List.set_cons_zero, List.set_cons_succ]
  refine wpAnyH_take (i := 8) (oi := { dst := some 35, op := Go.Op.move (Go.Operand.tmp 34), type := 4, pos := "law.go:93", after := #[{ on := 7, ground := Go.Ground.data }, { on := 7, ground := Go.Ground.chain }, { on := 5, ground := Go.Ground.guard }], guard := some (5, false) }) (v := ?_) rfl (by kernel_rfl) (by kernel_rfl) (by kernel_rfl) (fun _ _ _ h => h) (Or.inl ⟨by rfl, ?_⟩) (by assumption) ?_
  rotate_left
  · (intro w hSw; (try dsimp only at hSw); go_simp; try with_reducible rfl)
  try simp only [Act.put, List.setIfInBounds_toArray, List.set_cons_zero, List.set_cons_succ]
  refine wpAnyH_take (i := 9) (oi := { dst := some 36, op := Go.Op.move (Go.Operand.tmp 8), type := 9, pos := "law.go:93", after := #[{ on := 8, ground := Go.Ground.guard }], guard := some (8, true) }) (v := undef) rfl (by kernel_rfl) (by kernel_rfl) (by kernel_rfl) (fun _ _ _ h => h) (Or.inr ⟨by rfl, rfl⟩) (by assumption) ?_
  try simp only [Act.put, List.setIfInBounds_toArray, List.set_cons_zero, List.set_cons_succ]
  refine wpAnyH_take (i := 10) (oi := { dst := some 37, op := Go.Op.load 23 (Go.Operand.tmp 4), type := 23, pos := "law.go:93", after := #[{ on := 8, ground := Go.Ground.guard }], guard := some (8, true) }) (v := undef) rfl (by kernel_rfl) (by kernel_rfl) (by kernel_rfl) (fun _ _ _ h => h) (Or.inr ⟨by rfl, rfl⟩) (by assumption) ?_
  try simp only [Act.put, List.setIfInBounds_toArray, List.set_cons_zero, List.set_cons_succ]
  refine wpAnyH_take (i := 13) (oi := { dst := some 40, op := Go.Op.load 23 (Go.Operand.tmp 3), type := 23, pos := "law.go:93", after := #[{ on := 8, ground := Go.Ground.guard }], guard := some (8, true) }) (v := undef) rfl (by kernel_rfl) (by kernel_rfl) (by kernel_rfl) (fun _ _ _ h => h) (Or.inr ⟨by rfl, rfl⟩) (by assumption) ?_
  try simp only [Act.put, List.setIfInBounds_toArray, List.set_cons_zero, List.set_cons_succ]
  refine wpAnyH_take (i := 14) (oi := { dst := some 41, op := Go.Op.load 23 (Go.Operand.tmp 4), type := 23, pos := "law.go:93", after := #[{ on := 8, ground := Go.Ground.guard }], guard := some (8, true) }) (v := undef) rfl (by kernel_rfl) (by kernel_rfl) (by kernel_rfl) (fun _ _ _ h => h) (Or.inr ⟨by rfl, rfl⟩) (by assumption) ?_
  try simp only [Act.put, List.setIfInBounds_toArray, List.set_cons_zero, List.set_cons_succ]
  refine wpAnyH_take (i := 11) (oi := { dst := some 38, op := Go.Op.call { callee := Go.Callee.value (Go.Operand.func 21), args := #[Go.Operand.tmp 37], argTypes := #[23] }, type := 9, pos := "law.go:93", after := #[{ on := 10, ground := Go.Ground.data }, { on := 8, ground := Go.Ground.chain }, { on := 8, ground := Go.Ground.guard }], guard := some (8, true) }) (v := undef) rfl (by kernel_rfl) (by kernel_rfl) (by kernel_rfl) (fun _ _ _ h => h) (Or.inr ⟨by rfl, rfl⟩) (by assumption) ?_
  try simp only [Act.put, List.setIfInBounds_toArray, List.set_cons_zero, List.set_cons_succ]
  refine wpAnyH_take (i := 12) (oi := { dst := some 39, op := Go.Op.binOp Go.BinOp.eql 9 (Go.Operand.tmp 36) (Go.Operand.tmp 38) 9, type := 4, pos := "law.go:93", after := #[{ on := 9, ground := Go.Ground.data }, { on := 11, ground := Go.Ground.data }, { on := 8, ground := Go.Ground.guard }], guard := some (8, true) }) (v := undef) rfl (by kernel_rfl) (by kernel_rfl) (by kernel_rfl) (fun _ _ _ h => h) (Or.inr ⟨by rfl, rfl⟩) (by assumption) ?_
  try simp only [Act.put, List.setIfInBounds_toArray, List.set_cons_zero, List.set_cons_succ]
  refine wpAnyH_take (i := 15) (oi := { dst := some 42, op := Go.Op.binOp Go.BinOp.eql 23 (Go.Operand.tmp 40) (Go.Operand.tmp 41) 23, type := 4, pos := "law.go:93", after := #[{ on := 13, ground := Go.Ground.data }, { on := 14, ground := Go.Ground.data }, { on := 8, ground := Go.Ground.guard }], guard := some (8, true) }) (v := undef) rfl (by kernel_rfl) (by kernel_rfl) (by kernel_rfl) (fun _ _ _ h => h) (Or.inr ⟨by rfl, rfl⟩) (by assumption) ?_
  try simp only [Act.put, List.setIfInBounds_toArray, List.set_cons_zero, List.set_cons_succ]
  refine wpAnyH_take (i := 16) (oi := { dst := some 43, op := Go.Op.binOp Go.BinOp.neq 4 (Go.Operand.tmp 39) (Go.Operand.tmp 42) 4, type := 4, pos := "law.go:93", after := #[{ on := 12, ground := Go.Ground.data }, { on := 15, ground := Go.Ground.data }, { on := 8, ground := Go.Ground.guard }], guard := some (8, true) }) (v := undef) rfl (by kernel_rfl) (by kernel_rfl) (by kernel_rfl) (fun _ _ _ h => h) (Or.inr ⟨by rfl, rfl⟩) (by assumption) ?_
  try simp only [Act.put, List.setIfInBounds_toArray, List.set_cons_zero, List.set_cons_succ]
  refine wpAnyH_take (i := 17) (oi := { dst := some 44, op := Go.Op.pick (Go.Operand.tmp 35) (Go.Operand.tmp 43) (Go.Operand.const (Go.Value.bool false)), type := 4, pos := "law.go:93", after := #[{ on := 8, ground := Go.Ground.data }, { on := 16, ground := Go.Ground.data }, { on := 5, ground := Go.Ground.guard }], guard := some (5, false) }) (v := ?_) rfl (by kernel_rfl) (by kernel_rfl) (by kernel_rfl) (fun _ _ _ h => h) (Or.inl ⟨by rfl, ?_⟩) (by assumption) ?_
  rotate_left
  · (intro w hSw; (try dsimp only at hSw); go_simp; try with_reducible rfl)
  try simp only [Act.put, List.setIfInBounds_toArray, List.set_cons_zero, List.set_cons_succ]
  refine wpAnyH_take (i := 18) (oi := { dst := some 45, op := Go.Op.pick (Go.Operand.tmp 32) (Go.Operand.const (Go.Value.bool true)) (Go.Operand.tmp 44), type := 4, pos := "law.go:93", after := #[{ on := 5, ground := Go.Ground.data }, { on := 17, ground := Go.Ground.data }], guard := none }) (v := ?_) rfl (by kernel_rfl) (by kernel_rfl) (by kernel_rfl) (fun _ _ _ h => h) (Or.inl ⟨by rfl, ?_⟩) (by assumption) ?_
  rotate_left
  · (intro w hSw; (try dsimp only at hSw); go_simp; try with_reducible rfl)
  try simp only [Act.put, List.setIfInBounds_toArray, List.set_cons_zero, List.set_cons_succ]
  refine wpAnyH_done (by kernel_rfl) ?_ _
  have HB50 := Lib.hid ht.2.2.2.2.2.2
  clear hs0 ht
  clear hHeld
  have K_ := Lib.hid HB50.out.2.1
  clear KA
  have KA := K_
  clear K_
  have K_ := Lib.hid HB50.out.2.2
  clear KB
  have KB := K_
  clear K_
  obtain ⟨⟨cA0, cA1, cA2⟩, _⟩ := h_cells KA.out
  obtain ⟨⟨cB0, cB1, cB2⟩, _⟩ := h_cells KB.out
  go_wp2_with fail
  refine (value_Parse.calls ⟨#[]⟩ 0 0 ⟨#[]⟩ 4 _ (GT.below HG.out HB50.out.1) HPS.out).mono ?_
  rintro e w51 ⟨rfl, hb⟩
  clear cA0 cA1 cA2 cB0 cB1 cB2
  have K_ := Lib.hid (keep1 hb KA.out)
  clear KA
  have KA := K_
  clear K_
  have K_ := Lib.hid (keep1 hb KB.out)
  clear KB
  have KB := K_
  clear K_
  have HB51 := Lib.hid (HB50.out.1.trans (hb.mono HB50.out.1.size))
  clear hb
  have K_ := Lib.hid (keepA (o' := .cells #[.int .i64 0, .int .i64 0, .string ⟨#[]⟩] 23) KA.out)
  clear KA
  have KA := K_
  clear K_
  have K_ := Lib.hid (keepA (o' := .cells #[.int .i64 0, .int .i64 0, .string ⟨#[]⟩] 23) KB.out)
  clear KB
  have KB := K_
  clear K_
  have KR := Lib.hid (heap_new w51 (.cells #[.int .i64 0, .int .i64 0, .string ⟨#[]⟩] 23))
  have HB51a := Lib.hid (HB51.out.alloc HB51.out.size (.cells #[.int .i64 0, .int .i64 0, .string ⟨#[]⟩] 23))
  obtain ⟨⟨cA0, cA1, cA2⟩, _⟩ := h_cells KA.out
  obtain ⟨⟨cB0, cB1, cB2⟩, _⟩ := h_cells KB.out
  obtain ⟨⟨cR0, cR1, cR2⟩, _⟩ := h_cells KR.out
  go_wp2_with fail
  refine (Px.value_Valid.calls 1 k n t _ _ HVA.out).mono ?_
  rintro e w52 ⟨rfl, hb⟩
  clear cA0 cA1 cA2 cB0 cB1 cB2 cR0 cR1 cR2
  have K_ := Lib.hid (keep1 hb KA.out)
  clear KA
  have KA := K_
  clear K_
  have K_ := Lib.hid (keep1 hb KB.out)
  clear KB
  have KB := K_
  clear K_
  have K_ := Lib.hid (keep1 hb KR.out)
  clear KR
  have KR := K_
  clear K_
  have HB52 := Lib.hid (HB51a.out.trans (hb.mono HB51a.out.size))
  clear hb
  obtain ⟨⟨cA0, cA1, cA2⟩, _⟩ := h_cells KA.out
  obtain ⟨⟨cB0, cB1, cB2⟩, _⟩ := h_cells KB.out
  obtain ⟨⟨cR0, cR1, cR2⟩, _⟩ := h_cells KR.out
  go_wp2_with fail
  refine (Px.value_Valid.calls 1 k n t _ _ HVA.out).mono ?_
  rintro e w53 ⟨rfl, hb⟩
  clear cA0 cA1 cA2 cB0 cB1 cB2 cR0 cR1 cR2
  have K_ := Lib.hid (keep1 hb KA.out)
  clear KA
  have KA := K_
  clear K_
  have K_ := Lib.hid (keep1 hb KB.out)
  clear KB
  have KB := K_
  clear K_
  have K_ := Lib.hid (keep1 hb KR.out)
  clear KR
  have KR := K_
  clear K_
  have HB53 := Lib.hid (HB52.out.trans (hb.mono HB52.out.size))
  clear hb
  obtain ⟨⟨cA0, cA1, cA2⟩, _⟩ := h_cells KA.out
  obtain ⟨⟨cB0, cB1, cB2⟩, _⟩ := h_cells KB.out
  obtain ⟨⟨cR0, cR1, cR2⟩, _⟩ := h_cells KR.out
  go_wp2_with fail
  refine (value_Parse.calls u x y z 0 _ (GT.below HG.out HB53.out) HPU.out).mono ?_
  rintro e w54 ⟨rfl, hb⟩
  clear cA0 cA1 cA2 cB0 cB1 cB2 cR0 cR1 cR2
  have K_ := Lib.hid (keep1 hb KA.out)
  clear KA
  have KA := K_
  clear K_
  have K_ := Lib.hid (keep1 hb KB.out)
  clear KB
  have KB := K_
  clear K_
  have K_ := Lib.hid (keep1 hb KR.out)
  clear KR
  have KR := K_
  clear K_
  have HB54 := Lib.hid (HB53.out.trans (hb.mono HB53.out.size))
  clear hb
  have K_ := Lib.hid (keepA (o' := .cells #[.int .i64 x, .int .i64 y, .string z] 23) KA.out)
  clear KA
  have KA := K_
  clear K_
  have K_ := Lib.hid (keepA (o' := .cells #[.int .i64 x, .int .i64 y, .string z] 23) KB.out)
  clear KB
  have KB := K_
  clear K_
  have K_ := Lib.hid (keepA (o' := .cells #[.int .i64 x, .int .i64 y, .string z] 23) KR.out)
  clear KR
  have KR := K_
  clear K_
  have KQ := Lib.hid (heap_new w54 (.cells #[.int .i64 x, .int .i64 y, .string z] 23))
  have HB54a := Lib.hid (HB54.out.alloc HB54.out.size (.cells #[.int .i64 x, .int .i64 y, .string z] 23))
  obtain ⟨⟨cA0, cA1, cA2⟩, _⟩ := h_cells KA.out
  obtain ⟨⟨cB0, cB1, cB2⟩, _⟩ := h_cells KB.out
  obtain ⟨⟨cR0, cR1, cR2⟩, _⟩ := h_cells KR.out
  obtain ⟨⟨cQ0, cQ1, cQ2⟩, _⟩ := h_cells KQ.out
  go_wp2_with fail
  refine (Px.value_Valid.calls 1 x y z _ _ HVX.out).mono ?_
  rintro e w55 ⟨rfl, hb⟩
  clear cA0 cA1 cA2 cB0 cB1 cB2 cR0 cR1 cR2 cQ0 cQ1 cQ2
  have K_ := Lib.hid (keep1 hb KA.out)
  clear KA
  have KA := K_
  clear K_
  have K_ := Lib.hid (keep1 hb KB.out)
  clear KB
  have KB := K_
  clear K_
  have K_ := Lib.hid (keep1 hb KR.out)
  clear KR
  have KR := K_
  clear K_
  have K_ := Lib.hid (keep1 hb KQ.out)
  clear KQ
  have KQ := K_
  clear K_
  have HB55 := Lib.hid (HB54a.out.trans (hb.mono HB54a.out.size))
  clear hb
  obtain ⟨⟨cA0, cA1, cA2⟩, _⟩ := h_cells KA.out
  obtain ⟨⟨cB0, cB1, cB2⟩, _⟩ := h_cells KB.out
  obtain ⟨⟨cR0, cR1, cR2⟩, _⟩ := h_cells KR.out
  obtain ⟨⟨cQ0, cQ1, cQ2⟩, _⟩ := h_cells KQ.out
  go_wp2_with fail
  refine (value_Text.calls x y z u _ (GT.below HG.out HB55.out) HTX.out).mono ?_
  rintro e w56 ⟨rfl, hb⟩
  clear cA0 cA1 cA2 cB0 cB1 cB2 cR0 cR1 cR2 cQ0 cQ1 cQ2
  have K_ := Lib.hid (keep1 hb KA.out)
  clear KA
  have KA := K_
  clear K_
  have K_ := Lib.hid (keep1 hb KB.out)
  clear KB
  have KB := K_
  clear K_
  have K_ := Lib.hid (keep1 hb KR.out)
  clear KR
  have KR := K_
  clear K_
  have K_ := Lib.hid (keep1 hb KQ.out)
  clear KQ
  have KQ := K_
  clear K_
  have HB56 := Lib.hid (HB55.out.trans (hb.mono HB55.out.size))
  clear hb
  obtain ⟨⟨cA0, cA1, cA2⟩, _⟩ := h_cells KA.out
  obtain ⟨⟨cB0, cB1, cB2⟩, _⟩ := h_cells KB.out
  obtain ⟨⟨cR0, cR1, cR2⟩, _⟩ := h_cells KR.out
  obtain ⟨⟨cQ0, cQ1, cQ2⟩, _⟩ := h_cells KQ.out
  go_wp2_with fail
  go_ret
  exact ⟨rfl, HB56.out⟩

set_option maxRecDepth 100000 in
set_option maxHeartbeats 4000000 in
theorem texts_c (k n : Int) (t : ByteArray) (k' n' : Int) (t' u : ByteArray) (w : World) (hG : GT w) (hs : shortB [⟨k, n, t⟩, ⟨k', n', t'⟩] = true) (hu : u.size ≤ 500) (ha : ValidP k n t.data.toList) (s s' : ByteArray) (e1 e2 e3 : Bool) (hta : value_Text.f k n t = some s) (htb : value_Text.f k' n' t' = some s') (h1 : (k == k') = e1) (h2 : (n == n') = e2) (h3 : (t.toList == t'.toList) = e3) (he : (s.toList == s'.toList) = (e1 && (e2 && e3))) (hse : s.toList.isEmpty = false) (hps : value_Parse.f s = some (k, n, t, 0)) (hpu : value_Parse.f u = some (0, 0, ⟨#[]⟩, 4))  :
    Calls Tryz.prog 5 #[.agg #[.int .i64 k, .int .i64 n, .string t], .agg #[.int .i64 k', .int .i64 n', .string t'], .string u] w fun e w' => HeadPost w e w' := by
  have HG := Lib.hid hG
  clear hG
  have HSH := Lib.hid ((short_f [⟨k, n, t⟩, ⟨k', n', t'⟩] (by simp) 10 (by simp)).trans (congrArg some hs))
  clear hs
  have q0 : decide (500 < (u.size : Int)) = false := decide_eq_false (by omega)
  clear hu
  have HVA := Lib.hid ((valid_f 0 k n t).trans (congrArg some (valid_iff.2 ha)))
  have HTA := Lib.hid hta
  have HTB := Lib.hid htb
  have HPS := Lib.hid hps
  clear ha hta htb hps
  have HPU := Lib.hid hpu
  clear hpu
  go_enter Tryz.func5, Tryz.ntmps5
  go_wp2_with fail
  have KA := heap_new w (.cells #[.int .i64 k, .int .i64 n, .string t] 23)
  have KB := heap_new (w.alloc (.cells #[.int .i64 k, .int .i64 n, .string t] 23)) (.cells #[.int .i64 k', .int .i64 n', .string t'] 23)
  rw [show (w.alloc (.cells #[.int .i64 k, .int .i64 n, .string t] 23)).heap.size = w.heap.size + 1 by simp] at KB
  have KA := keepA (o' := .cells #[.int .i64 k', .int .i64 n', .string t'] 23) KA
  have K_ := Lib.hid KA
  clear KA
  have KA := K_
  clear K_
  have K_ := Lib.hid KB
  clear KB
  have KB := K_
  clear K_
  have HB0 := Lib.hid (((Below.refl w.heap.size w).alloc (Nat.le_refl _) (.cells #[.int .i64 k, .int .i64 n, .string t] 23)).alloc (by simp) (.cells #[.int .i64 k', .int .i64 n', .string t'] 23))
  refine (cleanselaw02_head.calls true _ (GT.below HG.out HB0.out) rfl).mono ?_
  rintro e w1 ⟨rfl, hb⟩
  have K_ := Lib.hid (keep1 hb KA.out)
  clear KA
  have KA := K_
  clear K_
  have K_ := Lib.hid (keep1 hb KB.out)
  clear KB
  have KB := K_
  clear K_
  have HB1 := Lib.hid (HB0.out.trans (hb.mono HB0.out.size))
  clear hb
  obtain ⟨⟨cA0, cA1, cA2⟩, _⟩ := h_cells KA.out
  obtain ⟨⟨cB0, cB1, cB2⟩, _⟩ := h_cells KB.out
  go_wp2_with fail
  clear cA0 cA1 cA2 cB0 cB1 cB2
  have K_ := Lib.hid (keepA (o' := .cells #[.int .i64 k, .int .i64 n, .string t, .int .i64 k', .int .i64 n', .string t'] 23) KA.out)
  clear KA
  have KA := K_
  clear K_
  have K_ := Lib.hid (keepA (o' := .cells #[.int .i64 k, .int .i64 n, .string t, .int .i64 k', .int .i64 n', .string t'] 23) KB.out)
  clear KB
  have KB := K_
  clear K_
  have HB1s := Lib.hid (HB1.out.alloc HB1.out.size (.cells #[.int .i64 k, .int .i64 n, .string t, .int .i64 k', .int .i64 n', .string t'] 23))
  refine (Px.cleanselaw02_short.calls 10 _ 2 [⟨k, n, t⟩, ⟨k', n', t'⟩] true _ (row2 (heap_new w1 _)) (Nat.le_refl _) HSH.out).mono ?_
  rintro e w2 ⟨rfl, hd⟩
  have hb := hd.below
  clear hd
  have K_ := Lib.hid (keep1 hb KA.out)
  clear KA
  have KA := K_
  clear K_
  have K_ := Lib.hid (keep1 hb KB.out)
  clear KB
  have KB := K_
  clear K_
  have HB2 := Lib.hid (HB1s.out.trans (hb.mono HB1s.out.size))
  clear hb
  obtain ⟨⟨cA0, cA1, cA2⟩, _⟩ := h_cells KA.out
  obtain ⟨⟨cB0, cB1, cB2⟩, _⟩ := h_cells KB.out
  go_wp2_with fail
  refine (value_Text.calls k n t s _ (GT.below HG.out HB2.out) HTA.out).mono ?_
  rintro e w3 ⟨rfl, hb⟩
  clear cA0 cA1 cA2 cB0 cB1 cB2
  have K_ := Lib.hid (keep1 hb KA.out)
  clear KA
  have KA := K_
  clear K_
  have K_ := Lib.hid (keep1 hb KB.out)
  clear KB
  have KB := K_
  clear K_
  have HB3 := Lib.hid (HB2.out.trans (hb.mono HB2.out.size))
  clear hb
  obtain ⟨⟨cA0, cA1, cA2⟩, _⟩ := h_cells KA.out
  obtain ⟨⟨cB0, cB1, cB2⟩, _⟩ := h_cells KB.out
  go_wp2_with fail
  have hs0 := ts_all ⟨HB3.out, KA.out, KB.out⟩
  clear cA0 cA1 cA2 cB0 cB1 cB2
  generalize w3 = W at *
  go_region_held3 (fun w' => w'.cell? ⟨w.heap.size, 0, none⟩ = some (.int .i64 k) ∧ w'.cell? ⟨w.heap.size, 1, none⟩ = some (.int .i64 n) ∧ w'.cell? ⟨w.heap.size, 2, none⟩ = some (.string t) ∧ w'.cell? ⟨w.heap.size + 1, 0, none⟩ = some (.int .i64 k') ∧ w'.cell? ⟨w.heap.size + 1, 1, none⟩ = some (.int .i64 n') ∧ w'.cell? ⟨w.heap.size + 1, 2, none⟩ = some (.string t') ∧ TSQ w w' k n t k' n' t')
    (first | assumption | exact ts_step (by assumption) (Below.refl _ _).drew | exact ts_step (by assumption) (Below.refl _ _))
    (first | (go_at_call 17; refine (Px.value_Valid.calls 1 k n t _ _ HVA.out).mono ?_; rintro e wt ⟨rfl, hb⟩; have ht := ts_step (by assumption) hb; clear hb) | (go_at_call 21; refine (value_Text.calls k' n' t' s' _ (ts_gt HG.out (by assumption)) HTB.out).mono ?_; rintro e wt ⟨rfl, hb⟩; have ht := ts_step (by assumption) hb; clear hb) | fail)
  have HB50 := Lib.hid ht.2.2.2.2.2.2
  clear hs0 ht
  rename_i hHeld_
  clear hHeld_
  have K_ := Lib.hid HB50.out.2.1
  clear KA
  have KA := K_
  clear K_
  have K_ := Lib.hid HB50.out.2.2
  clear KB
  have KB := K_
  clear K_
  obtain ⟨⟨cA0, cA1, cA2⟩, _⟩ := h_cells KA.out
  obtain ⟨⟨cB0, cB1, cB2⟩, _⟩ := h_cells KB.out
  go_wp2_with fail
  refine (value_Parse.calls s k n t 0 _ (GT.below HG.out HB50.out.1) HPS.out).mono ?_
  rintro e w51 ⟨rfl, hb⟩
  clear cA0 cA1 cA2 cB0 cB1 cB2
  have K_ := Lib.hid (keep1 hb KA.out)
  clear KA
  have KA := K_
  clear K_
  have K_ := Lib.hid (keep1 hb KB.out)
  clear KB
  have KB := K_
  clear K_
  have HB51 := Lib.hid (HB50.out.1.trans (hb.mono HB50.out.1.size))
  clear hb
  have K_ := Lib.hid (keepA (o' := .cells #[.int .i64 k, .int .i64 n, .string t] 23) KA.out)
  clear KA
  have KA := K_
  clear K_
  have K_ := Lib.hid (keepA (o' := .cells #[.int .i64 k, .int .i64 n, .string t] 23) KB.out)
  clear KB
  have KB := K_
  clear K_
  have KR := Lib.hid (heap_new w51 (.cells #[.int .i64 k, .int .i64 n, .string t] 23))
  have HB51a := Lib.hid (HB51.out.alloc HB51.out.size (.cells #[.int .i64 k, .int .i64 n, .string t] 23))
  obtain ⟨⟨cA0, cA1, cA2⟩, _⟩ := h_cells KA.out
  obtain ⟨⟨cB0, cB1, cB2⟩, _⟩ := h_cells KB.out
  obtain ⟨⟨cR0, cR1, cR2⟩, _⟩ := h_cells KR.out
  go_wp2_with fail
  refine (Px.value_Valid.calls 1 k n t _ _ HVA.out).mono ?_
  rintro e w52 ⟨rfl, hb⟩
  clear cA0 cA1 cA2 cB0 cB1 cB2 cR0 cR1 cR2
  have K_ := Lib.hid (keep1 hb KA.out)
  clear KA
  have KA := K_
  clear K_
  have K_ := Lib.hid (keep1 hb KB.out)
  clear KB
  have KB := K_
  clear K_
  have K_ := Lib.hid (keep1 hb KR.out)
  clear KR
  have KR := K_
  clear K_
  have HB52 := Lib.hid (HB51a.out.trans (hb.mono HB51a.out.size))
  clear hb
  obtain ⟨⟨cA0, cA1, cA2⟩, _⟩ := h_cells KA.out
  obtain ⟨⟨cB0, cB1, cB2⟩, _⟩ := h_cells KB.out
  obtain ⟨⟨cR0, cR1, cR2⟩, _⟩ := h_cells KR.out
  go_wp2_with fail
  refine (Px.value_Valid.calls 1 k n t _ _ HVA.out).mono ?_
  rintro e w53 ⟨rfl, hb⟩
  clear cA0 cA1 cA2 cB0 cB1 cB2 cR0 cR1 cR2
  have K_ := Lib.hid (keep1 hb KA.out)
  clear KA
  have KA := K_
  clear K_
  have K_ := Lib.hid (keep1 hb KB.out)
  clear KB
  have KB := K_
  clear K_
  have K_ := Lib.hid (keep1 hb KR.out)
  clear KR
  have KR := K_
  clear K_
  have HB53 := Lib.hid (HB52.out.trans (hb.mono HB52.out.size))
  clear hb
  obtain ⟨⟨cA0, cA1, cA2⟩, _⟩ := h_cells KA.out
  obtain ⟨⟨cB0, cB1, cB2⟩, _⟩ := h_cells KB.out
  obtain ⟨⟨cR0, cR1, cR2⟩, _⟩ := h_cells KR.out
  go_wp2_with fail
  refine (value_Parse.calls u 0 0 ⟨#[]⟩ 4 _ (GT.below HG.out HB53.out) HPU.out).mono ?_
  rintro e w54 ⟨rfl, hb⟩
  clear cA0 cA1 cA2 cB0 cB1 cB2 cR0 cR1 cR2
  have K_ := Lib.hid (keep1 hb KA.out)
  clear KA
  have KA := K_
  clear K_
  have K_ := Lib.hid (keep1 hb KB.out)
  clear KB
  have KB := K_
  clear K_
  have K_ := Lib.hid (keep1 hb KR.out)
  clear KR
  have KR := K_
  clear K_
  have HB54 := Lib.hid (HB53.out.trans (hb.mono HB53.out.size))
  clear hb
  have K_ := Lib.hid (keepA (o' := .cells #[.int .i64 0, .int .i64 0, .string ⟨#[]⟩] 23) KA.out)
  clear KA
  have KA := K_
  clear K_
  have K_ := Lib.hid (keepA (o' := .cells #[.int .i64 0, .int .i64 0, .string ⟨#[]⟩] 23) KB.out)
  clear KB
  have KB := K_
  clear K_
  have K_ := Lib.hid (keepA (o' := .cells #[.int .i64 0, .int .i64 0, .string ⟨#[]⟩] 23) KR.out)
  clear KR
  have KR := K_
  clear K_
  have KQ := Lib.hid (heap_new w54 (.cells #[.int .i64 0, .int .i64 0, .string ⟨#[]⟩] 23))
  have HB54a := Lib.hid (HB54.out.alloc HB54.out.size (.cells #[.int .i64 0, .int .i64 0, .string ⟨#[]⟩] 23))
  obtain ⟨⟨cA0, cA1, cA2⟩, _⟩ := h_cells KA.out
  obtain ⟨⟨cB0, cB1, cB2⟩, _⟩ := h_cells KB.out
  obtain ⟨⟨cR0, cR1, cR2⟩, _⟩ := h_cells KR.out
  obtain ⟨⟨cQ0, cQ1, cQ2⟩, _⟩ := h_cells KQ.out
  go_wp2_with fail
  go_ret
  exact ⟨rfl, HB54a.out⟩

set_option maxRecDepth 100000 in
set_option maxHeartbeats 4000000 in
theorem texts_d (k n : Int) (t : ByteArray) (k' n' : Int) (t' u : ByteArray) (w : World) (hG : GT w) (hs : shortB [⟨k, n, t⟩, ⟨k', n', t'⟩] = true) (hu : u.size ≤ 500) (ha : ValidP k n t.data.toList) (s s' : ByteArray) (e1 e2 e3 : Bool) (hta : value_Text.f k n t = some s) (htb : value_Text.f k' n' t' = some s') (h1 : (k == k') = e1) (h2 : (n == n') = e2) (h3 : (t.toList == t'.toList) = e3) (he : (s.toList == s'.toList) = (e1 && (e2 && e3))) (hse : s.toList.isEmpty = false) (hps : value_Parse.f s = some (k, n, t, 0)) (x y : Int) (z : ByteArray) (hpu : value_Parse.f u = some (x, y, z, 0)) (hx : ValidP x y z.data.toList) (htx : value_Text.f x y z = some u)  :
    Calls Tryz.prog 5 #[.agg #[.int .i64 k, .int .i64 n, .string t], .agg #[.int .i64 k', .int .i64 n', .string t'], .string u] w fun e w' => HeadPost w e w' := by
  have HG := Lib.hid hG
  clear hG
  have HSH := Lib.hid ((short_f [⟨k, n, t⟩, ⟨k', n', t'⟩] (by simp) 10 (by simp)).trans (congrArg some hs))
  clear hs
  have q0 : decide (500 < (u.size : Int)) = false := decide_eq_false (by omega)
  clear hu
  have HVA := Lib.hid ((valid_f 0 k n t).trans (congrArg some (valid_iff.2 ha)))
  have HTA := Lib.hid hta
  have HTB := Lib.hid htb
  have HPS := Lib.hid hps
  clear ha hta htb hps
  have HPU := Lib.hid hpu
  have HVX := Lib.hid ((valid_f 0 x y z).trans (congrArg some (valid_iff.2 hx)))
  have HTX := Lib.hid htx
  clear hpu hx htx
  go_enter Tryz.func5, Tryz.ntmps5
  go_wp2_with fail
  have KA := heap_new w (.cells #[.int .i64 k, .int .i64 n, .string t] 23)
  have KB := heap_new (w.alloc (.cells #[.int .i64 k, .int .i64 n, .string t] 23)) (.cells #[.int .i64 k', .int .i64 n', .string t'] 23)
  rw [show (w.alloc (.cells #[.int .i64 k, .int .i64 n, .string t] 23)).heap.size = w.heap.size + 1 by simp] at KB
  have KA := keepA (o' := .cells #[.int .i64 k', .int .i64 n', .string t'] 23) KA
  have K_ := Lib.hid KA
  clear KA
  have KA := K_
  clear K_
  have K_ := Lib.hid KB
  clear KB
  have KB := K_
  clear K_
  have HB0 := Lib.hid (((Below.refl w.heap.size w).alloc (Nat.le_refl _) (.cells #[.int .i64 k, .int .i64 n, .string t] 23)).alloc (by simp) (.cells #[.int .i64 k', .int .i64 n', .string t'] 23))
  refine (cleanselaw02_head.calls true _ (GT.below HG.out HB0.out) rfl).mono ?_
  rintro e w1 ⟨rfl, hb⟩
  have K_ := Lib.hid (keep1 hb KA.out)
  clear KA
  have KA := K_
  clear K_
  have K_ := Lib.hid (keep1 hb KB.out)
  clear KB
  have KB := K_
  clear K_
  have HB1 := Lib.hid (HB0.out.trans (hb.mono HB0.out.size))
  clear hb
  obtain ⟨⟨cA0, cA1, cA2⟩, _⟩ := h_cells KA.out
  obtain ⟨⟨cB0, cB1, cB2⟩, _⟩ := h_cells KB.out
  go_wp2_with fail
  clear cA0 cA1 cA2 cB0 cB1 cB2
  have K_ := Lib.hid (keepA (o' := .cells #[.int .i64 k, .int .i64 n, .string t, .int .i64 k', .int .i64 n', .string t'] 23) KA.out)
  clear KA
  have KA := K_
  clear K_
  have K_ := Lib.hid (keepA (o' := .cells #[.int .i64 k, .int .i64 n, .string t, .int .i64 k', .int .i64 n', .string t'] 23) KB.out)
  clear KB
  have KB := K_
  clear K_
  have HB1s := Lib.hid (HB1.out.alloc HB1.out.size (.cells #[.int .i64 k, .int .i64 n, .string t, .int .i64 k', .int .i64 n', .string t'] 23))
  refine (Px.cleanselaw02_short.calls 10 _ 2 [⟨k, n, t⟩, ⟨k', n', t'⟩] true _ (row2 (heap_new w1 _)) (Nat.le_refl _) HSH.out).mono ?_
  rintro e w2 ⟨rfl, hd⟩
  have hb := hd.below
  clear hd
  have K_ := Lib.hid (keep1 hb KA.out)
  clear KA
  have KA := K_
  clear K_
  have K_ := Lib.hid (keep1 hb KB.out)
  clear KB
  have KB := K_
  clear K_
  have HB2 := Lib.hid (HB1s.out.trans (hb.mono HB1s.out.size))
  clear hb
  obtain ⟨⟨cA0, cA1, cA2⟩, _⟩ := h_cells KA.out
  obtain ⟨⟨cB0, cB1, cB2⟩, _⟩ := h_cells KB.out
  go_wp2_with fail
  refine (value_Text.calls k n t s _ (GT.below HG.out HB2.out) HTA.out).mono ?_
  rintro e w3 ⟨rfl, hb⟩
  clear cA0 cA1 cA2 cB0 cB1 cB2
  have K_ := Lib.hid (keep1 hb KA.out)
  clear KA
  have KA := K_
  clear K_
  have K_ := Lib.hid (keep1 hb KB.out)
  clear KB
  have KB := K_
  clear K_
  have HB3 := Lib.hid (HB2.out.trans (hb.mono HB2.out.size))
  clear hb
  obtain ⟨⟨cA0, cA1, cA2⟩, _⟩ := h_cells KA.out
  obtain ⟨⟨cB0, cB1, cB2⟩, _⟩ := h_cells KB.out
  go_wp2_with fail
  have hs0 := ts_all ⟨HB3.out, KA.out, KB.out⟩
  clear cA0 cA1 cA2 cB0 cB1 cB2
  generalize w3 = W at *
  go_region_held3 (fun w' => w'.cell? ⟨w.heap.size, 0, none⟩ = some (.int .i64 k) ∧ w'.cell? ⟨w.heap.size, 1, none⟩ = some (.int .i64 n) ∧ w'.cell? ⟨w.heap.size, 2, none⟩ = some (.string t) ∧ w'.cell? ⟨w.heap.size + 1, 0, none⟩ = some (.int .i64 k') ∧ w'.cell? ⟨w.heap.size + 1, 1, none⟩ = some (.int .i64 n') ∧ w'.cell? ⟨w.heap.size + 1, 2, none⟩ = some (.string t') ∧ TSQ w w' k n t k' n' t')
    (first | assumption | exact ts_step (by assumption) (Below.refl _ _).drew | exact ts_step (by assumption) (Below.refl _ _))
    (first | (go_at_call 17; refine (Px.value_Valid.calls 1 k n t _ _ HVA.out).mono ?_; rintro e wt ⟨rfl, hb⟩; have ht := ts_step (by assumption) hb; clear hb) | (go_at_call 21; refine (value_Text.calls k' n' t' s' _ (ts_gt HG.out (by assumption)) HTB.out).mono ?_; rintro e wt ⟨rfl, hb⟩; have ht := ts_step (by assumption) hb; clear hb) | fail)
  have HB50 := Lib.hid ht.2.2.2.2.2.2
  clear hs0 ht
  rename_i hHeld_
  clear hHeld_
  have K_ := Lib.hid HB50.out.2.1
  clear KA
  have KA := K_
  clear K_
  have K_ := Lib.hid HB50.out.2.2
  clear KB
  have KB := K_
  clear K_
  obtain ⟨⟨cA0, cA1, cA2⟩, _⟩ := h_cells KA.out
  obtain ⟨⟨cB0, cB1, cB2⟩, _⟩ := h_cells KB.out
  go_wp2_with fail
  refine (value_Parse.calls s k n t 0 _ (GT.below HG.out HB50.out.1) HPS.out).mono ?_
  rintro e w51 ⟨rfl, hb⟩
  clear cA0 cA1 cA2 cB0 cB1 cB2
  have K_ := Lib.hid (keep1 hb KA.out)
  clear KA
  have KA := K_
  clear K_
  have K_ := Lib.hid (keep1 hb KB.out)
  clear KB
  have KB := K_
  clear K_
  have HB51 := Lib.hid (HB50.out.1.trans (hb.mono HB50.out.1.size))
  clear hb
  have K_ := Lib.hid (keepA (o' := .cells #[.int .i64 k, .int .i64 n, .string t] 23) KA.out)
  clear KA
  have KA := K_
  clear K_
  have K_ := Lib.hid (keepA (o' := .cells #[.int .i64 k, .int .i64 n, .string t] 23) KB.out)
  clear KB
  have KB := K_
  clear K_
  have KR := Lib.hid (heap_new w51 (.cells #[.int .i64 k, .int .i64 n, .string t] 23))
  have HB51a := Lib.hid (HB51.out.alloc HB51.out.size (.cells #[.int .i64 k, .int .i64 n, .string t] 23))
  obtain ⟨⟨cA0, cA1, cA2⟩, _⟩ := h_cells KA.out
  obtain ⟨⟨cB0, cB1, cB2⟩, _⟩ := h_cells KB.out
  obtain ⟨⟨cR0, cR1, cR2⟩, _⟩ := h_cells KR.out
  go_wp2_with fail
  refine (Px.value_Valid.calls 1 k n t _ _ HVA.out).mono ?_
  rintro e w52 ⟨rfl, hb⟩
  clear cA0 cA1 cA2 cB0 cB1 cB2 cR0 cR1 cR2
  have K_ := Lib.hid (keep1 hb KA.out)
  clear KA
  have KA := K_
  clear K_
  have K_ := Lib.hid (keep1 hb KB.out)
  clear KB
  have KB := K_
  clear K_
  have K_ := Lib.hid (keep1 hb KR.out)
  clear KR
  have KR := K_
  clear K_
  have HB52 := Lib.hid (HB51a.out.trans (hb.mono HB51a.out.size))
  clear hb
  obtain ⟨⟨cA0, cA1, cA2⟩, _⟩ := h_cells KA.out
  obtain ⟨⟨cB0, cB1, cB2⟩, _⟩ := h_cells KB.out
  obtain ⟨⟨cR0, cR1, cR2⟩, _⟩ := h_cells KR.out
  go_wp2_with fail
  refine (Px.value_Valid.calls 1 k n t _ _ HVA.out).mono ?_
  rintro e w53 ⟨rfl, hb⟩
  clear cA0 cA1 cA2 cB0 cB1 cB2 cR0 cR1 cR2
  have K_ := Lib.hid (keep1 hb KA.out)
  clear KA
  have KA := K_
  clear K_
  have K_ := Lib.hid (keep1 hb KB.out)
  clear KB
  have KB := K_
  clear K_
  have K_ := Lib.hid (keep1 hb KR.out)
  clear KR
  have KR := K_
  clear K_
  have HB53 := Lib.hid (HB52.out.trans (hb.mono HB52.out.size))
  clear hb
  obtain ⟨⟨cA0, cA1, cA2⟩, _⟩ := h_cells KA.out
  obtain ⟨⟨cB0, cB1, cB2⟩, _⟩ := h_cells KB.out
  obtain ⟨⟨cR0, cR1, cR2⟩, _⟩ := h_cells KR.out
  go_wp2_with fail
  refine (value_Parse.calls u x y z 0 _ (GT.below HG.out HB53.out) HPU.out).mono ?_
  rintro e w54 ⟨rfl, hb⟩
  clear cA0 cA1 cA2 cB0 cB1 cB2 cR0 cR1 cR2
  have K_ := Lib.hid (keep1 hb KA.out)
  clear KA
  have KA := K_
  clear K_
  have K_ := Lib.hid (keep1 hb KB.out)
  clear KB
  have KB := K_
  clear K_
  have K_ := Lib.hid (keep1 hb KR.out)
  clear KR
  have KR := K_
  clear K_
  have HB54 := Lib.hid (HB53.out.trans (hb.mono HB53.out.size))
  clear hb
  have K_ := Lib.hid (keepA (o' := .cells #[.int .i64 x, .int .i64 y, .string z] 23) KA.out)
  clear KA
  have KA := K_
  clear K_
  have K_ := Lib.hid (keepA (o' := .cells #[.int .i64 x, .int .i64 y, .string z] 23) KB.out)
  clear KB
  have KB := K_
  clear K_
  have K_ := Lib.hid (keepA (o' := .cells #[.int .i64 x, .int .i64 y, .string z] 23) KR.out)
  clear KR
  have KR := K_
  clear K_
  have KQ := Lib.hid (heap_new w54 (.cells #[.int .i64 x, .int .i64 y, .string z] 23))
  have HB54a := Lib.hid (HB54.out.alloc HB54.out.size (.cells #[.int .i64 x, .int .i64 y, .string z] 23))
  obtain ⟨⟨cA0, cA1, cA2⟩, _⟩ := h_cells KA.out
  obtain ⟨⟨cB0, cB1, cB2⟩, _⟩ := h_cells KB.out
  obtain ⟨⟨cR0, cR1, cR2⟩, _⟩ := h_cells KR.out
  obtain ⟨⟨cQ0, cQ1, cQ2⟩, _⟩ := h_cells KQ.out
  go_wp2_with fail
  refine (Px.value_Valid.calls 1 x y z _ _ HVX.out).mono ?_
  rintro e w55 ⟨rfl, hb⟩
  clear cA0 cA1 cA2 cB0 cB1 cB2 cR0 cR1 cR2 cQ0 cQ1 cQ2
  have K_ := Lib.hid (keep1 hb KA.out)
  clear KA
  have KA := K_
  clear K_
  have K_ := Lib.hid (keep1 hb KB.out)
  clear KB
  have KB := K_
  clear K_
  have K_ := Lib.hid (keep1 hb KR.out)
  clear KR
  have KR := K_
  clear K_
  have K_ := Lib.hid (keep1 hb KQ.out)
  clear KQ
  have KQ := K_
  clear K_
  have HB55 := Lib.hid (HB54a.out.trans (hb.mono HB54a.out.size))
  clear hb
  obtain ⟨⟨cA0, cA1, cA2⟩, _⟩ := h_cells KA.out
  obtain ⟨⟨cB0, cB1, cB2⟩, _⟩ := h_cells KB.out
  obtain ⟨⟨cR0, cR1, cR2⟩, _⟩ := h_cells KR.out
  obtain ⟨⟨cQ0, cQ1, cQ2⟩, _⟩ := h_cells KQ.out
  go_wp2_with fail
  refine (value_Text.calls x y z u _ (GT.below HG.out HB55.out) HTX.out).mono ?_
  rintro e w56 ⟨rfl, hb⟩
  clear cA0 cA1 cA2 cB0 cB1 cB2 cR0 cR1 cR2 cQ0 cQ1 cQ2
  have K_ := Lib.hid (keep1 hb KA.out)
  clear KA
  have KA := K_
  clear K_
  have K_ := Lib.hid (keep1 hb KB.out)
  clear KB
  have KB := K_
  clear K_
  have K_ := Lib.hid (keep1 hb KR.out)
  clear KR
  have KR := K_
  clear K_
  have K_ := Lib.hid (keep1 hb KQ.out)
  clear KQ
  have KQ := K_
  clear K_
  have HB56 := Lib.hid (HB55.out.trans (hb.mono HB55.out.size))
  clear hb
  obtain ⟨⟨cA0, cA1, cA2⟩, _⟩ := h_cells KA.out
  obtain ⟨⟨cB0, cB1, cB2⟩, _⟩ := h_cells KB.out
  obtain ⟨⟨cR0, cR1, cR2⟩, _⟩ := h_cells KR.out
  obtain ⟨⟨cQ0, cQ1, cQ2⟩, _⟩ := h_cells KQ.out
  go_wp2_with fail
  go_ret
  exact ⟨rfl, HB56.out⟩

end Go.Proofs.YthgppbpmcjkadaaGreatDoor.X
namespace Go.Proofs.YthgppbpmcjkadaaGreatDoor.Xn
open Go.RowKit X Go.Proofs.YthgppbpmcjkadaaGreatDoorW.PrintWords
def cleanselaw02_ValueTexts.f (a0_0 : Int) (a0_1 : Int) (a0_2 : ByteArray) (a1_0 : Int) (a1_1 : Int) (a1_2 : ByteArray) (a2 : ByteArray) : Option Bool := some true
theorem shortB_two {k n : Int} {t : ByteArray} {k' n' : Int} {t' : ByteArray} (h : shortB [⟨k, n, t⟩, ⟨k', n', t'⟩] = true) : t.size ≤ 500 ∧ t'.size ≤ 500 := by
  simpa [shortB] using h
theorem parse_of {u : ByteArray} (h : u.size ≤ 1000000) : value_Parse.f u = some (parseR u.data.toList) := by
  unfold value_Parse.f; rw [if_pos h]
theorem texts_eq {k n : Int} {t : ByteArray} {k' n' : Int} {t' : ByteArray} (ha : ValidP k n t.data.toList) : ((bs (textL k n t.data.toList)).toList == (bs (textL k' n' t'.data.toList)).toList) = ((k == k') && ((n == n') && (t.toList == t'.toList))) := by
  rw [Bool.eq_iff_iff]
  simp only [Bool.and_eq_true, beq_iff_eq, ByteArray.toList_eq, bs_data]
  constructor
  · intro e
    by_cases hb : ValidP k' n' t'.data.toList
    · exact text_inj ha hb e
    · rw [text_none hb] at e; exact absurd e (text_ne ha)
  · rintro ⟨rfl, rfl, e⟩; rw [e]
theorem cleanselaw02_ValueTexts.calls (a0_0 : Int) (a0_1 : Int) (a0_2 : ByteArray) (a1_0 : Int) (a1_1 : Int) (a1_2 : ByteArray) (a2 : ByteArray) (r : Bool) (w : World) (hG : X.GT w) (h : cleanselaw02_ValueTexts.f a0_0 a0_1 a0_2 a1_0 a1_1 a1_2 a2 = some r) :
    Calls Tryz.prog 5 #[.agg #[.int .i64 a0_0, .int .i64 a0_1, .string a0_2], .agg #[.int .i64 a1_0, .int .i64 a1_1, .string a1_2], .string a2] w fun e w' => e = .returned (.bool r) ∧ Below w.heap.size w w' := by
  obtain rfl := Option.some.inj h
  show Calls Tryz.prog 5 _ w fun e w' => HeadPost w e w'
  cases hs : shortB [⟨a0_0, a0_1, a0_2⟩, ⟨a1_0, a1_1, a1_2⟩] with
  | false => exact texts_s _ _ _ _ _ _ _ w hG hs
  | true =>
    by_cases hu : a2.size ≤ 500
    case neg => exact texts_l _ _ _ _ _ _ _ w hG hs hu
    have hpu := parse_of (show a2.size ≤ 1000000 by omega)
    by_cases ha : ValidP a0_0 a0_1 a0_2.data.toList
    case neg =>
      have hta : value_Text.f a0_0 a0_1 a0_2 = some ⟨#[]⟩ := by unfold value_Text.f; rw [text_none ha]
      have hps : value_Parse.f ⟨#[]⟩ = some (0, 0, ⟨#[]⟩, 4) := (parse_of (by decide)).trans (congrArg some parse_nil)
      by_cases he : (parseR a2.data.toList).2.2.2 = 0
      · obtain ⟨x, y, z, hp, hv, ht⟩ := parseR_ok he
        exact texts_b _ _ _ _ _ _ _ w hG hs hu ha hta hps x y (bs z) (hpu.trans (congrArg some hp)) hv (by unfold value_Text.f; rw [bs_data, ht])
      · exact texts_a _ _ _ _ _ _ _ w hG hs hu ha hta hps (hpu.trans (congrArg some (parseR_no he)))
    have hz := text_short ha (by rw [len_list]; exact (shortB_two hs).1)
    have hps : value_Parse.f (bs (textL a0_0 a0_1 a0_2.data.toList)) = some (a0_0, a0_1, a0_2, 0) := (parse_of (by rw [bs_size]; omega)).trans (congrArg some (parseR_text ha))
    have hse : (bs (textL a0_0 a0_1 a0_2.data.toList)).toList.isEmpty = false := by
      rw [ByteArray.toList_eq, bs_data]
      cases hx : textL a0_0 a0_1 a0_2.data.toList with
      | nil => exact absurd hx (text_ne ha)
      | cons _ _ => rfl
    by_cases he : (parseR a2.data.toList).2.2.2 = 0
    · obtain ⟨x, y, z, hp, hv, ht⟩ := parseR_ok he
      exact texts_d _ _ _ _ _ _ _ w hG hs hu ha _ _ _ _ _ rfl rfl rfl rfl rfl (texts_eq ha) hse hps x y (bs z) (hpu.trans (congrArg some hp)) hv (by unfold value_Text.f; rw [bs_data, ht])
    · exact texts_c _ _ _ _ _ _ _ w hG hs hu ha _ _ _ _ _ rfl rfl rfl rfl rfl (texts_eq ha) hse hps (hpu.trans (congrArg some (parseR_no he)))
end Go.Proofs.YthgppbpmcjkadaaGreatDoor.Xn
