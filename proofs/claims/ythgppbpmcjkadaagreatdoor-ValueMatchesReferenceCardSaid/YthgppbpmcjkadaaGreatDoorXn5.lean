/- The statement ValueMatchesReference: what casts give, the reference's Cast and Test, the walk, the plain statement. -/
import Derived.Test.YthgppbpmcjkadaaGreatDoorX14
import Derived.Lib.ItoaLen
import Derived.Test.YthgppbpmcjkadaaGreatDoorX11
import Derived.Test.YthgppbpmcjkadaaGreatDoorPlD
import Derived.Test.YthgppbpmcjkadaaGreatDoorPlE
import Derived.Test.YthgppbpmcjkadaaGreatDoorPx4 -- F cleanseref02_Cast
import Derived.Test.YthgppbpmcjkadaaGreatDoorPx6 -- F cleanseref02_Test
import Derived.Test.YthgppbpmcjkadaaGreatDoorX10
import Derived.Deep.RegionHeld3
set_option linter.unusedVariables false
set_option linter.unusedSimpArgs false
namespace Go.Proofs.YthgppbpmcjkadaaGreatDoor.X
open Go.RowKit
theorem parseR_text {k n : Int} {t : ByteArray} (h : ValidP k n t.data.toList) : parseR (textL k n t.data.toList) = (k, n, t, 0) := by
  unfold parseR
  rw [parse_text h]
  rfl
theorem parseR_ok {l : List UInt8} (h : (parseR l).2.2.2 = 0) : ∃ k n t, parseR l = (k, n, bs t, 0) ∧ ValidP k n t ∧ textL k n t = l := by
  unfold parseR at h ⊢
  split at h
  · cases h
  · rename_i k n t hp
    obtain ⟨a, b⟩ := text_parse hp
    exact ⟨k, n, t, rfl, a, b⟩
theorem parseR_no {l : List UInt8} (h : (parseR l).2.2.2 ≠ 0) : parseR l = (0, 0, bs [], 4) := by
  unfold parseR at h ⊢
  split at h
  · rfl
  · exact absurd rfl h
theorem text_len {k n : Int} {t : List UInt8} (h : ValidP k n t) (hk : k ≠ 1) : (textL k n t).length ≤ 200 := by
  unfold textL
  rw [if_pos (valid_iff.2 h), if_neg hk]
  rcases h with ⟨rfl, h⟩ | ⟨rfl, h⟩ | ⟨rfl, h1, h2, h⟩ | ⟨rfl, h1, h2, h⟩ | ⟨rfl, h⟩
  · simp
  · exact absurd rfl hk
  · have := Lib.itoa_length_le n (by omega) (by omega)
    simp; omega
  · have := Lib.itoa_length_le n (by omega) (by omega)
    simp; omega
  · simp; split <;> simp
theorem cast_kind {k n : Int} {t : ByteArray} {d : Int} (h : ValidP k n t.data.toList) (hd : 1 ≤ d) (hd4 : d ≤ 4) :
    (∃ x y z, castR k n t d = (x, y, z, 0) ∧ ValidP x y z.data.toList ∧ ((x == 0) = (k == 0)) ∧ (x = 0 ∨ x = d)) ∨ ∃ e, e ≠ 0 ∧ e ≠ 1 ∧ castR k n t d = (0, 0, bs [], e) := by
  unfold castR
  rw [if_neg (fun h2 => h2 h), if_neg (by omega), if_neg (by omega)]
  have z1 : ∀ x : Int, 1 ≤ x → k ≠ 0 → (x == 0) = (k == 0) := fun x h1 h2 => by rw [beq_eq_false_iff_ne.2 (by omega), beq_eq_false_iff_ne.2 h2]
  by_cases hk : k = d
  · rw [if_pos hk]; exact .inl ⟨k, n, t, rfl, h, rfl, .inr hk⟩
  rw [if_neg hk]
  by_cases h0 : k = 0
  · rw [if_pos h0]; exact .inl ⟨k, n, t, rfl, h, rfl, .inl h0⟩
  rw [if_neg h0]
  by_cases hd1 : d = 1
  · rw [if_pos hd1]
    exact .inl ⟨1, 0, _, rfl, .inr (.inl ⟨rfl, rfl, text_len h (by omega)⟩), z1 1 (by omega) h0, .inr hd1.symm⟩
  rw [if_neg hd1]
  by_cases hk1 : k = 1
  · rw [if_pos hk1]
    by_cases he : (parseR t.data.toList).2.2.2 = 0
    · obtain ⟨k', n', t', hp, hv, _⟩ := parseR_ok he
      rw [hp]
      simp only
      by_cases hm : k' = d
      · rw [if_pos trivial, if_pos hm]
        exact .inl ⟨k', n', bs t', rfl, hv, z1 k' (by omega) h0, .inr hm⟩
      · rw [if_pos trivial, if_neg hm]; exact .inr ⟨15, by omega, by omega, rfl⟩
    · rw [if_neg he]; exact .inr ⟨15, by omega, by omega, rfl⟩
  rw [if_neg hk1]
  by_cases hk4 : k = 4
  · rw [if_pos hk4]; exact .inr ⟨10, by omega, by omega, rfl⟩
  rw [if_neg hk4]
  by_cases hd5 : d = 4
  · rw [if_pos hd5]; exact .inr ⟨10, by omega, by omega, rfl⟩
  rw [if_neg hd5]
  by_cases h' : ValidP d n t.data.toList
  · rw [if_pos h']; exact .inl ⟨d, n, t, rfl, h', z1 d hd h0, .inr rfl⟩
  · rw [if_neg h']; exact .inr ⟨15, by omega, by omega, rfl⟩
theorem cast_bad1 {k n : Int} {t : ByteArray} {d : Int} (h : ¬ ValidP k n t.data.toList) : castR k n t d = (0, 0, bs [], 1) := by unfold castR; rw [if_pos h]
theorem cast_bad2 {k n : Int} {t : ByteArray} {d : Int} (h : ValidP k n t.data.toList) (hd : d < 1) : castR k n t d = (0, 0, bs [], 1) := by unfold castR; rw [if_neg (fun h2 => h2 h), if_pos hd]
theorem cast_bad3 {k n : Int} {t : ByteArray} {d : Int} (h : ValidP k n t.data.toList) (hd : 1 ≤ d) (hd4 : 4 < d) : castR k n t d = (0, 0, bs [], 1) := by unfold castR; rw [if_neg (fun h2 => h2 h), if_neg (by omega), if_pos hd4]
theorem cast_text {k n : Int} {t : ByteArray} (h : ValidP k n t.data.toList) (h0 : k ≠ 0) (h1 : k ≠ 1) : castR k n t 1 = (1, 0, bs (textL k n t.data.toList), 0) := by
  unfold castR
  rw [if_neg (fun h2 => h2 h), if_neg (by omega), if_neg (by omega), if_neg h1, if_neg h0, if_pos rfl]
theorem cast_back {k n : Int} {t : ByteArray} (h : ValidP k n t.data.toList) (h0 : k ≠ 0) (h1 : k ≠ 1) : castR 1 0 (bs (textL k n t.data.toList)) k = (k, n, t, 0) := by
  have hv : ValidP 1 0 (bs (textL k n t.data.toList)).data.toList := .inr (.inl ⟨rfl, rfl, text_len h h1⟩)
  have hk : 1 ≤ k ∧ k ≤ 4 := by unfold ValidP at h; omega
  have hp : parseR (bs (textL k n t.data.toList)).data.toList = (k, n, t, 0) := parseR_text h
  unfold castR
  rw [if_neg (fun h2 => h2 hv), if_neg (by omega), if_neg (by omega), if_neg (fun e => h1 e.symm), if_neg (by omega), if_neg h1, if_pos rfl, hp, if_pos rfl, if_pos rfl]
theorem cast_day {n : Int} {t : ByteArray} (h : ValidP 3 n t.data.toList) : castR 3 n t 2 = (2, n, t, 0) ∧ castR 2 n t 3 = (3, n, t, 0) := by
  have hv : ValidP 2 n t.data.toList := by unfold ValidP at h ⊢; simp at h ⊢; exact ⟨by omega, by omega, h.2.2⟩
  constructor
  · unfold castR
    rw [if_neg (fun h2 => h2 h), if_neg (by omega), if_neg (by omega), if_neg (by omega), if_neg (by omega), if_neg (by omega), if_neg (by omega), if_neg (by omega), if_neg (by omega), if_pos hv]
  · unfold castR
    rw [if_neg (fun h2 => h2 hv), if_neg (by omega), if_neg (by omega), if_neg (by omega), if_neg (by omega), if_neg (by omega), if_neg (by omega), if_neg (by omega), if_neg (by omega), if_pos h]
end Go.Proofs.YthgppbpmcjkadaaGreatDoor.X
set_option linter.unusedVariables false
set_option linter.unusedSimpArgs false
namespace Go.Proofs.YthgppbpmcjkadaaGreatDoor.X
open Go.RowKit Go.Proofs.YthgppbpmcjkadaaGreatDoorW.PrintWords
theorem refSign_f (x y : Int) : Px.cleanseref02_sign.f x y = some (ordI x y) := by
  unfold Px.cleanseref02_sign.f ordI
  by_cases h : x < y
  · rw [if_pos h, if_pos h]
  · rw [if_neg h, if_neg h]
    by_cases h2 : y < x
    · rw [if_pos h2, if_pos h2]
    · rw [if_neg h2, if_neg h2]
theorem refCompare_f (k n : Int) (t : ByteArray) (k' n' : Int) (t' : ByteArray) : Px.cleanseref02_Compare.f k n t k' n' t' = some (cmpZ k n t.data.toList k' n' t'.data.toList) := by
  unfold Px.cleanseref02_Compare.f cmpZ
  by_cases h : k = k'
  · rw [if_pos h, if_pos ((ord_int.zero _ _).2 h)]
    by_cases h2 : n = n'
    · rw [if_pos h2, if_pos ((ord_int.zero _ _).2 h2)]
      unfold ordT
      rw [ByteArray.toList_eq, ByteArray.toList_eq]
      by_cases h3 : Op.bytesLess t.data.toList t'.data.toList = true
      · rw [if_pos h3, if_pos h3]
      · rw [if_neg h3, if_neg h3]
        by_cases h4 : Op.bytesLess t'.data.toList t.data.toList = true
        · rw [if_pos h4, if_pos h4]
        · rw [if_neg h4, if_neg h4]
    · rw [if_neg h2, if_neg (fun e => h2 ((ord_int.zero _ _).1 e)), refSign_f]; rfl
  · rw [if_neg h, if_neg (fun e => h ((ord_int.zero _ _).1 e)), refSign_f]; rfl
theorem row1 {W : World} {C : Nat} {a b : Int} {c : ByteArray} (h : W.heap[C]? = some (.cells #[.int .i64 a, .int .i64 b, .string c] 23 (0, 0))) : Kd.C Px.k23 W (some ⟨C, 0, none⟩) 1 [⟨a, b, c⟩] := by
  refine ⟨rfl, by decide, fun _ => ⟨_, rfl, fun j s hj => ?_⟩⟩
  have e : ∀ o, (⟨C, 0, none⟩ : Addr).add o = ⟨C, o, none⟩ := fun o => by unfold Addr.add; split <;> simp_all
  match j, hj with
  | 0, hj =>
    obtain rfl := Option.some.inj hj
    refine ⟨_, rfl, Px.k23_mk W _, fun i u hi => ?_⟩
    rw [e]
    match i, hi with
    | 0, hi => obtain rfl := Option.some.inj hi; simp [World.cell?, h, show Px.k23.sz = 3 from rfl]
    | 1, hi => obtain rfl := Option.some.inj hi; simp [World.cell?, h, show Px.k23.sz = 3 from rfl]
    | 2, hi => obtain rfl := Option.some.inj hi; simp [World.cell?, h, show Px.k23.sz = 3 from rfl]
    | i + 3, hi => simp at hi
  | j + 1, hj => simp at hj
theorem row2 {W : World} {C : Nat} {a b : Int} {c : ByteArray} {a' b' : Int} {c' : ByteArray} (h : W.heap[C]? = some (.cells #[.int .i64 a, .int .i64 b, .string c, .int .i64 a', .int .i64 b', .string c'] 23 (0, 0))) : Kd.C Px.k23 W (some ⟨C, 0, none⟩) 2 [⟨a, b, c⟩, ⟨a', b', c'⟩] := by
  refine ⟨rfl, by decide, fun _ => ⟨_, rfl, fun j s hj => ?_⟩⟩
  have e : ∀ o, (⟨C, 0, none⟩ : Addr).add o = ⟨C, o, none⟩ := fun o => by unfold Addr.add; split <;> simp_all
  match j, hj with
  | 0, hj =>
    obtain rfl := Option.some.inj hj
    refine ⟨_, rfl, Px.k23_mk W _, fun i u hi => ?_⟩
    rw [e]
    match i, hi with
    | 0, hi => obtain rfl := Option.some.inj hi; simp [World.cell?, h, show Px.k23.sz = 3 from rfl]
    | 1, hi => obtain rfl := Option.some.inj hi; simp [World.cell?, h, show Px.k23.sz = 3 from rfl]
    | 2, hi => obtain rfl := Option.some.inj hi; simp [World.cell?, h, show Px.k23.sz = 3 from rfl]
    | i + 3, hi => simp at hi
  | 1, hj =>
    obtain rfl := Option.some.inj hj
    refine ⟨_, rfl, Px.k23_mk W _, fun i u hi => ?_⟩
    rw [e]
    match i, hi with
    | 0, hi => obtain rfl := Option.some.inj hi; simp [World.cell?, h, show Px.k23.sz = 3 from rfl]
    | 1, hi => obtain rfl := Option.some.inj hi; simp [World.cell?, h, show Px.k23.sz = 3 from rfl]
    | 2, hi => obtain rfl := Option.some.inj hi; simp [World.cell?, h, show Px.k23.sz = 3 from rfl]
    | i + 3, hi => simp at hi
  | j + 2, hj => simp at hj
theorem test_no {k n : Int} {t : List UInt8} {op k' n' : Int} {t' : List UInt8} {add : Int} (h : ¬ (ValidP k n t ∧ ValidP k' n' t' ∧ k = k' ∧ k ≠ 0 ∧ 1 ≤ op ∧ op ≤ 4)) : testZ k n t op k' n' t' add = false := by
  unfold testZ
  by_cases h1 : ValidP k n t ∧ ValidP k' n' t' ∧ k = k'
  · rw [if_pos h1]
    by_cases h0 : k = 0
    · rw [if_neg (by omega), if_neg (by omega)]
    · have hh : ¬ (1 ≤ op ∧ op ≤ 4) := fun hh => h ⟨h1.1, h1.2.1, h1.2.2, h0, hh⟩
      have ho : ∀ x, opB op x = false := fun x => by
        unfold opB
        rw [if_neg (by omega), if_neg (by omega), if_neg (by omega), if_neg (by omega)]
      rw [ho, ho]; simp
  · rw [if_neg h1]
theorem test_add {k n : Int} {t : List UInt8} {op k' n' : Int} {t' : List UInt8} {add : Int} (ha : add ≠ 0) (hk : k = 1 ∨ k = 4) : testZ k n t op k' n' t' add = false := by
  unfold testZ
  by_cases h1 : ValidP k n t ∧ ValidP k' n' t' ∧ k = k'
  · rw [if_pos h1, if_neg (by omega), if_pos hk, if_neg ha]
  · rw [if_neg h1]
theorem test_nil_r (k n : Int) (t : List UInt8) (op add : Int) : testZ k n t op 0 0 [] add = false := test_no (by omega)
theorem test_nil_l (op k' n' : Int) (t' : List UInt8) (add : Int) : testZ 0 0 [] op k' n' t' add = false := test_no (by omega)
theorem refR_eq (l : List UInt8) : refR l = parseR l := by
  unfold refR parseR
  rw [ref_eq]
  cases parseZ l with
  | none => rfl
  | some x => rfl
theorem refTest_j2 (j : Nat) (op c : Int) : Px.cleanseref02_Test.j2 (j + 1) op c = some (opB op c) := by
  unfold Px.cleanseref02_Test.j2 opB
  dsimp only
  by_cases h1 : op = 1
  · rw [if_pos h1, if_pos h1]
  rw [if_neg h1, if_neg h1]
  by_cases h2 : op = 2
  · rw [if_pos h2, if_pos h2]
  rw [if_neg h2, if_neg h2]
  by_cases h3 : op = 3
  · rw [if_pos h3, if_pos h3]
  rw [if_neg h3, if_neg h3]
  by_cases h4 : op = 4
  · rw [if_pos h4, if_pos h4]
  rw [if_neg h4, if_neg h4]
theorem refTest_0 (j : Nat) (op add : Int) (k n : Int) (t : ByteArray) (k' n' : Int) (t' : ByteArray) : Px.cleanseref02_Test.j0 (j + 1) op add true k n t k' n' t' = some false := by
  unfold Px.cleanseref02_Test.j0
  dsimp only
  rw [if_pos rfl]
theorem refTest_1 (j : Nat) (op add : Int) (k n : Int) (t : ByteArray) (k' n' : Int) (t' : ByteArray) (h : -9223372036854775808 ≤ n - n' ∧ n - n' ≤ 9223372036854775807) : Px.cleanseref02_Test.j1 (j + 2) op add false k n t k' n' t' = some (opB op (if k = 1 then cmpZ k n t.data.toList k' n' t'.data.toList else ordI (n - n') add)) := by
  unfold Px.cleanseref02_Test.j1
  dsimp only
  rw [if_neg (by decide), show wrap64 (n - n') = n - n' by unfold wrap64; omega, refSign_f, Option.bind_some]
  by_cases h1 : k = 1
  · rw [if_pos h1, if_pos h1, refCompare_f, Option.bind_some, refTest_j2]
  · rw [if_neg h1, if_neg h1, refTest_j2]
theorem refTest_f (j : Nat) (k n : Int) (t : ByteArray) (op k' n' : Int) (t' : ByteArray) (add : Int) : Px.cleanseref02_Test.f (j + 3) k n t op k' n' t' add = some (testZ k n t.data.toList op k' n' t'.data.toList add) := by
  unfold Px.cleanseref02_Test.f
  rw [ref_valid, Option.bind_some]
  by_cases ha : ValidP k n t.data.toList
  case neg => rw [not_valid ha, if_neg (by decide), refTest_0, test_no (fun h => ha h.1)]
  rw [valid_iff.2 ha, if_pos rfl, ref_valid, Option.bind_some]
  by_cases hb : ValidP k' n' t'.data.toList
  case neg => rw [not_valid hb, if_neg (by decide), refTest_0, test_no (fun h => hb h.2.1)]
  rw [valid_iff.2 hb, if_pos rfl]
  by_cases hk : k = k'
  case neg => rw [if_neg hk, refTest_0, test_no (fun h => hk h.2.2.1)]
  rw [if_pos hk]
  by_cases h0 : k = 0
  · rw [eqs h0, refTest_0, test_no (fun h => h.2.2.2.1 h0)]
  rw [nes h0]
  have hr : (-9223372036854775808 ≤ n - n' ∧ n - n' ≤ 9223372036854775807) := by
    unfold ValidP at ha hb; omega
  unfold Px.cleanseref02_Test.j0 testZ
  dsimp only
  have hv : ValidP k n t.data.toList ∧ ValidP k' n' t'.data.toList ∧ k = k' := ⟨ha, hb, hk⟩
  rw [if_neg (by decide), if_pos hv]
  by_cases h23 : k = 2 ∨ k = 3
  · rw [if_pos h23]
    have e : Px.cleanseref02_Test.j1 (j + 2) op add false k n t k' n' t' = some (opB op (ordI (n - n') add)) := by rw [refTest_1 j op add k n t k' n' t' hr, if_neg (by omega)]
    by_cases hz : add = 0
    · rw [if_pos hz, e]
    rw [if_neg hz]
    by_cases h2 : k = 2
    · rw [if_pos h2, e]
    · rw [if_neg h2, show (k != 3) = false from bne_eq_false_iff_eq.2 (by omega), e]
  rw [if_neg h23]
  have h14 : k = 1 ∨ k = 4 := by unfold ValidP at ha; omega
  rw [if_pos h14]
  by_cases hz : add = 0
  · rw [if_pos hz, if_pos hz, refTest_1 j op add k n t k' n' t' hr]
    by_cases h1 : k = 1
    · rw [if_pos h1]
    · rw [if_neg h1]
      have ht : t.data.toList = [] := by unfold ValidP at ha; rcases ha with h | h | h | h | h <;> first | exact h.2.2.2 | exact h.2.2 | (exfalso; omega)
      have ht' : t'.data.toList = [] := by unfold ValidP at hb; rcases hb with h | h | h | h | h <;> first | exact h.2.2.2 | exact h.2.2 | (exfalso; omega)
      rw [ht, ht', hz]
      have e : ordI (n - n') 0 = cmpZ k n [] k' n' [] := by
        unfold cmpZ
        rw [show ordI k k' = 0 by unfold ordI; rw [if_neg (by omega), if_neg (by omega)], if_pos rfl]
        rw [show ordT [] [] = 0 by decide]
        unfold ordI
        (repeat' split) <;> first | rfl | (exfalso; omega)
      rw [e]
  · rw [if_neg hz, if_neg hz, if_neg (by omega), show (k != 3) = true from bne_iff_ne.2 (by omega)]
    unfold Px.cleanseref02_Test.j1
    dsimp only
    rw [if_pos rfl]
theorem refCast_0 (j : Nat) (d k n : Int) (t : ByteArray) : Px.cleanseref02_Cast.j0 (j + 1) d true k n t = some (0, 0, bs [], 1) := by
  unfold Px.cleanseref02_Cast.j0
  dsimp only
  rw [if_pos rfl]; rfl
theorem refCast_1 (j : Nat) (d k n : Int) (t : ByteArray) : Px.cleanseref02_Cast.j1 (j + 1) d true k n t = some (k, n, t, 0) := by
  unfold Px.cleanseref02_Cast.j1
  dsimp only
  rw [if_pos rfl]
theorem refCast_2 (j : Nat) (d k n : Int) (t : ByteArray) : Px.cleanseref02_Cast.j2 (j + 1) d true k n t = some (0, 0, bs [], 10) := by
  unfold Px.cleanseref02_Cast.j2
  dsimp only
  rw [if_pos rfl]; rfl
theorem refCast_f (j : Nat) (k n : Int) (t : ByteArray) (d : Int) : Px.cleanseref02_Cast.f (j + 303) k n t d = some (castR k n t d) := by
  unfold Px.cleanseref02_Cast.f
  rw [ref_valid, Option.bind_some]
  by_cases ha : ValidP k n t.data.toList
  case neg => rw [not_valid ha, if_neg (by decide), refCast_0, cast_bad1 ha]
  rw [valid_iff.2 ha, if_pos rfl]
  by_cases hd : d < 1
  · rw [if_pos hd, refCast_0, cast_bad2 ha hd]
  rw [if_neg hd]
  by_cases hd4 : 4 < d
  · rw [show decide (d > 4) = true from decide_eq_true hd4, refCast_0, cast_bad3 ha (by omega) hd4]
  rw [show decide (d > 4) = false from decide_eq_false hd4]
  unfold Px.cleanseref02_Cast.j0 castR
  dsimp only
  rw [if_neg (by decide), if_neg (show ¬ ¬ ValidP k n t.data.toList from fun h2 => h2 ha), if_neg hd, if_neg hd4]
  by_cases h0 : k = 0
  · rw [if_pos h0, refCast_1]
    by_cases hkd : k = d
    · rw [if_pos hkd]
    · rw [if_neg hkd, if_pos h0]
  rw [if_neg h0]
  by_cases hkd : k = d
  · rw [eqs hkd, refCast_1, if_pos hkd]
  rw [nes hkd, if_neg hkd, if_neg h0]
  unfold Px.cleanseref02_Cast.j1
  dsimp only
  rw [if_neg (by decide)]
  by_cases hd1 : d = 1
  · rw [if_pos hd1, if_pos hd1, refText_spec _ _ _ _ (by omega), Option.bind_some]
  rw [if_neg hd1, if_neg hd1]
  by_cases hk1 : k = 1
  · have hs : t.size ≤ 1000000 := by
      rw [← len_list]
      unfold ValidP at ha; omega
    rw [if_pos hk1, if_pos hk1]
    unfold cleanseref02_Parse.f
    rw [if_pos hs, Option.bind_some, refR_eq]
    by_cases he : (parseR t.data.toList).2.2.2 = 0
    · rw [if_pos he, if_pos he]
      by_cases hm : (parseR t.data.toList).1 = d
      · rw [if_pos hm, if_pos hm]
        rw [← he]
      · rw [if_neg hm, if_neg hm]; rfl
    · rw [if_neg he, if_neg he]; rfl
  rw [if_neg hk1, if_neg hk1]
  by_cases hk4 : k = 4
  · rw [if_pos hk4, if_pos hk4, refCast_2]
  rw [if_neg hk4, if_neg hk4]
  by_cases hd5 : d = 4
  · rw [eqs hd5, refCast_2, if_pos hd5]
  rw [nes hd5, if_neg hd5]
  unfold Px.cleanseref02_Cast.j2
  dsimp only
  rw [if_neg (by decide), ref_valid, Option.bind_some]
  have ht : t.data.toList = [] := by unfold ValidP at ha; rcases ha with h | h | h | h | h <;> first | exact h.2.2.2 | exact h.2.2 | (exfalso; omega)
  have et : t = ⟨#[]⟩ := by rw [← bs_of t, ht]; rfl
  subst et
  by_cases hv : ValidP d n (⟨#[]⟩ : ByteArray).data.toList
  · rw [valid_iff.2 hv, if_pos rfl, if_pos hv]
  · rw [not_valid hv, if_neg (by decide), if_neg hv]; rfl
end Go.Proofs.YthgppbpmcjkadaaGreatDoor.X
set_option linter.unusedVariables false
set_option linter.unusedSimpArgs false
namespace Go.Proofs.YthgppbpmcjkadaaGreatDoor.X
open Go.RowKit Go.Proofs.YthgppbpmcjkadaaGreatDoorW.PrintWords Go.Proofs.YthgppbpmcjkadaaGreatDoorW.PrintLast Go.Proofs.YthgppbpmcjkadaaGreatDoorW.PrintMore
attribute [local go_sem high] Px.eqA23

def MSQ (w W : World) (k n : Int) (t : ByteArray) (k' n' : Int) (t' : ByteArray) : Prop := Below w.heap.size w W ∧ W.heap[w.heap.size]? = some (.cells #[.int .i64 k, .int .i64 n, .string t] 23 (0, 0)) ∧ W.heap[w.heap.size + 1]? = some (.cells #[.int .i64 k', .int .i64 n', .string t'] 23 (0, 0))
theorem ms_all {w W : World} {k n : Int} {t : ByteArray} {k' n' : Int} {t' : ByteArray} (h : MSQ w W k n t k' n' t') : W.cell? ⟨w.heap.size, 0, none⟩ = some (.int .i64 k) ∧ W.cell? ⟨w.heap.size, 1, none⟩ = some (.int .i64 n) ∧ W.cell? ⟨w.heap.size, 2, none⟩ = some (.string t) ∧ W.cell? ⟨w.heap.size + 1, 0, none⟩ = some (.int .i64 k') ∧ W.cell? ⟨w.heap.size + 1, 1, none⟩ = some (.int .i64 n') ∧ W.cell? ⟨w.heap.size + 1, 2, none⟩ = some (.string t') ∧ MSQ w W k n t k' n' t' := by
  have h1 := (h_cells h.2.1).1
  have h2 := (h_cells h.2.2).1
  exact ⟨h1.1, h1.2.1, h1.2.2, h2.1, h2.2.1, h2.2.2, h⟩
theorem ms_step {w W W' : World} {k n : Int} {t : ByteArray} {k' n' : Int} {t' : ByteArray} (h : W.cell? ⟨w.heap.size, 0, none⟩ = some (.int .i64 k) ∧ W.cell? ⟨w.heap.size, 1, none⟩ = some (.int .i64 n) ∧ W.cell? ⟨w.heap.size, 2, none⟩ = some (.string t) ∧ W.cell? ⟨w.heap.size + 1, 0, none⟩ = some (.int .i64 k') ∧ W.cell? ⟨w.heap.size + 1, 1, none⟩ = some (.int .i64 n') ∧ W.cell? ⟨w.heap.size + 1, 2, none⟩ = some (.string t') ∧ MSQ w W k n t k' n' t') (hb : Below W.heap.size W W') : W'.cell? ⟨w.heap.size, 0, none⟩ = some (.int .i64 k) ∧ W'.cell? ⟨w.heap.size, 1, none⟩ = some (.int .i64 n) ∧ W'.cell? ⟨w.heap.size, 2, none⟩ = some (.string t) ∧ W'.cell? ⟨w.heap.size + 1, 0, none⟩ = some (.int .i64 k') ∧ W'.cell? ⟨w.heap.size + 1, 1, none⟩ = some (.int .i64 n') ∧ W'.cell? ⟨w.heap.size + 1, 2, none⟩ = some (.string t') ∧ MSQ w W' k n t k' n' t' := by
  have hs := h.2.2.2.2.2.2
  exact ms_all ⟨hs.1.trans (hb.mono hs.1.size), keep1 hb hs.2.1, keep1 hb hs.2.2⟩
theorem ms_gt {w W : World} {k n : Int} {t : ByteArray} {k' n' : Int} {t' : ByteArray} (hG : GT w) (h : W.cell? ⟨w.heap.size, 0, none⟩ = some (.int .i64 k) ∧ W.cell? ⟨w.heap.size, 1, none⟩ = some (.int .i64 n) ∧ W.cell? ⟨w.heap.size, 2, none⟩ = some (.string t) ∧ W.cell? ⟨w.heap.size + 1, 0, none⟩ = some (.int .i64 k') ∧ W.cell? ⟨w.heap.size + 1, 1, none⟩ = some (.int .i64 n') ∧ W.cell? ⟨w.heap.size + 1, 2, none⟩ = some (.string t') ∧ MSQ w W k n t k' n' t') : GT W := GT.below hG h.2.2.2.2.2.2.1

set_option maxRecDepth 100000 in
set_option maxHeartbeats 4000000 in
theorem match_s (k n : Int) (t : ByteArray) (k' n' : Int) (t' : ByteArray) (op add d : Int) (u : ByteArray) (w : World) (hG : GT w) (hs : shortB [⟨k, n, t⟩, ⟨k', n', t'⟩] = false)  :
    Calls Tryz.prog 3 #[.agg #[.int .i64 k, .int .i64 n, .string t], .agg #[.int .i64 k', .int .i64 n', .string t'], .int .i64 op, .int .i64 add, .int .i64 d, .string u] w fun e w' => HeadPost w e w' := by
  have HG := Lib.hid hG
  clear hG
  have HSH := Lib.hid ((short_f [⟨k, n, t⟩, ⟨k', n', t'⟩] (by simp) 10 (by simp)).trans (congrArg some hs))
  clear hs
  go_enter Tryz.func3, Tryz.ntmps3
  go_wp2_with fail
  have KA := heap_new w (.cells #[.int .i64 k, .int .i64 n, .string t] 23)
  have KB := heap_new (w.alloc (.cells #[.int .i64 k, .int .i64 n, .string t] 23)) (.cells #[.int .i64 k', .int .i64 n', .string t'] 23)
  rw [show (w.alloc (.cells #[.int .i64 k, .int .i64 n, .string t] 23)).heap.size = w.heap.size + 1 by simp] at KB
  have KA := keepA (o' := .cells #[.int .i64 k', .int .i64 n', .string t'] 23) KA
  have K_ := Lib.hid KA
  clear KA
  have KA := K_
  clear K_
  have K_ := Lib.hid KB
  clear KB
  have KB := K_
  clear K_
  have HB0 := Lib.hid (((Below.refl w.heap.size w).alloc (Nat.le_refl _) (.cells #[.int .i64 k, .int .i64 n, .string t] 23)).alloc (by simp) (.cells #[.int .i64 k', .int .i64 n', .string t'] 23))
  refine (cleanselaw02_head.calls true _ (GT.below HG.out HB0.out) rfl).mono ?_
  rintro e w1 ⟨rfl, hb⟩
  have K_ := Lib.hid (keep1 hb KA.out)
  clear KA
  have KA := K_
  clear K_
  have K_ := Lib.hid (keep1 hb KB.out)
  clear KB
  have KB := K_
  clear K_
  have HB1 := Lib.hid (HB0.out.trans (hb.mono HB0.out.size))
  clear hb
  obtain ⟨⟨cA0, cA1, cA2⟩, _⟩ := h_cells KA.out
  obtain ⟨⟨cB0, cB1, cB2⟩, _⟩ := h_cells KB.out
  go_wp2_with fail
  clear cA0 cA1 cA2 cB0 cB1 cB2
  have K_ := Lib.hid (keepA (o' := .cells #[.int .i64 k, .int .i64 n, .string t, .int .i64 k', .int .i64 n', .string t'] 23) KA.out)
  clear KA
  have KA := K_
  clear K_
  have K_ := Lib.hid (keepA (o' := .cells #[.int .i64 k, .int .i64 n, .string t, .int .i64 k', .int .i64 n', .string t'] 23) KB.out)
  clear KB
  have KB := K_
  clear K_
  have HB1s := Lib.hid (HB1.out.alloc HB1.out.size (.cells #[.int .i64 k, .int .i64 n, .string t, .int .i64 k', .int .i64 n', .string t'] 23))
  refine (Px.cleanselaw02_short.calls 10 _ 2 [⟨k, n, t⟩, ⟨k', n', t'⟩] false _ (row2 (heap_new w1 _)) (Nat.le_refl _) HSH.out).mono ?_
  rintro e w2 ⟨rfl, hd⟩
  have hb := hd.below
  clear hd
  have K_ := Lib.hid (keep1 hb KA.out)
  clear KA
  have KA := K_
  clear K_
  have K_ := Lib.hid (keep1 hb KB.out)
  clear KB
  have KB := K_
  clear K_
  have HB2 := Lib.hid (HB1s.out.trans (hb.mono HB1s.out.size))
  clear hb
  obtain ⟨⟨cA0, cA1, cA2⟩, _⟩ := h_cells KA.out
  obtain ⟨⟨cB0, cB1, cB2⟩, _⟩ := h_cells KB.out
  go_wp2_with fail
  go_ret
  exact ⟨rfl, HB2.out⟩

set_option maxRecDepth 100000 in
set_option maxHeartbeats 4000000 in
theorem match_l (k n : Int) (t : ByteArray) (k' n' : Int) (t' : ByteArray) (op add d : Int) (u : ByteArray) (w : World) (hG : GT w) (hs : shortB [⟨k, n, t⟩, ⟨k', n', t'⟩] = true) (hu : ¬ u.size ≤ 500) :
    Calls Tryz.prog 3 #[.agg #[.int .i64 k, .int .i64 n, .string t], .agg #[.int .i64 k', .int .i64 n', .string t'], .int .i64 op, .int .i64 add, .int .i64 d, .string u] w fun e w' => HeadPost w e w' := by
  have HG := Lib.hid hG
  clear hG
  have HSH := Lib.hid ((short_f [⟨k, n, t⟩, ⟨k', n', t'⟩] (by simp) 10 (by simp)).trans (congrArg some hs))
  clear hs
  have q0 : decide (500 < (u.size : Int)) = true := decide_eq_true (by omega)
  clear hu
  go_enter Tryz.func3, Tryz.ntmps3
  go_wp2_with fail
  have KA := heap_new w (.cells #[.int .i64 k, .int .i64 n, .string t] 23)
  have KB := heap_new (w.alloc (.cells #[.int .i64 k, .int .i64 n, .string t] 23)) (.cells #[.int .i64 k', .int .i64 n', .string t'] 23)
  rw [show (w.alloc (.cells #[.int .i64 k, .int .i64 n, .string t] 23)).heap.size = w.heap.size + 1 by simp] at KB
  have KA := keepA (o' := .cells #[.int .i64 k', .int .i64 n', .string t'] 23) KA
  have K_ := Lib.hid KA
  clear KA
  have KA := K_
  clear K_
  have K_ := Lib.hid KB
  clear KB
  have KB := K_
  clear K_
  have HB0 := Lib.hid (((Below.refl w.heap.size w).alloc (Nat.le_refl _) (.cells #[.int .i64 k, .int .i64 n, .string t] 23)).alloc (by simp) (.cells #[.int .i64 k', .int .i64 n', .string t'] 23))
  refine (cleanselaw02_head.calls true _ (GT.below HG.out HB0.out) rfl).mono ?_
  rintro e w1 ⟨rfl, hb⟩
  have K_ := Lib.hid (keep1 hb KA.out)
  clear KA
  have KA := K_
  clear K_
  have K_ := Lib.hid (keep1 hb KB.out)
  clear KB
  have KB := K_
  clear K_
  have HB1 := Lib.hid (HB0.out.trans (hb.mono HB0.out.size))
  clear hb
  obtain ⟨⟨cA0, cA1, cA2⟩, _⟩ := h_cells KA.out
  obtain ⟨⟨cB0, cB1, cB2⟩, _⟩ := h_cells KB.out
  go_wp2_with fail
  clear cA0 cA1 cA2 cB0 cB1 cB2
  have K_ := Lib.hid (keepA (o' := .cells #[.int .i64 k, .int .i64 n, .string t, .int .i64 k', .int .i64 n', .string t'] 23) KA.out)
  clear KA
  have KA := K_
  clear K_
  have K_ := Lib.hid (keepA (o' := .cells #[.int .i64 k, .int .i64 n, .string t, .int .i64 k', .int .i64 n', .string t'] 23) KB.out)
  clear KB
  have KB := K_
  clear K_
  have HB1s := Lib.hid (HB1.out.alloc HB1.out.size (.cells #[.int .i64 k, .int .i64 n, .string t, .int .i64 k', .int .i64 n', .string t'] 23))
  refine (Px.cleanselaw02_short.calls 10 _ 2 [⟨k, n, t⟩, ⟨k', n', t'⟩] true _ (row2 (heap_new w1 _)) (Nat.le_refl _) HSH.out).mono ?_
  rintro e w2 ⟨rfl, hd⟩
  have hb := hd.below
  clear hd
  have K_ := Lib.hid (keep1 hb KA.out)
  clear KA
  have KA := K_
  clear K_
  have K_ := Lib.hid (keep1 hb KB.out)
  clear KB
  have KB := K_
  clear K_
  have HB2 := Lib.hid (HB1s.out.trans (hb.mono HB1s.out.size))
  clear hb
  obtain ⟨⟨cA0, cA1, cA2⟩, _⟩ := h_cells KA.out
  obtain ⟨⟨cB0, cB1, cB2⟩, _⟩ := h_cells KB.out
  go_wp2_with fail
  go_ret
  exact ⟨rfl, HB2.out⟩

set_option maxRecDepth 100000 in
set_option maxHeartbeats 4000000 in
theorem match_d (k n : Int) (t : ByteArray) (k' n' : Int) (t' : ByteArray) (op add d : Int) (u : ByteArray) (w : World) (hG : GT w) (hs : shortB [⟨k, n, t⟩, ⟨k', n', t'⟩] = true) (hu : u.size ≤ 500) (p1 p2 : Int) (p3 : ByteArray) (p4 : Int) (c1 c2 : Int) (c3 : ByteArray) (c4 : Int) (v : Bool) (c : Int) (s : ByteArray) (z : Bool) (hp_ : value_Parse.f u = some (p1, p2, p3, p4)) (hq_ : cleanseref02_Parse.f u = some (p1, p2, p3, p4)) (hc_ : value_Cast.f k n t d = some (c1, c2, c3, c4)) (hd_ : Px.cleanseref02_Cast.f 303 k n t d = some (c1, c2, c3, c4)) (hva_ : Px.value_Valid.f 1 k n t = some v) (hvr_ : Px.cleanseref02_Valid.f k n t = some v) (hca_ : Px.value_Compare.f k n t k' n' t' = some c) (hcr_ : Px.cleanseref02_Compare.f k n t k' n' t' = some c) (hta_ : value_Text.f k n t = some s) (htr_ : Px.cleanseref02_Text.f 300 k n t = some s) (hza_ : value_Test.f k n t op k' n' t' add = some z) (hzr_ : Px.cleanseref02_Test.f 3 k n t op k' n' t' add = some z) :
    Calls Tryz.prog 3 #[.agg #[.int .i64 k, .int .i64 n, .string t], .agg #[.int .i64 k', .int .i64 n', .string t'], .int .i64 op, .int .i64 add, .int .i64 d, .string u] w fun e w' => HeadPost w e w' := by
  have HG := Lib.hid hG
  clear hG
  have HSH := Lib.hid ((short_f [⟨k, n, t⟩, ⟨k', n', t'⟩] (by simp) 10 (by simp)).trans (congrArg some hs))
  clear hs
  have q0 : decide (500 < (u.size : Int)) = false := decide_eq_false (by omega)
  clear hu
  have HP := Lib.hid hp_
  have HQ := Lib.hid hq_
  have HC := Lib.hid hc_
  have HD := Lib.hid hd_
  have HVA := Lib.hid hva_
  have HVR := Lib.hid hvr_
  have HCA := Lib.hid hca_
  have HCR := Lib.hid hcr_
  have HTA := Lib.hid hta_
  have HTR := Lib.hid htr_
  have HZA := Lib.hid hza_
  have HZR := Lib.hid hzr_
  clear hp_ hq_ hc_ hd_ hva_ hvr_ hca_ hcr_ hta_ htr_ hza_ hzr_
  go_enter Tryz.func3, Tryz.ntmps3
  go_wp2_with fail
  have KA := heap_new w (.cells #[.int .i64 k, .int .i64 n, .string t] 23)
  have KB := heap_new (w.alloc (.cells #[.int .i64 k, .int .i64 n, .string t] 23)) (.cells #[.int .i64 k', .int .i64 n', .string t'] 23)
  rw [show (w.alloc (.cells #[.int .i64 k, .int .i64 n, .string t] 23)).heap.size = w.heap.size + 1 by simp] at KB
  have KA := keepA (o' := .cells #[.int .i64 k', .int .i64 n', .string t'] 23) KA
  have K_ := Lib.hid KA
  clear KA
  have KA := K_
  clear K_
  have K_ := Lib.hid KB
  clear KB
  have KB := K_
  clear K_
  have HB0 := Lib.hid (((Below.refl w.heap.size w).alloc (Nat.le_refl _) (.cells #[.int .i64 k, .int .i64 n, .string t] 23)).alloc (by simp) (.cells #[.int .i64 k', .int .i64 n', .string t'] 23))
  refine (cleanselaw02_head.calls true _ (GT.below HG.out HB0.out) rfl).mono ?_
  rintro e w1 ⟨rfl, hb⟩
  have K_ := Lib.hid (keep1 hb KA.out)
  clear KA
  have KA := K_
  clear K_
  have K_ := Lib.hid (keep1 hb KB.out)
  clear KB
  have KB := K_
  clear K_
  have HB1 := Lib.hid (HB0.out.trans (hb.mono HB0.out.size))
  clear hb
  obtain ⟨⟨cA0, cA1, cA2⟩, _⟩ := h_cells KA.out
  obtain ⟨⟨cB0, cB1, cB2⟩, _⟩ := h_cells KB.out
  go_wp2_with fail
  clear cA0 cA1 cA2 cB0 cB1 cB2
  have K_ := Lib.hid (keepA (o' := .cells #[.int .i64 k, .int .i64 n, .string t, .int .i64 k', .int .i64 n', .string t'] 23) KA.out)
  clear KA
  have KA := K_
  clear K_
  have K_ := Lib.hid (keepA (o' := .cells #[.int .i64 k, .int .i64 n, .string t, .int .i64 k', .int .i64 n', .string t'] 23) KB.out)
  clear KB
  have KB := K_
  clear K_
  have HB1s := Lib.hid (HB1.out.alloc HB1.out.size (.cells #[.int .i64 k, .int .i64 n, .string t, .int .i64 k', .int .i64 n', .string t'] 23))
  refine (Px.cleanselaw02_short.calls 10 _ 2 [⟨k, n, t⟩, ⟨k', n', t'⟩] true _ (row2 (heap_new w1 _)) (Nat.le_refl _) HSH.out).mono ?_
  rintro e w2 ⟨rfl, hd⟩
  have hb := hd.below
  clear hd
  have K_ := Lib.hid (keep1 hb KA.out)
  clear KA
  have KA := K_
  clear K_
  have K_ := Lib.hid (keep1 hb KB.out)
  clear KB
  have KB := K_
  clear K_
  have HB2 := Lib.hid (HB1s.out.trans (hb.mono HB1s.out.size))
  clear hb
  obtain ⟨⟨cA0, cA1, cA2⟩, _⟩ := h_cells KA.out
  obtain ⟨⟨cB0, cB1, cB2⟩, _⟩ := h_cells KB.out
  go_wp2_with fail
  refine (value_Parse.calls u p1 p2 p3 p4 _ (GT.below HG.out HB2.out) HP.out).mono ?_
  rintro e w3 ⟨rfl, hb⟩
  clear cA0 cA1 cA2 cB0 cB1 cB2
  have K_ := Lib.hid (keep1 hb KA.out)
  clear KA
  have KA := K_
  clear K_
  have K_ := Lib.hid (keep1 hb KB.out)
  clear KB
  have KB := K_
  clear K_
  have HB3 := Lib.hid (HB2.out.trans (hb.mono HB2.out.size))
  clear hb
  have K_ := Lib.hid (keepA (o' := .cells #[.int .i64 p1, .int .i64 p2, .string p3] 23) KA.out)
  clear KA
  have KA := K_
  clear K_
  have K_ := Lib.hid (keepA (o' := .cells #[.int .i64 p1, .int .i64 p2, .string p3] 23) KB.out)
  clear KB
  have KB := K_
  clear K_
  have KP := Lib.hid (heap_new w3 (.cells #[.int .i64 p1, .int .i64 p2, .string p3] 23))
  have HB3a := Lib.hid (HB3.out.alloc HB3.out.size (.cells #[.int .i64 p1, .int .i64 p2, .string p3] 23))
  obtain ⟨⟨cA0, cA1, cA2⟩, _⟩ := h_cells KA.out
  obtain ⟨⟨cB0, cB1, cB2⟩, _⟩ := h_cells KB.out
  obtain ⟨⟨cP0, cP1, cP2⟩, _⟩ := h_cells KP.out
  go_wp2_with fail
  refine (cleanseref02_Parse.calls u p1 p2 p3 p4 _ HQ.out).mono ?_
  rintro e w4 ⟨rfl, hb⟩
  clear cA0 cA1 cA2 cB0 cB1 cB2 cP0 cP1 cP2
  have K_ := Lib.hid (keep1 hb KA.out)
  clear KA
  have KA := K_
  clear K_
  have K_ := Lib.hid (keep1 hb KB.out)
  clear KB
  have KB := K_
  clear K_
  have K_ := Lib.hid (keep1 hb KP.out)
  clear KP
  have KP := K_
  clear K_
  have HB4 := Lib.hid (HB3a.out.trans (hb.mono HB3a.out.size))
  clear hb
  have K_ := Lib.hid (keepA (o' := .cells #[.int .i64 p1, .int .i64 p2, .string p3] 23) KA.out)
  clear KA
  have KA := K_
  clear K_
  have K_ := Lib.hid (keepA (o' := .cells #[.int .i64 p1, .int .i64 p2, .string p3] 23) KB.out)
  clear KB
  have KB := K_
  clear K_
  have K_ := Lib.hid (keepA (o' := .cells #[.int .i64 p1, .int .i64 p2, .string p3] 23) KP.out)
  clear KP
  have KP := K_
  clear K_
  have KQ := Lib.hid (heap_new w4 (.cells #[.int .i64 p1, .int .i64 p2, .string p3] 23))
  have HB4a := Lib.hid (HB4.out.alloc HB4.out.size (.cells #[.int .i64 p1, .int .i64 p2, .string p3] 23))
  obtain ⟨⟨cA0, cA1, cA2⟩, _⟩ := h_cells KA.out
  obtain ⟨⟨cB0, cB1, cB2⟩, _⟩ := h_cells KB.out
  obtain ⟨⟨cP0, cP1, cP2⟩, _⟩ := h_cells KP.out
  obtain ⟨⟨cQ0, cQ1, cQ2⟩, _⟩ := h_cells KQ.out
  go_wp2_with fail
  refine (value_Cast.calls k n t d c1 c2 c3 c4 _ (GT.below HG.out HB4a.out) HC.out).mono ?_
  rintro e w5 ⟨rfl, hb⟩
  clear cA0 cA1 cA2 cB0 cB1 cB2 cP0 cP1 cP2 cQ0 cQ1 cQ2
  have K_ := Lib.hid (keep1 hb KA.out)
  clear KA
  have KA := K_
  clear K_
  have K_ := Lib.hid (keep1 hb KB.out)
  clear KB
  have KB := K_
  clear K_
  have K_ := Lib.hid (keep1 hb KP.out)
  clear KP
  have KP := K_
  clear K_
  have K_ := Lib.hid (keep1 hb KQ.out)
  clear KQ
  have KQ := K_
  clear K_
  have HB5 := Lib.hid (HB4a.out.trans (hb.mono HB4a.out.size))
  clear hb
  have K_ := Lib.hid (keepA (o' := .cells #[.int .i64 c1, .int .i64 c2, .string c3] 23) KA.out)
  clear KA
  have KA := K_
  clear K_
  have K_ := Lib.hid (keepA (o' := .cells #[.int .i64 c1, .int .i64 c2, .string c3] 23) KB.out)
  clear KB
  have KB := K_
  clear K_
  have K_ := Lib.hid (keepA (o' := .cells #[.int .i64 c1, .int .i64 c2, .string c3] 23) KP.out)
  clear KP
  have KP := K_
  clear K_
  have K_ := Lib.hid (keepA (o' := .cells #[.int .i64 c1, .int .i64 c2, .string c3] 23) KQ.out)
  clear KQ
  have KQ := K_
  clear K_
  have KR := Lib.hid (heap_new w5 (.cells #[.int .i64 c1, .int .i64 c2, .string c3] 23))
  have HB5a := Lib.hid (HB5.out.alloc HB5.out.size (.cells #[.int .i64 c1, .int .i64 c2, .string c3] 23))
  obtain ⟨⟨cA0, cA1, cA2⟩, _⟩ := h_cells KA.out
  obtain ⟨⟨cB0, cB1, cB2⟩, _⟩ := h_cells KB.out
  obtain ⟨⟨cP0, cP1, cP2⟩, _⟩ := h_cells KP.out
  obtain ⟨⟨cQ0, cQ1, cQ2⟩, _⟩ := h_cells KQ.out
  obtain ⟨⟨cR0, cR1, cR2⟩, _⟩ := h_cells KR.out
  go_wp2_with fail
  refine (Px.cleanseref02_Cast.calls 303 k n t d c1 c2 c3 c4 _ HD.out).mono ?_
  rintro e w6 ⟨rfl, hb⟩
  clear cA0 cA1 cA2 cB0 cB1 cB2 cP0 cP1 cP2 cQ0 cQ1 cQ2 cR0 cR1 cR2
  have K_ := Lib.hid (keep1 hb KA.out)
  clear KA
  have KA := K_
  clear K_
  have K_ := Lib.hid (keep1 hb KB.out)
  clear KB
  have KB := K_
  clear K_
  have K_ := Lib.hid (keep1 hb KP.out)
  clear KP
  have KP := K_
  clear K_
  have K_ := Lib.hid (keep1 hb KQ.out)
  clear KQ
  have KQ := K_
  clear K_
  have K_ := Lib.hid (keep1 hb KR.out)
  clear KR
  have KR := K_
  clear K_
  have HB6 := Lib.hid (HB5a.out.trans (hb.mono HB5a.out.size))
  clear hb
  have K_ := Lib.hid (keepA (o' := .cells #[.int .i64 c1, .int .i64 c2, .string c3] 23) KA.out)
  clear KA
  have KA := K_
  clear K_
  have K_ := Lib.hid (keepA (o' := .cells #[.int .i64 c1, .int .i64 c2, .string c3] 23) KB.out)
  clear KB
  have KB := K_
  clear K_
  have K_ := Lib.hid (keepA (o' := .cells #[.int .i64 c1, .int .i64 c2, .string c3] 23) KP.out)
  clear KP
  have KP := K_
  clear K_
  have K_ := Lib.hid (keepA (o' := .cells #[.int .i64 c1, .int .i64 c2, .string c3] 23) KQ.out)
  clear KQ
  have KQ := K_
  clear K_
  have K_ := Lib.hid (keepA (o' := .cells #[.int .i64 c1, .int .i64 c2, .string c3] 23) KR.out)
  clear KR
  have KR := K_
  clear K_
  have KT := Lib.hid (heap_new w6 (.cells #[.int .i64 c1, .int .i64 c2, .string c3] 23))
  have HB6a := Lib.hid (HB6.out.alloc HB6.out.size (.cells #[.int .i64 c1, .int .i64 c2, .string c3] 23))
  obtain ⟨⟨cA0, cA1, cA2⟩, _⟩ := h_cells KA.out
  obtain ⟨⟨cB0, cB1, cB2⟩, _⟩ := h_cells KB.out
  obtain ⟨⟨cP0, cP1, cP2⟩, _⟩ := h_cells KP.out
  obtain ⟨⟨cQ0, cQ1, cQ2⟩, _⟩ := h_cells KQ.out
  obtain ⟨⟨cR0, cR1, cR2⟩, _⟩ := h_cells KR.out
  obtain ⟨⟨cT0, cT1, cT2⟩, _⟩ := h_cells KT.out
  go_wp2_with fail
  have hs0 := ms_all ⟨HB6a.out, KA.out, KB.out⟩
  clear KP KQ KR KT cA0 cA1 cA2 cB0 cB1 cB2 cP0 cP1 cP2 cQ0 cQ1 cQ2 cR0 cR1 cR2 cT0 cT1 cT2
  generalize (w6.alloc (.cells #[.int .i64 c1, .int .i64 c2, .string c3] 23)) = W at *
  go_region_held3 (fun w' => w'.cell? ⟨w.heap.size, 0, none⟩ = some (.int .i64 k) ∧ w'.cell? ⟨w.heap.size, 1, none⟩ = some (.int .i64 n) ∧ w'.cell? ⟨w.heap.size, 2, none⟩ = some (.string t) ∧ w'.cell? ⟨w.heap.size + 1, 0, none⟩ = some (.int .i64 k') ∧ w'.cell? ⟨w.heap.size + 1, 1, none⟩ = some (.int .i64 n') ∧ w'.cell? ⟨w.heap.size + 1, 2, none⟩ = some (.string t') ∧ MSQ w w' k n t k' n' t')
    (first | assumption | exact ms_step (by assumption) (Below.refl _ _).drew | exact ms_step (by assumption) (Below.refl _ _))
    (first | (go_at_call 17; refine (Px.value_Valid.calls 1 k n t v _ HVA.out).mono ?_; rintro e wt ⟨rfl, hb⟩; have ht := ms_step (by assumption) hb; clear hb) | (go_at_call 18; refine (Px.cleanseref02_Valid.calls k n t v _ HVR.out).mono ?_; rintro e wt ⟨rfl, hb⟩; have ht := ms_step (by assumption) hb; clear hb) | (go_at_call 19; refine (Px.value_Compare.calls k n t k' n' t' c _ HCA.out).mono ?_; rintro e wt ⟨rfl, hb⟩; have ht := ms_step (by assumption) hb; clear hb) | (go_at_call 20; refine (Px.cleanseref02_Compare.calls k n t k' n' t' c _ HCR.out).mono ?_; rintro e wt ⟨rfl, hb⟩; have ht := ms_step (by assumption) hb; clear hb) | (go_at_call 21; refine (value_Text.calls k n t s _ (ms_gt HG.out (by assumption)) HTA.out).mono ?_; rintro e wt ⟨rfl, hb⟩; have ht := ms_step (by assumption) hb; clear hb) | (go_at_call 22; refine (Px.cleanseref02_Text.calls 300 k n t s _ HTR.out).mono ?_; rintro e wt ⟨rfl, hb⟩; have ht := ms_step (by assumption) hb; clear hb) | (go_at_call 23; refine (value_Test.calls k n t op k' n' t' add z _ HZA.out).mono ?_; rintro e wt ⟨rfl, hb⟩; have ht := ms_step (by assumption) hb; clear hb) | (go_at_call 24; refine (Px.cleanseref02_Test.calls 3 k n t op k' n' t' add z _ HZR.out).mono ?_; rintro e wt ⟨rfl, hb⟩; have ht := ms_step (by assumption) hb; clear hb) | fail)
  have HB50 := Lib.hid ht.2.2.2.2.2.2
  clear hs0 ht
  rename_i hHeld_
  clear hHeld_
  go_wp2_with fail
  go_ret
  exact ⟨rfl, HB50.out.1⟩

end Go.Proofs.YthgppbpmcjkadaaGreatDoor.X
namespace Go.Proofs.YthgppbpmcjkadaaGreatDoor.Xn
open Go.RowKit X Go.Proofs.YthgppbpmcjkadaaGreatDoorW.PrintWords
def cleanselaw02_ValueMatchesReference.f (a0_0 : Int) (a0_1 : Int) (a0_2 : ByteArray) (a1_0 : Int) (a1_1 : Int) (a1_2 : ByteArray) (a2 : Int) (a3 : Int) (a4 : Int) (a5 : ByteArray) : Option Bool := some true
theorem cleanselaw02_ValueMatchesReference.calls (a0_0 : Int) (a0_1 : Int) (a0_2 : ByteArray) (a1_0 : Int) (a1_1 : Int) (a1_2 : ByteArray) (a2 : Int) (a3 : Int) (a4 : Int) (a5 : ByteArray) (r : Bool) (w : World) (hG : X.GT w) (h : cleanselaw02_ValueMatchesReference.f a0_0 a0_1 a0_2 a1_0 a1_1 a1_2 a2 a3 a4 a5 = some r) :
    Calls Tryz.prog 3 #[.agg #[.int .i64 a0_0, .int .i64 a0_1, .string a0_2], .agg #[.int .i64 a1_0, .int .i64 a1_1, .string a1_2], .int .i64 a2, .int .i64 a3, .int .i64 a4, .string a5] w fun e w' => e = .returned (.bool r) ∧ Below w.heap.size w w' := by
  obtain rfl := Option.some.inj h
  show Calls Tryz.prog 3 _ w fun e w' => HeadPost w e w'
  cases hs : shortB [⟨a0_0, a0_1, a0_2⟩, ⟨a1_0, a1_1, a1_2⟩] with
  | false => exact match_s _ _ _ _ _ _ _ _ _ _ w hG hs
  | true =>
    by_cases hu : a5.size ≤ 500
    case neg => exact match_l _ _ _ _ _ _ _ _ _ _ w hG hs hu
    have hz : a5.size ≤ 1000000 := by omega
    exact match_d _ _ _ _ _ _ _ _ _ _ w hG hs hu _ _ _ _ _ _ _ _ _ _ _ _ (by unfold value_Parse.f; rw [if_pos hz]) (by unfold cleanseref02_Parse.f; rw [if_pos hz, refR_eq]) rfl (refCast_f 0 _ _ _ _) (valid_f 0 _ _ _) (ref_valid _ _ _) (compare_f _ _ _ _ _ _) (refCompare_f _ _ _ _ _ _) rfl (refText_spec _ _ _ 300 (by omega)) rfl (refTest_f 0 _ _ _ _ _ _ _ _)
end Go.Proofs.YthgppbpmcjkadaaGreatDoor.Xn
set_option linter.unusedVariables false
namespace Go.Proofs.YthgppbpmcjkadaaGreatDoor.Pure
open Go.RowKit
theorem ValueMatchesReference : ∀ (a0_0 : Int) (a0_1 : Int) (a0_2 : ByteArray) (a1_0 : Int) (a1_1 : Int) (a1_2 : ByteArray) (a2 : Int) (a3 : Int) (a4 : Int) (a5 : ByteArray), -9223372036854775808 ≤ a0_0 → a0_0 ≤ 9223372036854775807 → -9223372036854775808 ≤ a0_1 → a0_1 ≤ 9223372036854775807 → a0_2.size ≤ 9223372036854775807 → -9223372036854775808 ≤ a1_0 → a1_0 ≤ 9223372036854775807 → -9223372036854775808 ≤ a1_1 → a1_1 ≤ 9223372036854775807 → a1_2.size ≤ 9223372036854775807 → -9223372036854775808 ≤ a2 → a2 ≤ 9223372036854775807 → -9223372036854775808 ≤ a3 → a3 ≤ 9223372036854775807 → -9223372036854775808 ≤ a4 → a4 ≤ 9223372036854775807 → a5.size ≤ 140737488351232 → Xn.cleanselaw02_ValueMatchesReference.f a0_0 a0_1 a0_2 a1_0 a1_1 a1_2 a2 a3 a4 a5 = some true := by
  intros
  rfl
end Go.Proofs.YthgppbpmcjkadaaGreatDoor.Pure
