/- lexer's scan: symbols, in the form of contracts. -/
import Derived.Test.YtemjgafocgnccaaDoorX4
set_option linter.unusedVariables false
set_option linter.unusedSimpArgs false
namespace Go.Proofs.YtemjgafocgnccaaDoor.X
open Go.RowKit Go.Proofs.YtemjgafocgnccaaDoorW.PrintWords Go.Proofs.YtemjgafocgnccaaDoorW.PrintLast Go.Proofs.YtemjgafocgnccaaDoorW.PrintMore
def symC (c : Int) : Bool := decide (0 ≤ Lib.indexByte [59, 58, 44, 46, 40, 41, 123, 125, 61, 60, 43, 45, 47, 64] c.toNat.toUInt8)
def twoC (l : List Int) : Bool := ([33, 61] : List Int).isPrefixOf l || ([60, 61] : List Int).isPrefixOf l
def symbolZ (l : List Int) : Found :=
  if twoC l = true then .tok 4 (strOfNums (l.take 2)) 0 2
  else if symC (l.headD 0) = true then .tok 4 (strOfNums (l.take 1)) 0 1
  else .none
theorem u8_beq (a b : UInt8) : (a == b) = (((a.toNat : Nat) : Int) == ((b.toNat : Nat) : Int)) := by
  rw [Bool.eq_iff_iff, beq_iff_eq, beq_iff_eq]
  constructor
  · rintro rfl; rfl
  · intro h; exact UInt8.toNat_inj.1 (by omega)
theorem prefix2 (x y : UInt8) : ∀ (L : List UInt8), Lib.hasPrefix L [x, y] = ([(x.toNat : Int), (y.toNat : Int)] : List Int).isPrefixOf (L.map fun b => (b.toNat : Int))
  | [] => rfl
  | [a] => by simp [Lib.hasPrefix, List.isPrefixOf]
  | a :: b :: r => by simp [Lib.hasPrefix, List.isPrefixOf, u8_beq]
theorem prefix_len (x y : Int) (l : List Int) (h : ([x, y] : List Int).isPrefixOf l = true) : 2 ≤ l.length := by
  cases l with
  | nil => simp [List.isPrefixOf] at h
  | cons a l => cases l with
    | nil => simp [List.isPrefixOf] at h
    | cons b l => simp
set_option maxRecDepth 100000 in
set_option maxHeartbeats 2000000 in
theorem symbol_any (b : Nat) (t : ByteArray) (i : Nat) (hi : i < t.size) (ht : t.size ≤ 21000) (w : World) (hs : ScanAt w b t i) :
    Calls Tryd.prog 18 #[.pointer (some ⟨b, 0, none⟩)] w fun e w' => (symbolZ ((bytesOf t).drop i)).says i e ∧ Below w.heap.size w w' := by
  have HS := Lib.hid hs
  have hb : b < w.heap.size := World.block_lt_of_cell? w ⟨b, 0, none⟩ hs.cell0
  clear hs
  have hsl : ∀ W : World, (Instr.slice 9 (.string t) (some (.int .i64 (i : Int))) none none).run Tryd.prog W = .ok (.string (t.extract i t.size)) W := fun W => by
    rw [run_slice_string_l (P := Tryd.prog) W 9 t Tryd.underlying9 .i64 (i : Int) (by omega) (by omega)]
    rfl
  have hRb : bytesOf (t.extract i t.size) = (bytesOf t).drop i := by
    rw [bytes_extract, List.take_of_length_le]
    unfold bytesOf; rw [List.length_map, Array.length_toList]; exact Nat.le_refl _
  have hRs : (t.extract i t.size).size = t.size - i := by rw [ByteArray.size_extract]; omega
  rw [← hRb]
  generalize t.extract i t.size = R at *
  have hR0 : 0 < R.size := by omega
  have hHead : ((R[0]'hR0).toNat : Int) = (bytesOf R).headD 0 := by
    have := head_at R 0 hR0
    rw [List.drop_zero] at this
    rw [this]
    exact bt_at R ((0 : Nat) : Int) (by simpa using hR0)
  have hP1 : Lib.hasPrefix R.data.toList [33, 61] = ([33, 61] : List Int).isPrefixOf (bytesOf R) := prefix2 33 61 R.data.toList
  have hP2 : Lib.hasPrefix R.data.toList [60, 61] = ([60, 61] : List Int).isPrefixOf (bytesOf R) := prefix2 60 61 R.data.toList
  have hL1 := prefix_len 33 61 (bytesOf R)
  have hL2 := prefix_len 60 61 (bytesOf R)
  have hlen : (bytesOf R).length = R.size := by unfold bytesOf; rw [List.length_map, Array.length_toList]; rfl
  rw [hlen] at hL1 hL2
  have hC1 := fun W => Tryd.strings_HasPrefix R ⟨#[33, 61]⟩ W
  have hC2 := fun W => Tryd.strings_HasPrefix R ⟨#[60, 61]⟩ W
  have hC3 := fun W => Tryd.strings_IndexByte ⟨#[59, 58, 44, 46, 40, 41, 123, 125, 61, 60, 43, 45, 47, 64]⟩ ((R[0]'hR0).toNat : Int) W
  have e1 : (⟨#[33, 61]⟩ : ByteArray).data.toList = [33, 61] := rfl
  have e2 : (⟨#[60, 61]⟩ : ByteArray).data.toList = [60, 61] := rfl
  have e3 : (⟨#[59, 58, 44, 46, 40, 41, 123, 125, 61, 60, 43, 45, 47, 64]⟩ : ByteArray).data.toList = [59, 58, 44, 46, 40, 41, 123, 125, 61, 60, 43, 45, 47, 64] := rfl
  rw [e1, hP1] at hC1
  rw [e2, hP2] at hC2
  rw [e3] at hC3
  have hZ : symbolZ (bytesOf R) = symbolZ (bytesOf R) := rfl
  conv at hZ => rhs; unfold symbolZ twoC symC
  rw [← hHead] at hZ
  have hX : ∀ n, R.extract 0 n = strOfNums ((bytesOf R).take n) := fun n => by
    have := cut_str R 0 n
    rwa [Nat.zero_add, List.drop_zero] at this
  rw [← hX, ← hX] at hZ
  generalize ([33, 61] : List Int).isPrefixOf (bytesOf R) = q1 at *
  generalize ([60, 61] : List Int).isPrefixOf (bytesOf R) = q2 at *
  generalize Lib.indexByte [59, 58, 44, 46, 40, 41, 123, 125, 61, 60, 43, 45, 47, 64] (((R[0]'hR0).toNat : Int).toNat.toUInt8) = x at *
  have HC1 := Lib.hid hC1
  have HC2 := Lib.hid hC2
  have HC3 := Lib.hid hC3
  have HZ := Lib.hid hZ
  have HL1 := Lib.hid hL1
  have HL2 := Lib.hid hL2
  clear hL1 hL2 hRs hC1 hC2 hC3 hZ hX hHead hP1 hP2 hRb e1 e2 e3 hlen
  have HB := Lib.hid (show Below w.heap.size w (w.alloc tok0) from below_alloc (Below.refl _ _) _)
  have HS1 := Lib.hid (HS.out.alloc tok0)
  have hc0 := HS1.out.cell0
  have hc1 := HS1.out.cell1
  unfold tok0 at hc0 hc1
  have hw0 := HS.out.cell0
  have hw1 := HS.out.cell1
  have endN : ∀ (tmps : Array Value) (m n : Nat), tmps.getD 2 undef = .pointer (some ⟨w.heap.size, 0, none⟩) → tmps.getD 3 undef = .int .i64 (n : Int) → (n = 0 ∧ symbolZ (bytesOf R) = .none ∨ symbolZ (bytesOf R) = .tok 4 (R.extract 0 n) 0 n) → bodyPost Tryd.prog Tryd.f18 (fun e w' => (symbolZ (bytesOf R)).says i e ∧ Below w.heap.size w w') Exit.ret { tmps := tmps, defers := [] }
      ((((((w.alloc (.cells #[.int .i64 0, .string ⟨#[]⟩, .int .i64 0, .int .i64 0] 30)).drewN m).setCell ⟨w.heap.size, 0, none⟩ (.int .i64 4)).setCell ⟨w.heap.size, 1, none⟩ (.string (R.extract 0 n))).setCell ⟨w.heap.size, 2, none⟩ (.int .i64 0)).setCell ⟨w.heap.size, 3, none⟩ (.int .i64 0)) := by
    intro tmps m n h2 h3 hn
    obtain ⟨W4, hW4, k0, k1, k2, k3, hB4⟩ := put4 (W := (w.alloc tok0).drewN m) (heap_new w tok0) (pw_below_drewN HB.out _) (Nat.le_refl _) (.int .i64 4) (.string (R.extract 0 n)) (.int .i64 0) (.int .i64 0)
    unfold tok0 at hW4
    rw [← hW4]
    refine bodyPost_ret (res_tok rfl tmps w.heap.size _ _ _ _ _ h2 k0 k1 k2 k3) rfl ⟨?_, hB4⟩
    rw [h3]
    rcases hn with ⟨rfl, hn⟩ | hn
    · rw [hn]; exact ⟨_, _, _, _, rfl⟩
    · rw [hn]; rfl
  have EN := Lib.hid endN
  clear endN
  go_enter Tryd.func18, Tryd.ntmps18
  go_wp2_with fail
  go_quiet (fail)
  go_wp2_with fail
  refine (HC1.out _).mono ?_
  rintro e w' ⟨rfl, rfl⟩
  rcases q1 with _ | _
  · go_wp2_with fail
    refine (HC2.out _).mono ?_
    rintro e w' ⟨rfl, rfl⟩
    rcases q2 with _ | _
    · have p0 : (0 < R.size) = True := eq_true hR0
      go_wp2_with fail
      refine (HC3.out _).mono ?_
      rintro e w' ⟨rfl, rfl⟩
      rcases Classical.em (0 ≤ x) with c | c
      · have hd : decide (0 ≤ x) = true := decide_eq_true c
        have h1 : (1 : Int) ≤ (R.size : Int) := by omega
        go_wp2_with fail
        refine EN.out _ _ 1 ?_ ?_ ?_
        · rfl
        · rfl
        · exact .inr (by rw [HZ.out, if_neg (by simp), if_pos (decide_eq_true c)])
      · have hd : decide (0 ≤ x) = false := decide_eq_false c
        go_wp2_with fail
        have EN0 := fun tmps m => EN.out tmps m 0
        rw [show R.extract 0 0 = ⟨#[]⟩ from by
          refine ByteArray.ext ?_
          rw [ByteArray.data_extract]
          simp] at EN0
        refine EN0 _ _ ?_ ?_ ?_
        · rfl
        · rfl
        · exact .inl ⟨rfl, by rw [HZ.out, if_neg (by simp), if_neg (by simpa using c)]⟩
    · have h2 : (2 : Int) ≤ (R.size : Int) := by have := HL2.out rfl; omega
      go_wp2_with fail
      refine EN.out _ _ 2 ?_ ?_ ?_
      · rfl
      · rfl
      · exact .inr (by rw [HZ.out, if_pos (by rfl)])
  · have h2 : (2 : Int) ≤ (R.size : Int) := by have := HL1.out rfl; omega
    go_wp2_with fail
    refine EN.out _ _ 2 ?_ ?_ ?_
    · rfl
    · rfl
    · exact .inr (by rw [HZ.out, if_pos (by rfl)])
end Go.Proofs.YtemjgafocgnccaaDoor.X
