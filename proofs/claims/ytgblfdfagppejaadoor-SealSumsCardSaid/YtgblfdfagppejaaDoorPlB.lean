/- The Seal functions' plain laws: reading numbers, sectors, Get. -/
import Derived.Test.YtgblfdfagppejaaDoorPlA
import Derived.Laws.BitsAllLaws
set_option linter.unusedVariables false
set_option linter.unusedSimpArgs false
namespace Go.Proofs.YtgblfdfagppejaaDoor.Pl
open Go.RowKit Go.Proofs.YtgblfdfagppejaaDoorW.PrintWords Go.Proofs.YtgblfdfagppejaaDoorW.PrintMore
theorem or_byte (n b : Int) (hn : 0 ≤ n) (hn2 : n < 16777216) (hb : Byte b) : Go.bits .or .i64 (n * 256) b = n * 256 + b := by
  obtain ⟨m, rfl⟩ := Int.eq_ofNat_of_zero_le hn
  unfold Byte at hb
  obtain ⟨c, rfl⟩ := Int.eq_ofNat_of_zero_le hb.1
  have h := Nat.shiftLeft_add_eq_or_of_lt (b := c) (i := 8) (by omega) m
  rw [Nat.shiftLeft_eq] at h
  have e1 : (BitVec.ofInt 64 ((m : Int) * 256) ||| BitVec.ofInt 64 (c : Int)).toNat = m * 2 ^ 8 + c := by
    rw [BitVec.toNat_or, show ((m : Int) * 256) = ((m * 256 : Nat) : Int) by omega, BitVec.ofInt_natCast, BitVec.ofInt_natCast, BitVec.toNat_ofNat, BitVec.toNat_ofNat, Nat.mod_eq_of_lt (by omega), Nat.mod_eq_of_lt (by omega), h]
  show IntKind.i64.wrap ((BitVec.ofInt 64 ((m : Int) * 256) ||| BitVec.ofInt 64 (c : Int)).toNat : Int) = _
  rw [e1, Go.Proofs.YtgblfdfagppejaaDoorW.PrintLast.i64_w, wrap_id (by omega) (by omega)]
  omega
def readZ : Int → List Int → Int × Bool
  | acc, [] => (acc, true)
  | acc, b :: l => if acc ≥ 16777216 then (0, false) else readZ (acc * 256 + b) l
theorem rd_at {l : List Int} {i : Nat} (h : i < l.length) : rd l (i : Int) = l[i] := by simp [rd, List.getD_eq_getElem?_getD, h]
theorem read_loop (l : List Int) (hb : ∀ b ∈ l, Byte b) (hl : l.length ≤ 100) : ∀ (d i k : Nat) (acc : Int), i + d = l.length → d < k → 0 ≤ acc → acc < 4294967296 → Px.seal_read.l0 k acc l (l.length : Int) (i : Int) = some (readZ acc (l.drop i))
  | 0, i, k, acc, h, hk, h0, h1 => by
    obtain ⟨k, rfl⟩ : ∃ m, k = m + 1 := ⟨k - 1, by omega⟩
    simp only [Px.seal_read.l0]
    rw [if_neg (by omega), List.drop_of_length_le (by omega)]
    rfl
  | d + 1, i, k, acc, h, hk, h0, h1 => by
    obtain ⟨k, rfl⟩ : ∃ m, k = m + 1 := ⟨k - 1, by omega⟩
    have hi : i < l.length := by omega
    have hbb := hb l[i] (List.getElem_mem hi)
    simp only [Px.seal_read.l0]
    rw [if_pos (by omega), if_pos (by omega), if_pos (by omega), rd_at hi, List.drop_eq_getElem_cons hi]
    generalize l[i] = b at *
    unfold readZ
    by_cases c : acc ≥ 16777216
    · rw [if_pos c, if_pos c]
    · unfold Byte at hbb
      rw [if_neg c, if_neg c, wrap_id (i := acc * 256) (by omega) (by omega), wrap_id (i := b) (by omega) (by omega), or_byte acc b h0 (by omega) hbb, wrap_id (i := (i : Int) + 1) (by omega) (by omega)]
      exact read_loop l hb hl d (i + 1) k _ (by omega) (by omega) (by omega) (by omega)
theorem read_spec (l : List Int) (hb : ∀ b ∈ l, Byte b) (hl : l.length ≤ 100) (k : Nat) (hk : 100 < k) : Px.seal_read.f k l = some (readZ 0 l) := read_loop l hb hl l.length 0 k 0 (by omega) (by omega) (by omega) (by omega)
theorem readZ_nonneg : ∀ (l : List Int) (acc : Int), (∀ b ∈ l, Byte b) → 0 ≤ acc → 0 ≤ (readZ acc l).1
  | [], acc, _, h => h
  | b :: l, acc, hb, h => by
    unfold readZ
    split
    · exact Int.le_refl _
    · exact readZ_nonneg l _ (fun x hx => hb x (List.mem_cons_of_mem _ hx)) (by have := (hb b List.mem_cons_self).1; omega)
theorem div_pow (v : Int) (n : Nat) : v / 256 ^ (n + 1) = v / 256 ^ n / 256 := by
  rw [Int.pow_succ, Int.ediv_ediv_of_nonneg (by exact Int.pow_nonneg (by omega))]
theorem readZ_be (v : Int) (h0 : 0 ≤ v) (h1 : v < 4294967296) : ∀ (n : Nat), readZ (v / 256 ^ n) (be n v) = (v, true)
  | 0 => by simp [be, readZ]
  | n + 1 => by
    have hle : v / 256 ^ n ≤ v := Int.ediv_le_self _ h0
    have hnn : 0 ≤ v / 256 ^ n := Int.ediv_nonneg h0 (Int.pow_nonneg (by omega))
    have ih := readZ_be v h0 h1 n
    rw [be, readZ, div_pow]
    generalize v / 256 ^ n = q at *
    rw [if_neg (by omega), show q / 256 * 256 + q % 256 = q by omega]
    exact ih
theorem readZ_be8 (v : Int) (h0 : 0 ≤ v) (h1 : v < 4294967296) : readZ 0 (be 8 v) = (v, true) := by
  have h := readZ_be v h0 h1 8
  rwa [show v / 256 ^ 8 = 0 by omega] at h
theorem readZ_be4 (v : Int) (h0 : 0 ≤ v) (h1 : v < 4294967296) : readZ 0 (be 4 v) = (v, true) := by
  have h := readZ_be v h0 h1 4
  rwa [show v / 256 ^ 4 = 0 by omega] at h

/-! ### Get -/
def cutL (s : ByteArray) (i j : Nat) : List Int := ((bytesOf s).take j).drop i
/-- What Get tells of a sector, whatever the epoch and the place: where it is none, none; else its epoch, its place, its body. -/
def openZ (s : ByteArray) : Option (Int × Int × ByteArray) :=
  if s.size = 64 then
    (if (readZ 0 (cutL s 0 8)).2 = true ∧ (readZ 0 (cutL s 8 12)).2 = true ∧ (readZ 0 (cutL s 12 16)).2 = true ∧ (readZ 0 (cutL s 12 16)).1 ≤ 40 then
      (if placedB (readZ 0 (cutL s 0 8)).1 (readZ 0 (cutL s 8 12)).1 = true ∧ sealB (readZ 0 (cutL s 0 8)).1 (readZ 0 (cutL s 8 12)).1 (s.extract 16 (16 + (readZ 0 (cutL s 12 16)).1).toNat) = s then
        some ((readZ 0 (cutL s 0 8)).1, (readZ 0 (cutL s 8 12)).1, s.extract 16 (16 + (readZ 0 (cutL s 12 16)).1).toNat) else none)
    else none)
  else none
def getZ (e p : Int) (s : ByteArray) : ByteArray × Int :=
  if placedB e p = true then (match openZ s with
    | none => (⟨#[]⟩, 20)
    | some (x, y, b) => if x = e ∧ y = p then (b, 0) else (⟨#[]⟩, 21)) else (⟨#[]⟩, 1)
theorem cutL_byte (s : ByteArray) (i j : Nat) : ∀ b ∈ cutL s i j, Byte b := fun b hb => bytes_byte s b (List.mem_of_mem_take (List.mem_of_mem_drop hb))
theorem cutL_len (s : ByteArray) (i j : Nat) (hj : j ≤ 16) : (cutL s i j).length ≤ 100 := by unfold cutL; rw [List.length_drop, List.length_take]; omega
theorem get_spec (e p : Int) (s : ByteArray) : X.seal_Get.f e p s = some (getZ e p s) := by
  obtain ⟨k, hk⟩ : ∃ k : Nat, k = 1000 := ⟨_, rfl⟩
  unfold X.seal_Get.f
  rw [← hk]
  unfold X.seal_GetK getZ
  rw [placed_spec]
  simp only [Option.bind_some]
  by_cases hp : placedB e p = true
  · rw [if_pos hp, if_pos hp]
    unfold openZ
    by_cases hs : s.size = 64
    · rw [if_pos (by omega), if_pos hs]
      have r1 : Px.seal_read.f k (X.getCut s 0 8) = some (readZ 0 (cutL s 0 8)) := read_spec _ (cutL_byte s 0 8) (cutL_len s 0 8 (by omega)) k (by omega)
      have r2 : Px.seal_read.f k (X.getCut s 8 12) = some (readZ 0 (cutL s 8 12)) := read_spec _ (cutL_byte s 8 12) (cutL_len s 8 12 (by omega)) k (by omega)
      have r3 : Px.seal_read.f k (X.getCut s 12 16) = some (readZ 0 (cutL s 12 16)) := read_spec _ (cutL_byte s 12 16) (cutL_len s 12 16 (by omega)) k (by omega)
      have n3 := readZ_nonneg (cutL s 12 16) 0 (cutL_byte s 12 16) (by omega)
      rw [r1, r2, r3]
      simp only [Option.bind_some]
      generalize readZ 0 (cutL s 0 8) = x at *
      generalize readZ 0 (cutL s 8 12) = y at *
      generalize readZ 0 (cutL s 12 16) = z at *
      by_cases hc : x.2 = true ∧ y.2 = true ∧ z.2 = true ∧ z.1 ≤ 40
      · rw [if_pos hc, if_pos hc, if_pos n3, put_spec _ _ _ k (by omega)]
        have hbs : (s.extract 16 (16 + z.1).toNat).size ≤ 40 := by rw [ByteArray.size_extract]; omega
        generalize s.extract 16 (16 + z.1).toNat = b at *
        simp only [Option.bind_some, putZ]
        by_cases hq : placedB x.1 y.1 = true
        · rw [if_pos hq, if_pos hbs]
          by_cases hz : sealB x.1 y.1 b = s
          · rw [if_pos ⟨rfl, hz⟩, if_pos (c := placedB x.1 y.1 = true ∧ sealB x.1 y.1 b = s) ⟨hq, hz⟩]
            show _ = some (if x.1 = e ∧ y.1 = p then (b, 0) else (⟨#[]⟩, 21))
            split <;> rfl
          · rw [if_neg (fun h => hz h.2), if_neg (fun h => hz h.2)]
        · rw [if_neg hq, if_neg (by intro h; exact absurd h.1 (by decide)), if_neg (fun h => hq h.1)]
      · rw [if_neg hc, if_neg hc]
    · rw [if_neg (by omega), if_neg hs]
  · rw [if_neg hp, if_neg hp]
end Go.Proofs.YtgblfdfagppejaaDoor.Pl
