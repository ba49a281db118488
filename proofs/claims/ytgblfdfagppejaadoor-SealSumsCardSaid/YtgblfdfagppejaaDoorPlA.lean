/- The Seal functions' plain laws: sums, numbers in bytes, Put. -/
import Derived.Test.YtgblfdfagppejaaDoorX2
set_option linter.unusedVariables false
set_option linter.unusedSimpArgs false
namespace Go.Proofs.YtgblfdfagppejaaDoor.Pl
open Go.RowKit Go.Proofs.YtgblfdfagppejaaDoorW.PrintWords Go.Proofs.YtgblfdfagppejaaDoorW.PrintMore
theorem wrap_id {i : Int} (h0 : -9223372036854775808 ≤ i) (h : i ≤ 9223372036854775807) : wrap64 i = i := by unfold wrap64; omega
def Byte (b : Int) : Prop := 0 ≤ b ∧ b < 256
def step (s b : Int) : Int := (s * 257 + b + 1) % 2147483647
def sumFrom (s : Int) (l : List Int) : Int := l.foldl step s
def sumL (l : List Int) : Int := sumFrom 0 l
theorem step_bd (s b : Int) : 0 ≤ step s b ∧ step s b < 2147483647 := by unfold step; omega
theorem sumFrom_bd : ∀ (l : List Int) (s : Int), 0 ≤ s → s < 2147483647 → 0 ≤ sumFrom s l ∧ sumFrom s l < 2147483647
  | [], s, h0, h1 => ⟨h0, h1⟩
  | b :: l, s, _, _ => sumFrom_bd l (step s b) (step_bd s b).1 (step_bd s b).2
theorem sumL_bd (l : List Int) : 0 ≤ sumL l ∧ sumL l < 2147483647 := sumFrom_bd l 0 (by omega) (by omega)
theorem step_inj {s t b : Int} (hs : 0 ≤ s ∧ s < 2147483647) (ht : 0 ≤ t ∧ t < 2147483647) (h : step s b = step t b) : s = t := by unfold step at h; omega
theorem step_byte {s a b : Int} (ha : Byte a) (hb : Byte b) (h : step s a = step s b) : a = b := by unfold step at h; unfold Byte at *; omega
theorem sumFrom_inj : ∀ (l : List Int) {s t : Int}, 0 ≤ s ∧ s < 2147483647 → 0 ≤ t ∧ t < 2147483647 → sumFrom s l = sumFrom t l → s = t
  | [], s, t, _, _, h => h
  | b :: l, s, t, hs, ht, h => step_inj hs ht (sumFrom_inj l (step_bd s b) (step_bd t b) h)
/-- Two texts that differ in one byte have different sums. -/
theorem sum_one (l1 l2 : List Int) {a b : Int} (ha : Byte a) (hb : Byte b) (h : sumL (l1 ++ a :: l2) = sumL (l1 ++ b :: l2)) : a = b := by
  unfold sumL sumFrom at h
  rw [List.foldl_append, List.foldl_append] at h
  have hb0 := sumFrom_bd l1 0 (by omega) (by omega)
  unfold sumFrom at hb0
  exact step_byte ha hb (sumFrom_inj l2 (step_bd _ a) (step_bd _ b) h)

theorem bytes_len (s : ByteArray) : (bytesOf s).length = s.size := by unfold bytesOf; rw [List.length_map, Array.length_toList]; rfl
theorem bytes_byte (s : ByteArray) : ∀ b ∈ bytesOf s, Byte b := by
  intro b hb
  unfold bytesOf at hb
  obtain ⟨c, _, rfl⟩ := List.mem_map.1 hb
  have := c.toNat_lt
  exact ⟨by omega, by omega⟩
theorem bt_at (s : ByteArray) (i : Nat) (h : i < s.size) : bt s (i : Int) = (bytesOf s)[i]'(by rw [bytes_len]; exact h) := by
  unfold bt
  rw [dif_pos (by rw [Int.toNat_natCast]; exact h)]
  simp only [bytesOf, List.getElem_map, Array.getElem_toList, Int.toNat_natCast]
  rfl
theorem str_bytes (s : ByteArray) : strOfNums (bytesOf s) = s := by
  unfold strOfNums bytesOf
  rw [List.map_map]
  have : ((fun n : Int => UInt8.ofNat n.toNat) ∘ fun b : UInt8 => (b.toNat : Int)) = id := by funext b; simp
  rw [this, List.map_id]
theorem bytes_str (l : List Int) (h : ∀ b ∈ l, Byte b) : bytesOf (strOfNums l) = l := by
  unfold strOfNums bytesOf
  show List.map _ (List.map _ l) = l
  rw [List.map_map]
  refine (List.map_congr_left fun b hb => ?_).trans (List.map_id l)
  have := h b hb
  unfold Byte at this
  simp only [Function.comp_apply, id_eq, UInt8.toNat_ofNat']
  omega
theorem str_inj {l m : List Int} (h : ∀ b ∈ l, Byte b) (h2 : ∀ b ∈ m, Byte b) (e : strOfNums l = strOfNums m) : l = m := by rw [← bytes_str l h, e, bytes_str m h2]
theorem bytes_inj {s t : ByteArray} (e : bytesOf s = bytesOf t) : s = t := by rw [← str_bytes s, e, str_bytes t]
theorem sum_loop (s : ByteArray) (hs : s.size ≤ 140737488355328) : ∀ (d i k : Nat), i + d = s.size → d < k → Px.seal_Sum.l0 k s (sumL ((bytesOf s).take i)) (s.size : Int) (i : Int) = some (sumL (bytesOf s))
  | 0, i, k, h, hk => by
    obtain ⟨k, rfl⟩ : ∃ m, k = m + 1 := ⟨k - 1, by omega⟩
    simp only [Px.seal_Sum.l0]
    rw [if_neg (by omega), List.take_of_length_le (by rw [bytes_len]; omega)]
  | d + 1, i, k, h, hk => by
    obtain ⟨k, rfl⟩ : ∃ m, k = m + 1 := ⟨k - 1, by omega⟩
    have hi : i < (bytesOf s).length := by rw [bytes_len]; omega
    have hb := bytes_byte s _ (List.getElem_mem hi)
    have hsum := sumL_bd ((bytesOf s).take i)
    have next := sum_loop s hs d (i + 1) k (by omega) (by omega)
    have e : sumL ((bytesOf s).take (i + 1)) = step (sumL ((bytesOf s).take i)) (bytesOf s)[i] := by
      rw [List.take_succ_eq_append_getElem hi]
      unfold sumL sumFrom
      rw [List.foldl_append]
      rfl
    rw [e] at next
    simp only [Px.seal_Sum.l0]
    rw [if_pos (by omega), if_pos (by omega), if_pos (by omega), bt_at s i (by omega)]
    generalize (bytesOf s)[i] = b at *
    generalize sumL ((bytesOf s).take i) = t at *
    unfold Byte at hb
    have e1 : Int.tmod (wrap64 (wrap64 (wrap64 (t * 257) + wrap64 b) + 1)) 2147483647 = step t b := by
      rw [wrap_id (i := t * 257) (by omega) (by omega), wrap_id (i := b) (by omega) (by omega), wrap_id (i := t * 257 + b) (by omega) (by omega), wrap_id (by omega) (by omega), Int.tmod_eq_emod_of_nonneg (by omega)]
      rfl
    rw [e1, wrap_id (i := (i : Int) + 1) (by omega) (by omega)]
    exact next
theorem sum_spec (s : ByteArray) (hs : s.size ≤ 140737488355328) (k : Nat) (hk : s.size < k) : Px.seal_Sum.f k s = some (sumL (bytesOf s)) := sum_loop s hs s.size 0 k (by omega) hk

/-! ### numbers in bytes -/
def be : Nat → Int → List Int
  | 0, _ => []
  | n + 1, v => (v / 256 ^ n) % 256 :: be n v
theorem be_len : ∀ (n : Nat) (v : Int), (be n v).length = n
  | 0, _ => rfl
  | n + 1, v => by simp [be, be_len n v]
theorem be_byte : ∀ (n : Nat) (v : Int), ∀ b ∈ be n v, Byte b
  | 0, _, b, h => by cases h
  | n + 1, v, b, h => by
    rcases List.mem_cons.1 h with rfl | h
    · unfold Byte; omega
    · exact be_byte n v b h
theorem shr_byte (v : Int) (n : Nat) (hn : n < 8) : shr .i64 v (8 * (n : Int)) % 256 = (v / 256 ^ n) % 256 := by
  unfold shr
  rw [show (8 * (n : Int)).toNat = 8 * n by omega, Nat.min_eq_left (by show 8 * n ≤ 64; omega), Int.pow_mul]
  rfl
theorem write_l1 (fs : List Px.S42) (idx f0 f1 : Int) (R : Option (List Int)) (K : Nat) : ∀ (n : Nat), n ≤ 8 → ∀ (acc : List Int) (k : Nat), acc.length + n ≤ 1000 → K + n + 1 < k → (∀ k, K < k → Px.seal_write.l0 k (acc ++ be n f0) fs (fs.length : Int) (wrap64 (idx + 1)) = R) →
    Px.seal_write.l1 k acc ((n : Int) - 1) fs (fs.length : Int) idx f0 f1 = R
  | 0, _, acc, k, ha, hk, next => by
    obtain ⟨k, rfl⟩ : ∃ m, k = m + 1 := ⟨k - 1, by omega⟩
    simp only [Px.seal_write.l1]
    rw [if_neg (by omega)]
    have := next k (by omega)
    rwa [be, List.append_nil] at this
  | n + 1, hn, acc, k, ha, hk, next => by
    obtain ⟨k, rfl⟩ : ∃ m, k = m + 1 := ⟨k - 1, by omega⟩
    simp only [Px.seal_write.l1]
    have e1 : ((n + 1 : Nat) : Int) - 1 = (n : Int) := by omega
    rw [e1, if_pos (by omega), wrap_id (i := 8 * (n : Int)) (by omega) (by omega), if_pos (by omega), if_pos (by omega), shr_byte f0 n (by omega), wrap_id (i := (n : Int) - 1) (by omega) (by omega)]
    refine write_l1 fs idx f0 f1 R K n (by omega) _ k ?_ (by omega) (fun k hk => ?_)
    · rw [List.length_append, List.length_singleton]; omega
    · have := next k hk
      rw [be] at this
      simpa using this
def wr (fs : List Px.S42) : List Int := (fs.map fun f => be f.f1.toNat f.f0).flatten
theorem write_from (fs : List Px.S42) (h8 : ∀ f ∈ fs, 0 ≤ f.f1 ∧ f.f1 ≤ 8) (hn : fs.length ≤ 10) : ∀ (d i : Nat) (acc : List Int) (k : Nat), i + d = fs.length → acc.length + 10 * d ≤ 900 → d * 20 + 10 < k →
    Px.seal_write.l0 k acc fs (fs.length : Int) (i : Int) = some (acc ++ wr (fs.drop i))
  | 0, i, acc, k, h, ha, hk => by
    obtain ⟨k, rfl⟩ : ∃ m, k = m + 1 := ⟨k - 1, by omega⟩
    simp only [Px.seal_write.l0]
    rw [if_neg (by omega), List.drop_of_length_le (by omega)]
    simp [wr]
  | d + 1, i, acc, k, h, ha, hk => by
    obtain ⟨k, rfl⟩ : ∃ m, k = m + 1 := ⟨k - 1, by omega⟩
    have hi : i < fs.length := by omega
    have e : Px.rd_T42 fs (i : Int) = fs[i] := by simp [Px.rd_T42, List.getD_eq_getElem?_getD, hi]
    obtain ⟨g0, g1⟩ := h8 fs[i] (List.getElem_mem hi)
    simp only [Px.seal_write.l0]
    rw [if_pos (by omega), if_pos (by omega), if_pos (by omega), e, List.drop_eq_getElem_cons hi]
    generalize fs[i] = f at *
    obtain ⟨m, hm⟩ : ∃ m : Nat, f.f1 = (m : Int) := ⟨f.f1.toNat, by omega⟩
    have ew : wr (f :: fs.drop (i + 1)) = be m f.f0 ++ wr (fs.drop (i + 1)) := by simp [wr, hm]
    rw [ew, hm, wrap_id (i := (m : Int) - 1) (by omega) (by omega)]
    refine write_l1 fs (i : Int) f.f0 (m : Int) _ (d * 20 + 10) m (by omega) acc k (by omega) (by omega) (fun k hk => ?_)
    rw [wrap_id (i := (i : Int) + 1) (by omega) (by omega)]
    have := write_from fs h8 hn d (i + 1) (acc ++ be m f.f0) k (by omega) (by rw [List.length_append, be_len]; omega) hk
    rw [List.append_assoc] at this
    exact this
theorem write_spec (acc : List Int) (fs : List Px.S42) (h8 : ∀ f ∈ fs, 0 ≤ f.f1 ∧ f.f1 ≤ 8) (hn : fs.length ≤ 10) (ha : acc.length ≤ 100) (k : Nat) (hk : 300 < k) : Px.seal_write.f k acc fs = some (acc ++ wr fs) :=
  write_from fs h8 hn fs.length 0 acc k (by omega) (by omega) (by omega)

/-! ### Put -/
def putL (e p : Int) (b : ByteArray) : List Int := ((be 8 e ++ (be 4 p ++ be 4 (b.size : Int))) ++ bytesOf b) ++ List.replicate (40 - b.size) 0
def sealL (e p : Int) (b : ByteArray) : List Int := putL e p b ++ be 8 (sumL (putL e p b))
def sealB (e p : Int) (b : ByteArray) : ByteArray := strOfNums (sealL e p b)
def placedB (e p : Int) : Bool := decide (0 ≤ e ∧ e ≤ 1000000000 ∧ 0 ≤ p ∧ p < 4000)
theorem placed_spec (e p : Int) : Px.seal_placed.f e p = some (placedB e p) := by
  unfold Px.seal_placed.f placedB
  by_cases h1 : e ≥ 0
  · rw [if_pos h1]
    by_cases h2 : e ≤ 1000000000
    · rw [if_pos h2]
      by_cases h3 : p ≥ 0
      · rw [if_pos h3]; congr 1; rw [decide_eq_decide]; constructor
        · intro h; exact ⟨h1, h2, h3, h⟩
        · intro h; exact h.2.2.2
      · rw [if_neg h3, decide_eq_false (fun h => h3 h.2.2.1)]
    · rw [if_neg h2, decide_eq_false (fun h => h2 h.2.1)]
  · rw [if_neg h1, decide_eq_false (fun h => h1 h.1)]
theorem putL_len (e p : Int) (b : ByteArray) (hb : b.size ≤ 40) : (putL e p b).length = 56 := by
  simp only [putL, List.length_append, be_len, bytes_len, List.length_replicate]; omega
theorem putL_byte (e p : Int) (b : ByteArray) : ∀ x ∈ putL e p b, Byte x := by
  intro x hx
  simp only [putL, List.mem_append] at hx
  rcases hx with ((hx | hx | hx) | hx) | hx
  · exact be_byte _ _ x hx
  · exact be_byte _ _ x hx
  · exact be_byte _ _ x hx
  · exact bytes_byte _ x hx
  · obtain ⟨_, rfl⟩ := List.mem_replicate.1 hx
    exact ⟨by omega, by omega⟩
theorem sealL_byte (e p : Int) (b : ByteArray) : ∀ x ∈ sealL e p b, Byte x := by
  intro x hx
  rcases List.mem_append.1 hx with hx | hx
  · exact putL_byte e p b x hx
  · exact be_byte _ _ x hx
theorem sealL_len (e p : Int) (b : ByteArray) (hb : b.size ≤ 40) : (sealL e p b).length = 64 := by
  unfold sealL; rw [List.length_append, putL_len e p b hb, be_len]
theorem sealB_size (e p : Int) (b : ByteArray) (hb : b.size ≤ 40) : (sealB e p b).size = 64 := by unfold sealB; rw [strOfNums_size, sealL_len e p b hb]
theorem sealB_bytes (e p : Int) (b : ByteArray) : bytesOf (sealB e p b) = sealL e p b := bytes_str _ (sealL_byte e p b)
def putZ (e p : Int) (b : ByteArray) : ByteArray × Int := if placedB e p = true then (if b.size ≤ 40 then (sealB e p b, 0) else (⟨#[]⟩, 3)) else (⟨#[]⟩, 1)
theorem put_spec (e p : Int) (b : ByteArray) (k : Nat) (hk : 300 < k) : Px.seal_Put.f k e p b = some (putZ e p b) := by
  unfold Px.seal_Put.f putZ
  rw [placed_spec]
  simp only [Option.bind_some]
  by_cases hp : placedB e p = true
  · rw [if_pos hp, if_pos hp]
    by_cases hb : b.size ≤ 40
    · rw [if_neg (by omega), if_pos hb, write_spec _ _ (by intro f hf; simp at hf; rcases hf with rfl | rfl | rfl <;> simp) (by simp) (by simp) k hk]
      simp only [Option.bind_some, wr, List.map_cons, List.map_nil, List.flatten_cons, List.flatten_nil, List.append_nil, List.replicate_zero, List.nil_append, show (8 : Int).toNat = 8 from rfl, show (4 : Int).toNat = 4 from rfl]
      have hl : (be 8 e ++ (be 4 p ++ be 4 (b.size : Int))).length = 16 := by simp only [List.length_append, be_len]
      have hl2 : ((be 8 e ++ (be 4 p ++ be 4 (b.size : Int))) ++ bytesOf b).length = 16 + b.size := by rw [List.length_append, hl, bytes_len]
      rw [hl, if_pos (by omega), hl2, wrap_id (by omega) (by omega), if_pos (by omega), show (56 - ((16 + b.size : Nat) : Int)).toNat = 40 - b.size by omega, if_pos (by omega)]
      have hput : ((be 8 e ++ (be 4 p ++ be 4 (b.size : Int))) ++ bytesOf b) ++ List.replicate (40 - b.size) 0 = putL e p b := rfl
      rw [hput, sum_spec _ (by rw [strOfNums_size, putL_len e p b hb]; omega) k (by rw [strOfNums_size, putL_len e p b hb]; omega), bytes_str _ (putL_byte e p b)]
      simp only [Option.bind_some]
      rw [write_spec _ _ (by intro f hf; simp at hf; subst hf; simp) (by simp) (by rw [putL_len e p b hb]; omega) k hk]
      simp only [Option.bind_some, wr, List.map_cons, List.map_nil, List.flatten_cons, List.flatten_nil, List.append_nil, show (8 : Int).toNat = 8 from rfl]
      rfl
    · rw [if_pos (by omega), if_neg hb]
  · rw [if_neg hp, if_neg hp]
end Go.Proofs.YtgblfdfagppejaaDoor.Pl
