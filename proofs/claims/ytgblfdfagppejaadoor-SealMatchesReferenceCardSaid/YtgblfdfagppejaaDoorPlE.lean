/- The reference's Seal functions answer as the plain laws of Seal's: lists of texts, numbers, Put, Get. -/
import Derived.Test.YtgblfdfagppejaaDoorPlD
import Derived.Test.YtgblfdfagppejaaDoorPx3
import Derived.Test.YtgblfdfagppejaaDoorPx4
set_option linter.unusedVariables false
set_option linter.unusedSimpArgs false
namespace Go.Proofs.YtgblfdfagppejaaDoor.Pl
open Go.RowKit Go.Proofs.YtgblfdfagppejaaDoorW.PrintWords Go.Proofs.YtgblfdfagppejaaDoorW.PrintMore
theorem rdOf_at {l : List ByteArray} {i : Nat} (h : i < l.length) : rdOf ByteArray.empty l (i : Int) = l[i] := by
  simp [rdOf, List.getD_eq_getElem?_getD, h]
theorem drop_iff {α : Type} [DecidableEq α] (a b : List α) (i : Nat) (hi : i < a.length) (hi' : i < b.length) : decide (a.drop i = b.drop i) = (decide (a[i] = b[i]) && decide (a.drop (i + 1) = b.drop (i + 1))) := by
  rw [List.drop_eq_getElem_cons hi, List.drop_eq_getElem_cons hi', ← Bool.decide_and]
  exact decide_eq_decide.2 ⟨fun h => List.cons.inj h, fun ⟨h1, h2⟩ => by rw [h1, h2]⟩
theorem same_loop (a b : List ByteArray) (hm : a.length ≤ 9223372036854775807) (hl : a.length = b.length) : ∀ (d i k : Nat), i + d = a.length → d < k → Px.cleanseref45_Same.l0 k a b (i : Int) = some (decide (a.drop i = b.drop i))
  | 0, i, k, h, hk => by
    obtain ⟨k, rfl⟩ : ∃ m, k = m + 1 := ⟨k - 1, by omega⟩
    simp only [Px.cleanseref45_Same.l0]
    rw [if_neg (by omega), List.drop_of_length_le (by omega), List.drop_of_length_le (by omega)]
    simp
  | d + 1, i, k, h, hk => by
    obtain ⟨k, rfl⟩ : ∃ m, k = m + 1 := ⟨k - 1, by omega⟩
    have hi : i < a.length := by omega
    have hi' : i < b.length := by omega
    simp only [Px.cleanseref45_Same.l0]
    rw [if_pos (by omega), if_pos (by omega), if_pos (by omega), rdOf_at hi, rdOf_at hi', drop_iff a b i hi hi', wrap_id (by omega) (by omega)]
    by_cases e : a[i] = b[i]
    · rw [if_pos (by rw [e]), show ((i : Int) + 1) = ((i + 1 : Nat) : Int) by omega, same_loop a b hm hl d (i + 1) k (by omega) (by omega)]
      simp [e]
    · rw [if_neg (fun h => e (toList_inj.1 h))]
      simp [e]
theorem same_spec (a b : List ByteArray) (hm : a.length ≤ 9223372036854775807) (k : Nat) (hk : a.length < k) : Px.cleanseref45_Same.f k a b = some (decide (a = b)) := by
  unfold Px.cleanseref45_Same.f
  by_cases h : a.length = b.length
  · rw [if_pos (by omega), show (0 : Int) = ((0 : Nat) : Int) from rfl, same_loop a b hm h a.length 0 k (by omega) hk]
    simp
  · rw [if_neg (by omega)]
    simp; intro e; exact h (by rw [e])
theorem equal_loop (a b : List ByteArray) (hm : a.length ≤ 9223372036854775807) (hl : a.length = b.length) : ∀ (d i k : Nat), i + d = a.length → d < k → Px.slices_Equal_string_string.l0 k a b (a.length : Int) (i : Int) = some (decide (a.drop i = b.drop i))
  | 0, i, k, h, hk => by
    obtain ⟨k, rfl⟩ : ∃ m, k = m + 1 := ⟨k - 1, by omega⟩
    simp only [Px.slices_Equal_string_string.l0]
    rw [if_neg (by omega), List.drop_of_length_le (by omega), List.drop_of_length_le (by omega)]
    simp
  | d + 1, i, k, h, hk => by
    obtain ⟨k, rfl⟩ : ∃ m, k = m + 1 := ⟨k - 1, by omega⟩
    have hi : i < a.length := by omega
    have hi' : i < b.length := by omega
    simp only [Px.slices_Equal_string_string.l0]
    rw [if_pos (by omega), if_pos (by omega), if_pos (by omega), if_pos (by omega), rdOf_at hi, rdOf_at hi', drop_iff a b i hi hi', wrap_id (by omega) (by omega)]
    by_cases e : a[i] = b[i]
    · rw [if_pos (by rw [e]), show ((i : Int) + 1) = ((i + 1 : Nat) : Int) by omega, equal_loop a b hm hl d (i + 1) k (by omega) (by omega)]
      simp [e]
    · rw [if_neg (fun h => e (toList_inj.1 h))]
      simp [e]
theorem equal_spec (a b : List ByteArray) (hm : a.length ≤ 9223372036854775807) (k : Nat) (hk : a.length < k) : Px.slices_Equal_string_string.f k a b = some (decide (a = b)) := by
  unfold Px.slices_Equal_string_string.f
  by_cases h : a.length = b.length
  · rw [if_pos (by omega), show (0 : Int) = ((0 : Nat) : Int) from rfl, equal_loop a b hm h a.length 0 k (by omega) hk]
    simp
  · rw [if_neg (by omega)]
    simp; intro e; exact h (by rw [e])
theorem bytes_loop (l : List ByteArray) (hm : l.length ≤ 9223372036854775807) : ∀ (d i k : Nat), i + d = l.length → d < k → ∃ r, Px.cleanseref45_Bytes.l0 k l (i : Int) = some r ∧ (r = true → l.length ≤ 40 ∧ ∀ s ∈ l.drop i, s.size ≤ 200)
  | 0, i, k, h, hk => by
    obtain ⟨k, rfl⟩ : ∃ m, k = m + 1 := ⟨k - 1, by omega⟩
    simp only [Px.cleanseref45_Bytes.l0]
    rw [if_neg (by omega), List.drop_of_length_le (by omega)]
    exact ⟨_, rfl, fun h => ⟨by have := of_decide_eq_true h; omega, by simp⟩⟩
  | d + 1, i, k, h, hk => by
    obtain ⟨k, rfl⟩ : ∃ m, k = m + 1 := ⟨k - 1, by omega⟩
    have hi : i < l.length := by omega
    obtain ⟨r, hr, hr2⟩ := bytes_loop l hm d (i + 1) k (by omega) (by omega)
    simp only [Px.cleanseref45_Bytes.l0]
    rw [if_pos (by omega), if_pos (by omega), rdOf_at hi, wrap_id (by omega) (by omega), List.drop_eq_getElem_cons hi]
    by_cases c : (l[i].size : Int) > 200
    · rw [if_pos c]; exact ⟨false, rfl, fun h => by cases h⟩
    · rw [if_neg c]
      refine ⟨r, hr, fun h => ⟨(hr2 h).1, fun s hs => ?_⟩⟩
      rcases List.mem_cons.1 hs with rfl | hs
      · omega
      · exact (hr2 h).2 s hs
theorem bytes_spec (l : List ByteArray) (hm : l.length ≤ 9223372036854775807) (k : Nat) (hk : l.length < k) : ∃ r, Px.cleanseref45_Bytes.f k l = some r ∧ (r = true → l.length ≤ 40 ∧ ∀ s ∈ l, s.size ≤ 200) :=
  bytes_loop l hm l.length 0 k (by omega) hk

/-! ### numbers, Sum, Put -/
theorem refSum_loop (s : ByteArray) (hs : s.size ≤ 140737488355328) : ∀ (d i k : Nat), i + d = s.size → d < k → Px.cleanseref45_Sum.l0 k s (sumL ((bytesOf s).take i)) (i : Int) = some (sumL (bytesOf s))
  | 0, i, k, h, hk => by
    obtain ⟨k, rfl⟩ : ∃ m, k = m + 1 := ⟨k - 1, by omega⟩
    simp only [Px.cleanseref45_Sum.l0]
    rw [if_neg (by omega), List.take_of_length_le (by rw [bytes_len]; omega)]
  | d + 1, i, k, h, hk => by
    obtain ⟨k, rfl⟩ : ∃ m, k = m + 1 := ⟨k - 1, by omega⟩
    have hi : i < (bytesOf s).length := by rw [bytes_len]; omega
    have hb := bytes_byte s _ (List.getElem_mem hi)
    have hsum := sumL_bd ((bytesOf s).take i)
    have next := refSum_loop s hs d (i + 1) k (by omega) (by omega)
    have e : sumL ((bytesOf s).take (i + 1)) = step (sumL ((bytesOf s).take i)) (bytesOf s)[i] := by
      rw [List.take_succ_eq_append_getElem hi]
      unfold sumL sumFrom
      rw [List.foldl_append]
      rfl
    rw [e] at next
    simp only [Px.cleanseref45_Sum.l0]
    rw [if_pos (by omega), if_pos (by omega), bt_at s i (by omega)]
    generalize (bytesOf s)[i] = b at *
    generalize sumL ((bytesOf s).take i) = t at *
    unfold Byte at hb
    have e1 : Int.tmod (wrap64 (wrap64 (wrap64 (t * 257) + wrap64 b) + 1)) 2147483647 = step t b := by
      rw [wrap_id (i := t * 257) (by omega) (by omega), wrap_id (i := b) (by omega) (by omega), wrap_id (i := t * 257 + b) (by omega) (by omega), wrap_id (by omega) (by omega), Int.tmod_eq_emod_of_nonneg (by omega)]
      rfl
    rw [e1, wrap_id (i := (i : Int) + 1) (by omega) (by omega)]
    exact next
theorem refSum_spec (s : ByteArray) (hs : s.size ≤ 140737488355328) (k : Nat) (hk : s.size < k) : Px.cleanseref45_Sum.f k s = some (sumL (bytesOf s)) := refSum_loop s hs s.size 0 k (by omega) hk
theorem str_app (l m : List Int) : strOfNums l ++ strOfNums m = strOfNums (l ++ m) := by
  unfold strOfNums
  rw [List.map_append]
  exact (ByteArray.ext (by simp)).symm
theorem number_loop (v : Int) (h0 : 0 ≤ v) (h1 : v ≤ 9223372036854775807) (n : Nat) (hn : n ≤ 8) : ∀ (d t k : Nat), t + d = n → d < k → Px.cleanseref45_number.l0 k (v / 256 ^ t) (n : Int) (strOfNums (be t v)) (t : Int) = some (strOfNums (be n v))
  | 0, t, k, h, hk => by
    obtain ⟨k, rfl⟩ : ∃ m, k = m + 1 := ⟨k - 1, by omega⟩
    simp only [Px.cleanseref45_number.l0]
    rw [if_neg (by omega), show t = n by omega]
  | d + 1, t, k, h, hk => by
    obtain ⟨k, rfl⟩ : ∃ m, k = m + 1 := ⟨k - 1, by omega⟩
    have next := number_loop v h0 h1 n hn d (t + 1) k (by omega) (by omega)
    have hle : v / 256 ^ t ≤ v := Int.ediv_le_self _ h0
    have hnn : 0 ≤ v / 256 ^ t := Int.ediv_nonneg h0 (Int.pow_nonneg (by omega))
    rw [div_pow, be] at next
    simp only [Px.cleanseref45_number.l0]
    rw [if_pos (by omega)]
    simp only [Option.bind_some]
    have hl := be_len t v
    generalize hq : v / 256 ^ t = q at *
    have e1 : Int.tmod q 256 % 256 = q % 256 := by rw [Int.tmod_eq_emod_of_nonneg hnn]; omega
    have e2 : wrap64 (Int.tdiv q 256) = q / 256 := by rw [Int.tdiv_eq_ediv_of_nonneg hnn, wrap_id (by omega) (by omega)]
    rw [e1, e2, strOfNums_size, strOfNums_size, hl, if_pos (by simp; omega), str_app, wrap_id (i := (t : Int) + 1) (by omega) (by omega)]
    exact next
theorem number_spec (v : Int) (h0 : 0 ≤ v) (h1 : v ≤ 9223372036854775807) (n : Nat) (hn : n ≤ 8) (k : Nat) (hk : 8 < k) : Px.cleanseref45_number.f k v (n : Int) = some (strOfNums (be n v)) := by
  have h := number_loop v h0 h1 n hn n 0 k (by omega) (by omega)
  rw [Int.pow_zero, Int.ediv_one] at h
  exact h
theorem pad_loop (L : List Int) (hL : ∀ b ∈ L, Byte b) : ∀ (d : Nat) (M : List Int) (k : Nat), M.length + d = 56 → d + 100 < k → M ++ List.replicate d 0 = L → Px.cleanseref45_Put.l0 k (strOfNums M) = some (strOfNums (L ++ be 8 (sumL L)), 0)
  | 0, M, k, h, hk, hM => by
    obtain ⟨k, rfl⟩ : ∃ m, k = m + 1 := ⟨k - 1, by omega⟩
    rw [List.replicate_zero, List.append_nil] at hM
    subst hM
    have hs := sumL_bd M
    simp only [Px.cleanseref45_Put.l0]
    rw [strOfNums_size, if_neg (by omega), refSum_spec _ (by rw [strOfNums_size]; omega) k (by rw [strOfNums_size]; omega), bytes_str M hL]
    simp only [Option.bind_some]
    rw [show (8 : Int) = ((8 : Nat) : Int) from rfl, number_spec _ hs.1 (by omega) 8 (by omega) k (by omega)]
    simp only [Option.bind_some]
    rw [strOfNums_size, be_len, if_pos (by omega), str_app]
  | d + 1, M, k, h, hk, hM => by
    obtain ⟨k, rfl⟩ : ∃ m, k = m + 1 := ⟨k - 1, by omega⟩
    simp only [Px.cleanseref45_Put.l0]
    rw [strOfNums_size, if_pos (by omega), show (1 : Int) = ((1 : Nat) : Int) from rfl, number_spec 0 (by omega) (by omega) 1 (by omega) k (by omega)]
    simp only [Option.bind_some]
    rw [strOfNums_size, be_len, if_pos (by omega), str_app]
    refine pad_loop L hL d (M ++ be 1 0) k (by rw [List.length_append, be_len]; omega) (by omega) ?_
    rw [← hM, List.append_assoc]
    rfl
theorem refPlaced_spec (e p : Int) : Px.cleanseref45_Placed.f e p = some (placedB e p) := by
  have h := placed_spec e p
  unfold Px.seal_placed.f at h
  unfold Px.cleanseref45_Placed.f
  exact h
theorem refPut_spec (e p : Int) (b : ByteArray) (k : Nat) (hk : 300 < k) : Px.cleanseref45_Put.f k e p b = some (putZ e p b) := by
  unfold Px.cleanseref45_Put.f putZ
  rw [refPlaced_spec]
  simp only [Option.bind_some]
  by_cases hp : placedB e p = true
  · have hp' := of_decide_eq_true hp
    rw [if_pos hp, if_pos hp]
    by_cases hb : b.size ≤ 40
    · rw [if_neg (by omega), if_pos hb, show (8 : Int) = ((8 : Nat) : Int) from rfl, show (4 : Int) = ((4 : Nat) : Int) from rfl, number_spec e (by omega) (by omega) 8 (by omega) k (by omega), number_spec p (by omega) (by omega) 4 (by omega) k (by omega), number_spec (b.size : Int) (by omega) (by omega) 4 (by omega) k (by omega)]
      simp only [Option.bind_some]
      have e1 : ((strOfNums (be 8 e) ++ strOfNums (be 4 p)) ++ strOfNums (be 4 (b.size : Int))) ++ b = strOfNums ((be 8 e ++ (be 4 p ++ be 4 (b.size : Int))) ++ bytesOf b) := by
        rw [← str_app, str_bytes, ← str_app, ← str_app]
        simp only [ByteArray.append_assoc]
      rw [e1]
      simp only [ByteArray.size_append, strOfNums_size, be_len]
      rw [if_pos (by omega), if_pos (by omega), if_pos (by omega)]
      refine pad_loop (putL e p b) (putL_byte e p b) (40 - b.size) _ k ?_ (by omega) rfl
      simp only [List.length_append, be_len, bytes_len]; omega
    · rw [if_pos (by omega), if_neg hb]
  · rw [if_neg hp, if_neg hp]
end Go.Proofs.YtgblfdfagppejaaDoor.Pl
