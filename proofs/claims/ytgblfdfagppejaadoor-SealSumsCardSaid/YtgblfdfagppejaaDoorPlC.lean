/- The Seal functions' plain laws: a sealed sector opens as itself; the head is true. -/
import Derived.Test.YtgblfdfagppejaaDoorPlB
import Derived.Test.YtgblfdfagppejaaDoorPx2
set_option linter.unusedVariables false
set_option linter.unusedSimpArgs false
namespace Go.Proofs.YtgblfdfagppejaaDoor.Pl
open Go.RowKit Go.Proofs.YtgblfdfagppejaaDoorW.PrintWords Go.Proofs.YtgblfdfagppejaaDoorW.PrintMore
theorem head400 : Px.cleanselaw45_head.f 400 = some true := by decide +kernel
theorem head_spec (k : Nat) (hk : 400 ≤ k) : Px.cleanselaw45_head.f k = some true := by
  obtain ⟨n, rfl⟩ : ∃ n, k = 400 + n := ⟨k - 400, by omega⟩
  induction n with
  | zero => exact head400
  | succ n ih => exact Px.cleanselaw45_head.mono (400 + n) _ (ih (by omega))
theorem bytes_extract (s : ByteArray) (i j : Nat) : bytesOf (s.extract i j) = ((bytesOf s).take j).drop i := by
  unfold bytesOf
  rw [← List.map_take, ← List.map_drop]
  congr 1
  rw [ByteArray.data_extract, Array.toList_extract]
  rw [List.extract_eq_take_drop, List.drop_take]
theorem open_seal (e p : Int) (b : ByteArray) (hp : placedB e p = true) (hb : b.size ≤ 40) : openZ (sealB e p b) = some (e, p, b) := by
  have hp' := of_decide_eq_true hp
  have hd : ∀ i j, cutL (sealB e p b) i j = ((sealL e p b).take j).drop i := fun i j => by unfold cutL; rw [sealB_bytes]
  have hs : sealL e p b = be 8 e ++ (be 4 p ++ (be 4 (b.size : Int) ++ (bytesOf b ++ (List.replicate (40 - b.size) 0 ++ be 8 (sumL (putL e p b)))))) := by
    unfold sealL putL; simp only [List.append_assoc]
  have l8 : (be 8 e).length = 8 := be_len 8 e
  have l4 : (be 4 p).length = 4 := be_len 4 p
  have l4' : (be 4 (b.size : Int)).length = 4 := be_len 4 _
  have lb := bytes_len b
  have c1 : cutL (sealB e p b) 0 8 = be 8 e := by
    rw [hd, hs, List.drop_zero, List.take_append_of_le_length (by omega), List.take_of_length_le (by omega)]
  have c2 : cutL (sealB e p b) 8 12 = be 4 p := by
    rw [hd, hs, List.drop_take, List.drop_append_of_le_length (by omega), List.drop_of_length_le (by omega), List.nil_append, List.take_append_of_le_length (by omega), List.take_of_length_le (by omega)]
  have c3 : cutL (sealB e p b) 12 16 = be 4 (b.size : Int) := by
    rw [hd, hs, ← List.append_assoc, List.drop_take, List.drop_append_of_le_length (by rw [List.length_append]; omega), List.drop_of_length_le (by rw [List.length_append]; omega), List.nil_append, List.take_append_of_le_length (by omega), List.take_of_length_le (by omega)]
  have r1 : readZ 0 (cutL (sealB e p b) 0 8) = (e, true) := by rw [c1]; exact readZ_be8 e (by omega) (by omega)
  have r2 : readZ 0 (cutL (sealB e p b) 8 12) = (p, true) := by rw [c2]; exact readZ_be4 p (by omega) (by omega)
  have r3 : readZ 0 (cutL (sealB e p b) 12 16) = ((b.size : Int), true) := by rw [c3]; exact readZ_be4 _ (by omega) (by omega)
  have hbody : (sealB e p b).extract 16 (16 + (b.size : Int)).toNat = b := by
    apply bytes_inj
    rw [bytes_extract, sealB_bytes, hs, show (16 + (b.size : Int)).toNat = 16 + b.size by omega, ← List.append_assoc, ← List.append_assoc, List.drop_take,
      List.drop_append_of_le_length (by simp only [List.length_append]; omega), List.drop_of_length_le (by simp only [List.length_append]; omega), List.nil_append, List.take_append_of_le_length (by omega), List.take_of_length_le (by omega)]
  unfold openZ
  rw [if_pos (sealB_size e p b hb), r1, r2, r3]
  simp only
  rw [hbody, if_pos ⟨trivial, trivial, trivial, by omega⟩, if_pos ⟨hp, rfl⟩]
theorem open_some {s : ByteArray} {x y : Int} {b : ByteArray} (h : openZ s = some (x, y, b)) : placedB x y = true ∧ b.size ≤ 40 ∧ sealB x y b = s := by
  unfold openZ at h
  split at h
  case isFalse => cases h
  rename_i h64
  split at h
  case isFalse => cases h
  rename_i hc
  split at h
  case isFalse => cases h
  rename_i hq
  have h := Option.some.inj h
  simp only [Prod.mk.injEq] at h
  obtain ⟨rfl, rfl, rfl⟩ := h
  have n3 := readZ_nonneg (cutL s 12 16) 0 (cutL_byte s 12 16) (by omega)
  exact ⟨hq.1, by rw [ByteArray.size_extract]; omega, hq.2⟩
theorem get_seal (e p x y : Int) (b : ByteArray) (hp : placedB e p = true) (hb : b.size ≤ 40) : getZ x y (sealB e p b) = if placedB x y = true then (if e = x ∧ p = y then (b, 0) else (⟨#[]⟩, 21)) else (⟨#[]⟩, 1) := by
  unfold getZ
  rw [open_seal e p b hp hb]
theorem toList_inj {a b : ByteArray} : a.toList = b.toList ↔ a = b := X.toList_inj
theorem tl_bne (a b : ByteArray) : (a.toList != b.toList) = decide (a ≠ b) := by
  rw [Bool.eq_iff_iff]; simp [toList_inj]
theorem tl_beq (a b : ByteArray) : (a.toList == b.toList) = decide (a = b) := by
  rw [Bool.eq_iff_iff]; simp [toList_inj]
theorem empty_list : ((⟨#[]⟩ : ByteArray).toList == ([] : List UInt8)) = true := by rw [ByteArray.toList_eq]; rfl
end Go.Proofs.YtgblfdfagppejaaDoor.Pl
