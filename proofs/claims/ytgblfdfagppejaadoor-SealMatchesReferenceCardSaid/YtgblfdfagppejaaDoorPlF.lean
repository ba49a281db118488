/- Texts cut into parts and joined again, in plain Lean: the first colon of a headed text; which parts join to which text. -/
import Derived.Test.YtgblfdfagppejaaDoorPlE
set_option linter.unusedVariables false
set_option linter.unusedSimpArgs false
namespace Go.Proofs.YtgblfdfagppejaaDoor.Pl
open Go.RowKit Go.Proofs.YtgblfdfagppejaaDoorW.PrintWords Go.Proofs.YtgblfdfagppejaaDoorW.PrintMore
open X (chop splitB headed cutAt chop_more chop_last)
theorem dig_toNat {d : Nat} (h : d < 10) : (UInt8.ofNat (48 + d)).toNat = 48 + d := by
  rw [UInt8.toNat_ofNat']; omega
theorem dec_digits (u : Nat) : ∀ c ∈ Lib.decDigits u, 48 ≤ c.toNat ∧ c.toNat ≤ 57 := by
  induction u using Nat.strongRecOn with
  | _ u ih =>
    rw [Lib.decDigits]
    split
    · rename_i h
      intro c hc
      simp only [List.mem_singleton] at hc
      subst hc
      rw [dig_toNat h]; omega
    · rename_i h
      intro c hc
      rcases List.mem_append.1 hc with hc | hc
      · exact ih (u / 10) (by omega) c hc
      · simp only [List.mem_singleton] at hc
        subst hc
        rw [dig_toNat (by omega)]; omega
theorem dec_len : ∀ (n u : Nat), u < 10 ^ (n + 1) → (Lib.decDigits u).length ≤ n + 1
  | 0, u, h => by rw [Lib.decDigits, dif_pos (by omega)]; simp
  | n + 1, u, h => by
    rw [Lib.decDigits]
    split
    · simp
    · have := dec_len n (u / 10) (by rw [Nat.pow_succ] at h; generalize 10 ^ (n + 1) = q at *; omega)
      rw [List.length_append]; simp; omega
theorem itoa_nat (n : Nat) : Lib.itoa (n : Int) = Lib.decDigits n := by
  unfold Lib.itoa
  rw [if_neg (by omega)]; rfl
theorem itoa_58 (n : Nat) : ∀ c ∈ Lib.itoa (n : Int), c ≠ 58 := by
  intro c hc
  rw [itoa_nat] at hc
  have := dec_digits n c hc
  rintro rfl
  simp at this
theorem index_app (c : UInt8) : ∀ (p r : List UInt8), (∀ x ∈ p, x ≠ c) → Lib.indexByte (p ++ c :: r) c = p.length
  | [], r, _ => by simp [Lib.indexByte]
  | x :: p, r, h => by
    have ih := index_app c p r (fun y hy => h y (List.mem_cons_of_mem _ hy))
    have hx := h x List.mem_cons_self
    rw [List.cons_append, Lib.indexByte, ih, if_neg (by simpa using hx), if_neg (by simp)]
    simp
theorem size_list (s : ByteArray) : s.data.toList.length = s.size := by rw [Array.length_toList]; rfl
theorem ext_list (s : ByteArray) (i j : Nat) : (s.extract i j).data.toList = (s.data.toList.take j).drop i := by
  rw [ByteArray.data_extract, Array.toList_extract, List.extract, List.drop_take]
theorem app_list (a b : ByteArray) : (a ++ b).data.toList = a.data.toList ++ b.data.toList := by simp
theorem headed_list (t : ByteArray) : (headed t).data.toList = Lib.itoa (t.size : Int) ++ 58 :: t.data.toList := by
  unfold headed
  rw [app_list, app_list, List.append_assoc]
  rfl
theorem data_inj {a b : ByteArray} (h : a.data.toList = b.data.toList) : a = b := toList_inj.1 (by rw [ByteArray.toList_eq, ByteArray.toList_eq, h])
def catB (l : List ByteArray) : ByteArray := ⟨((l.map (·.data.toList)).flatten).toArray⟩
theorem catB_list (l : List ByteArray) : (catB l).data.toList = (l.map (·.data.toList)).flatten := rfl
theorem chop_cat : ∀ (n : Nat) (s : ByteArray), s.size ≤ n → ((chop s).map (·.data.toList)).flatten = s.data.toList
  | 0, s, h => by rw [chop_last (by omega)]; simp
  | n + 1, s, h => by
    by_cases c : 40 < s.size
    · rw [chop_more c, List.map_cons, List.flatten_cons, chop_cat n _ (by rw [ByteArray.size_extract]; omega), ext_list, ext_list, ← size_list s, List.take_length, List.drop_zero, List.take_append_drop]
    · rw [chop_last c]; simp
theorem cat_split (t : ByteArray) : catB (splitB t) = headed t := data_inj (by rw [catB_list]; exact chop_cat _ _ (Nat.le_refl _))
theorem cut_headed (t : ByteArray) : (cutAt (headed t) 58).2.2 = true ∧ (cutAt (headed t) 58).2.1 = t := by
  have h := index_app 58 (Lib.itoa (t.size : Int)) t.data.toList (itoa_58 _)
  rw [← headed_list] at h
  unfold cutAt
  rw [h, if_pos (by omega)]
  refine ⟨rfl, data_inj ?_⟩
  show ((headed t).extract _ _).data.toList = _
  rw [ext_list, ← size_list (headed t), List.take_length, headed_list, Int.toNat_natCast, List.drop_append, List.drop_of_length_le (by omega)]
  simp
def joinZ (l : List ByteArray) : ByteArray × Int :=
  if (cutAt (catB l) 58).2.2 = true ∧ splitB (cutAt (catB l) 58).2.1 = l then ((cutAt (catB l) 58).2.1, 0) else (⟨#[]⟩, 4)
theorem joinZ_of (t : ByteArray) : joinZ (splitB t) = (t, 0) := by
  unfold joinZ
  rw [cat_split, (cut_headed t).2, if_pos ⟨(cut_headed t).1, rfl⟩]
theorem joinZ_ok (l : List ByteArray) (h : (joinZ l).2 = 0) : splitB (joinZ l).1 = l := by
  unfold joinZ at h ⊢
  split
  · rename_i c; exact c.2
  · rename_i c; rw [if_neg c] at h; simp at h
theorem joinZ_none (l : List ByteArray) (h : ∀ t, splitB t ≠ l) : joinZ l = (⟨#[]⟩, 4) := by
  unfold joinZ
  rw [if_neg (fun c => h _ c.2)]
/-- A colon behind which the text is cut into these very parts stands behind the number. -/
theorem colon_at (l : List ByteArray) (i : Nat) (hi : i < (catB l).size) (h : splitB ((catB l).extract (i + 1) (catB l).size) = l) : joinZ l = ((catB l).extract (i + 1) (catB l).size, 0) := by
  have := joinZ_of ((catB l).extract (i + 1) (catB l).size)
  rwa [h] at this
theorem colon_first (l : List ByteArray) (t : ByteArray) (h : splitB t = l) : ∃ i, i = (Lib.itoa (t.size : Int)).length ∧ i < (catB l).size ∧ (catB l).data.toList[i]? = some 58 ∧ (catB l).extract (i + 1) (catB l).size = t := by
  subst h
  refine ⟨_, rfl, ?_, ?_, data_inj ?_⟩
  · rw [cat_split, ← size_list (headed t), headed_list]; simp
  · rw [cat_split, headed_list]; simp
  · rw [cat_split, ext_list, ← size_list (headed t), List.take_length, headed_list, List.drop_append, List.drop_of_length_le (by omega)]
    simp
theorem cat_size (l : List ByteArray) (t : ByteArray) (h : splitB t = l) : t.size < (catB l).size := by
  subst h
  rw [cat_split, ← size_list (headed t), headed_list, List.length_append, List.length_cons, size_list]
  omega
/-! ### the parts -/
theorem chop_parts : ∀ (n : Nat) (s : ByteArray), s.size ≤ n → 0 < s.size → ∀ (i : Nat) (h : i < (chop s).length), 0 < (chop s)[i].size ∧ (chop s)[i].size ≤ 40 ∧ (i + 1 < (chop s).length → (chop s)[i].size = 40)
  | 0, s, h, h0, i, hi => by omega
  | n + 1, s, h, h0, i, hi => by
    by_cases c : 40 < s.size
    · have hz : (s.extract 40 s.size).size = s.size - 40 := by rw [ByteArray.size_extract]; omega
      have hz0 : (s.extract 0 40).size = 40 := by rw [ByteArray.size_extract]; omega
      have ih := chop_parts n (s.extract 40 s.size) (by omega) (by omega)
      have e := chop_more c
      generalize chop s = l at *
      subst e
      cases i with
      | zero => simp only [List.getElem_cons_zero]; omega
      | succ i =>
        simp only [List.getElem_cons_succ]
        have := ih i (by simpa using hi)
        refine ⟨this.1, this.2.1, fun h => this.2.2 (by simpa using h)⟩
    · have e := chop_last c
      generalize chop s = l at *
      subst e
      have : i = 0 := by simpa using hi
      subst this
      simp only [List.getElem_cons_zero]
      refine ⟨h0, by omega, fun h => by simp at h⟩
theorem headed_pos (t : ByteArray) : 0 < (headed t).size := by rw [← size_list, headed_list]; simp; omega
theorem split_parts (t : ByteArray) (i : Nat) (h : i < (splitB t).length) : 0 < (splitB t)[i].size ∧ (splitB t)[i].size ≤ 40 ∧ (i + 1 < (splitB t).length → (splitB t)[i].size = 40) := chop_parts _ _ (Nat.le_refl _) (headed_pos t) i h
theorem split_pos (t : ByteArray) : 0 < (splitB t).length := by
  unfold splitB
  by_cases c : 40 < (headed t).size
  · rw [chop_more c]; simp
  · rw [chop_last c]; simp
end Go.Proofs.YtgblfdfagppejaaDoor.Pl
