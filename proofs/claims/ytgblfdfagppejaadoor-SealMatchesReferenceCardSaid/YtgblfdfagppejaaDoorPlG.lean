/- The reference's Get, Split and Join answer as the plain laws of Seal's; so does Seal's Join. -/
import Derived.Test.YtgblfdfagppejaaDoorPlF
set_option linter.unusedVariables false
set_option linter.unusedSimpArgs false
namespace Go.Proofs.YtgblfdfagppejaaDoor.Pl
open Go.RowKit Go.Proofs.YtgblfdfagppejaaDoorW.PrintWords Go.Proofs.YtgblfdfagppejaaDoorW.PrintMore
open X (chop splitB headed cutAt chop_more chop_last)
def valZ : Int → List Int → Int
  | acc, [] => acc
  | acc, b :: l => if acc * 256 + b > 4000000000 then -1 else valZ (acc * 256 + b) l
theorem value_loop (s : ByteArray) (hs : s.size ≤ 100) : ∀ (d i k : Nat) (acc : Int), i + d = s.size → d < k → 0 ≤ acc → acc ≤ 4000000000 → Px.cleanseref45_value.l0 k s acc (i : Int) = some (valZ acc ((bytesOf s).drop i))
  | 0, i, k, acc, h, hk, h0, h1 => by
    obtain ⟨k, rfl⟩ : ∃ m, k = m + 1 := ⟨k - 1, by omega⟩
    simp only [Px.cleanseref45_value.l0]
    rw [if_neg (by omega), List.drop_of_length_le (by rw [bytes_len]; omega)]
    rfl
  | d + 1, i, k, acc, h, hk, h0, h1 => by
    obtain ⟨k, rfl⟩ : ∃ m, k = m + 1 := ⟨k - 1, by omega⟩
    have hi : i < (bytesOf s).length := by rw [bytes_len]; omega
    have hb := bytes_byte s _ (List.getElem_mem hi)
    simp only [Px.cleanseref45_value.l0]
    rw [if_pos (by omega), if_pos (by omega), bt_at s i (by omega), List.drop_eq_getElem_cons hi]
    generalize (bytesOf s)[i] = b at *
    unfold Byte at hb
    rw [wrap_id (i := acc * 256) (by omega) (by omega), wrap_id (i := b) (by omega) (by omega), wrap_id (i := acc * 256 + b) (by omega) (by omega), wrap_id (i := (i : Int) + 1) (by omega) (by omega)]
    unfold valZ
    by_cases c : acc * 256 + b > 4000000000
    · rw [if_pos c, if_pos c]
    · rw [if_neg c, if_neg c]
      exact value_loop s hs d (i + 1) k _ (by omega) (by omega) (by omega) (by omega)
theorem value_spec (s : ByteArray) (hs : s.size ≤ 100) (k : Nat) (hk : 100 < k) : Px.cleanseref45_value.f k s = some (valZ 0 (bytesOf s)) := value_loop s hs s.size 0 k 0 (by omega) (by omega) (by omega) (by omega)
theorem read_big : ∀ (l : List Int) (acc : Int), acc > 4000000000 → (readZ acc l).2 = false ∨ (readZ acc l).1 > 4000000000
  | [], acc, h => .inr h
  | b :: l, acc, h => by unfold readZ; rw [if_pos (by omega)]; exact .inl rfl
theorem val_read : ∀ (l : List Int) (acc : Int), (∀ b ∈ l, Byte b) → 0 ≤ acc → acc ≤ 4000000000 → ((readZ acc l).2 = true ∧ valZ acc l = (readZ acc l).1 ∧ 0 ≤ valZ acc l) ∨ (valZ acc l = -1 ∧ ((readZ acc l).2 = false ∨ (readZ acc l).1 > 4000000000))
  | [], acc, _, h0, h1 => .inl ⟨rfl, rfl, h0⟩
  | b :: l, acc, hb, h0, h1 => by
    have hbb := hb b List.mem_cons_self
    unfold Byte at hbb
    unfold valZ readZ
    by_cases c : acc * 256 + b > 4000000000
    · rw [if_pos c]
      by_cases c2 : acc ≥ 16777216
      · rw [if_pos c2]; exact .inr ⟨rfl, .inl rfl⟩
      · rw [if_neg c2]; exact .inr ⟨rfl, read_big l _ c⟩
    · rw [if_neg c, if_neg (by omega)]
      exact val_read l _ (fun x hx => hb x (List.mem_cons_of_mem _ hx)) (by omega) (by omega)
theorem not_placed {x y e p : Int} (h : placedB e p = true → x = e ∧ y = p) (hn : ¬ placedB x y = true) : ¬ placedB e p = true := by
  intro h1
  obtain ⟨rfl, rfl⟩ := h h1
  exact hn h1
theorem placed_bd {e p : Int} (h : placedB e p = true) : 0 ≤ e ∧ e ≤ 1000000000 ∧ 0 ≤ p ∧ p < 4000 := by
  have := of_decide_eq_true h
  omega
theorem refGet_spec (e p : Int) (s : ByteArray) (k : Nat) (hk : 400 < k) : Px.cleanseref45_Get.f k e p s = some (getZ e p s) := by
  unfold Px.cleanseref45_Get.f getZ
  rw [refPlaced_spec]
  simp only [Option.bind_some]
  by_cases hp : placedB e p = true
  · rw [if_pos hp, if_pos hp]
    unfold openZ
    by_cases hs : s.size = 64
    · rw [if_pos (c := (s.size : Int) = 64) (by omega), if_pos hs, if_pos (show 0 ≤ 8 by omega), if_pos (c := (8 : Int) ≤ (s.size : Int)) (by omega)]
      rw [value_spec (s.extract 0 8) (by rw [ByteArray.size_extract]; omega) k (by omega)]
      simp only [Option.bind_some]
      rw [if_pos (show 8 ≤ 12 by omega), if_pos (c := (12 : Int) ≤ (s.size : Int)) (by omega)]
      rw [value_spec (s.extract 8 12) (by rw [ByteArray.size_extract]; omega) k (by omega)]
      simp only [Option.bind_some]
      rw [if_pos (show 12 ≤ 16 by omega), if_pos (c := (16 : Int) ≤ (s.size : Int)) (by omega)]
      rw [value_spec (s.extract 12 16) (by rw [ByteArray.size_extract]; omega) k (by omega)]
      simp only [Option.bind_some]
      rw [bytes_extract, bytes_extract, bytes_extract]
      have v1 := val_read (cutL s 0 8) 0 (cutL_byte s 0 8) (by omega) (by omega)
      have v2 := val_read (cutL s 8 12) 0 (cutL_byte s 8 12) (by omega) (by omega)
      have v3 := val_read (cutL s 12 16) 0 (cutL_byte s 12 16) (by omega) (by omega)
      change (if valZ 0 (cutL s 12 16) < 0 then Px.cleanseref45_Get.j0 k e p s (valZ 0 (cutL s 0 8)) (valZ 0 (cutL s 8 12)) (valZ 0 (cutL s 12 16)) true else Px.cleanseref45_Get.j0 k e p s (valZ 0 (cutL s 0 8)) (valZ 0 (cutL s 8 12)) (valZ 0 (cutL s 12 16)) (decide (valZ 0 (cutL s 12 16) > 40))) = _
      generalize readZ 0 (cutL s 0 8) = x at *
      generalize readZ 0 (cutL s 8 12) = y at *
      generalize readZ 0 (cutL s 12 16) = z at *
      generalize valZ 0 (cutL s 0 8) = x' at *
      generalize valZ 0 (cutL s 8 12) = y' at *
      generalize valZ 0 (cutL s 12 16) = z' at *
      obtain ⟨k, rfl⟩ : ∃ m, k = m + 1 := ⟨k - 1, by omega⟩
      by_cases hz : 0 ≤ z' ∧ z' ≤ 40
      · rw [if_neg (by omega)]
        simp only [Px.cleanseref45_Get.j0]
        rw [if_neg (by simp; omega), wrap_id (i := 16 + z') (by omega) (by omega), if_pos (by omega), if_pos (by omega), refPut_spec _ _ _ k (by omega)]
        simp only [Option.bind_some]
        obtain ⟨z2, rfl, -⟩ : z.2 = true ∧ z' = z.1 ∧ 0 ≤ z' := by
          rcases v3 with h | h
          · exact h
          · omega
        have hbs : (s.extract 16 (16 + z.1).toNat).size ≤ 40 := by rw [ByteArray.size_extract]; omega
        generalize s.extract 16 (16 + z.1).toNat = b at *
        obtain ⟨k, rfl⟩ : ∃ m, k = m + 1 := ⟨k - 1, by omega⟩
        by_cases hq : placedB x' y' = true
        · have hq' := placed_bd hq
          obtain ⟨x2, rfl, -⟩ : x.2 = true ∧ x' = x.1 ∧ 0 ≤ x' := by
            rcases v1 with h | h
            · exact h
            · omega
          obtain ⟨y2, rfl, -⟩ : y.2 = true ∧ y' = y.1 ∧ 0 ≤ y' := by
            rcases v2 with h | h
            · exact h
            · omega
          have hput : putZ x.1 y.1 b = (sealB x.1 y.1 b, 0) := by unfold putZ; rw [if_pos hq, if_pos hbs]
          simp only [hput, ↓reduceIte]
          rw [if_pos (c := x.2 = true ∧ y.2 = true ∧ z.2 = true ∧ z.1 ≤ 40) ⟨x2, y2, z2, by omega⟩]
          simp only [Px.cleanseref45_Get.j1]
          by_cases hse : sealB x.1 y.1 b = s
          · rw [if_neg (by rw [tl_bne]; simpa using hse), if_pos (c := placedB x.1 y.1 = true ∧ sealB x.1 y.1 b = s) ⟨hq, hse⟩]
            show _ = some (if x.1 = e ∧ y.1 = p then (b, 0) else (⟨#[]⟩, 21))
            by_cases e1 : x.1 = e
            · by_cases e2 : y.1 = p
              · rw [if_pos e1, if_pos e2, if_pos ⟨e1, e2⟩]
              · rw [if_pos e1, if_neg e2, if_neg (fun h => e2 h.2)]
            · rw [if_neg e1, if_neg (fun h => e1 h.1)]
          · rw [if_pos (by rw [tl_bne]; simpa using hse), if_neg (fun h => hse h.2)]
        · have hput : putZ x' y' b = (⟨#[]⟩, 1) := by unfold putZ; rw [if_neg hq]
          simp only [hput, show ¬ ((1 : Int) = 0) by omega, ↓reduceIte]
          simp only [Px.cleanseref45_Get.j1]
          rw [if_pos trivial]
          by_cases hc : x.2 = true ∧ y.2 = true ∧ z.2 = true ∧ z.1 ≤ 40
          · rw [if_pos hc, if_neg (c := placedB x.1 y.1 = true ∧ _)]
            rintro ⟨hpl, -⟩
            have hb := placed_bd hpl
            have a1 : x' = x.1 := by
              rcases v1 with h | ⟨-, h | h⟩
              · exact h.2.1
              · rw [hc.1] at h; cases h
              · omega
            have a2 : y' = y.1 := by
              rcases v2 with h | ⟨-, h | h⟩
              · exact h.2.1
              · rw [hc.2.1] at h; cases h
              · omega
            rw [a1, a2] at hq
            exact hq hpl
          · rw [if_neg hc]
      · have hL : (if z' < 0 then Px.cleanseref45_Get.j0 (k + 1) e p s x' y' z' true else Px.cleanseref45_Get.j0 (k + 1) e p s x' y' z' (decide (z' > 40))) = some (⟨#[]⟩, 20) := by
          by_cases c : z' < 0
          · rw [if_pos c]; simp only [Px.cleanseref45_Get.j0]; rw [if_pos trivial]
          · rw [if_neg c]; simp only [Px.cleanseref45_Get.j0]; rw [if_pos (by simp; omega)]
        rw [hL, if_neg]
        rintro ⟨-, -, h3, h4⟩
        rcases v3 with h | ⟨-, h | h⟩
        · omega
        · rw [h3] at h; cases h
        · omega
    · rw [if_neg (by omega), if_neg hs]
  · rw [if_neg hp, if_neg hp]
/-! ### Split, Join -/
theorem split_loop : ∀ (n : Nat) (s : ByteArray) (acc : List ByteArray) (k : Nat), s.size ≤ n → n < k → acc.length + n < 8796093022208 → Px.cleanseref45_Split.l0 k s acc = some (acc ++ chop s)
  | n, s, acc, k, h, hk, ha => by
    obtain ⟨k, rfl⟩ : ∃ m, k = m + 1 := ⟨k - 1, by omega⟩
    simp only [Px.cleanseref45_Split.l0]
    by_cases c : 40 < s.size
    · obtain ⟨n, rfl⟩ : ∃ m, n = m + 1 := ⟨n - 1, by omega⟩
      rw [if_pos (by omega), if_pos (by omega), if_pos (by omega), if_pos (by omega), chop_more c, split_loop n (s.extract 40 s.size) _ k (by rw [ByteArray.size_extract]; omega) (by omega) (by rw [List.length_append]; simp; omega), List.append_assoc]
      rfl
    · rw [if_neg (by omega), if_pos (by omega), chop_last c]
theorem head_size (s : ByteArray) (hs : s.size ≤ 1000000) : (headed s).size ≤ s.size + 22 := by
  have := X.itoa_size (s.size : Int) (by omega) (by omega)
  rw [← size_list (headed s), headed_list, List.length_append, List.length_cons, size_list]; omega
theorem refSplit_spec (s : ByteArray) (hs : s.size ≤ 1000000) (k : Nat) (hk : s.size + 22 < k) : Px.cleanseref45_Split.f k s = some (splitB s) := by
  have h1 := X.itoa_size (s.size : Int) (by omega) (by omega)
  have h2 := head_size s hs
  unfold Px.cleanseref45_Split.f X.cleanseref15_Decimal.f
  rw [if_pos (by omega), if_pos (by omega)]
  simp only [Option.bind_some]
  have h3 : (⟨(Lib.itoa (s.size : Int)).toArray⟩ : ByteArray).size ≤ 21 := by show (Lib.itoa _).toArray.size ≤ _; rw [List.size_toArray]; exact h1
  rw [if_pos (by omega), if_pos (by rw [ByteArray.size_append]; show _ + 1 + _ ≤ _; omega)]
  exact split_loop (headed s).size (headed s) [] k (Nat.le_refl _) (by omega) (by simp; omega)
theorem ref_cat (l : List ByteArray) (hl : (catB l).size ≤ 1000000) (hn : l.length ≤ 1000000) : ∀ (d i k : Nat) (acc : ByteArray), i + d = l.length → d < k → acc.data.toList = ((l.take i).map (·.data.toList)).flatten → Px.cleanseref45_Join.l0 k l acc (i : Int) = Px.cleanseref45_Join.l1 (k - d - 1) l (catB l) 0
  | 0, i, k, acc, h, hk, ha => by
    obtain ⟨k, rfl⟩ : ∃ m, k = m + 1 := ⟨k - 1, by omega⟩
    simp only [Px.cleanseref45_Join.l0]
    rw [if_neg (by omega), data_inj (a := acc) (b := catB l) (by rw [ha, List.take_of_length_le (by omega)]; rfl)]
    rfl
  | d + 1, i, k, acc, h, hk, ha => by
    obtain ⟨k, rfl⟩ : ∃ m, k = m + 1 := ⟨k - 1, by omega⟩
    have hi : i < l.length := by omega
    have hnext : (acc ++ l[i]).data.toList = ((l.take (i + 1)).map (·.data.toList)).flatten := by
      rw [app_list, ha, List.take_succ_eq_append_getElem hi, List.map_append, List.flatten_append]
      simp
    have hsz : acc.size + l[i].size ≤ (catB l).size := by
      have e1 := congrArg List.length hnext
      have e2 : (catB l).data.toList = ((l.take (i + 1)).map (·.data.toList)).flatten ++ ((l.drop (i + 1)).map (·.data.toList)).flatten := by
        rw [← List.flatten_append, ← List.map_append, List.take_append_drop]; rfl
      have e3 := congrArg List.length e2
      rw [List.length_append, ← e1, size_list, size_list, ByteArray.size_append] at e3
      omega
    simp only [Px.cleanseref45_Join.l0]
    rw [if_pos (by omega), if_pos (by omega), rdOf_at hi, if_pos (by omega), wrap_id (by omega) (by omega), show ((i : Int) + 1) = ((i + 1 : Nat) : Int) by omega, ref_cat l hl hn d (i + 1) k _ (by omega) (by omega) hnext]
    congr 1; omega
theorem refJoin_loop (l : List ByteArray) (hl : (catB l).size ≤ 20000) (hn : l.length ≤ 1000000) : ∀ (d i k : Nat), i + d = (catB l).size → 2 * d + 2000000 < k → (∀ j, j < i → ¬ ((catB l).data.toList[j]? = some 58 ∧ splitB ((catB l).extract (j + 1) (catB l).size) = l)) → Px.cleanseref45_Join.l1 k l (catB l) (i : Int) = some (joinZ l) := by
  have stop : ∀ i : Nat, ((catB l).size ≤ i ∨ 20 ≤ i) → (∀ j, j < i → ¬ ((catB l).data.toList[j]? = some 58 ∧ splitB ((catB l).extract (j + 1) (catB l).size) = l)) → joinZ l = (⟨#[]⟩, 4) := by
    intro i hi hno
    refine joinZ_none l fun t ht => ?_
    obtain ⟨j, hj, hj1, hj2, hj3⟩ := colon_first l t ht
    have hts := cat_size l t ht
    have hlen := dec_len 5 t.size (by omega)
    rw [itoa_nat] at hj
    refine hno j ?_ ⟨hj2, by rw [hj3]; exact ht⟩
    omega
  intro d
  induction d with
  | zero =>
    intro i k h hk hno
    obtain ⟨k, rfl⟩ : ∃ m, k = m + 2 := ⟨k - 2, by omega⟩
    rw [stop i (.inl (by omega)) hno]
    simp only [Px.cleanseref45_Join.l1]
    rw [if_neg (by omega)]
    simp only [Px.cleanseref45_Join.j2]
    rw [if_neg (by simp)]
  | succ d ih =>
    intro i k h hk hno
    obtain ⟨k, rfl⟩ : ∃ m, k = m + 2 := ⟨k - 2, by omega⟩
    have hi : i < (catB l).size := by omega
    have hi' : i < (catB l).data.toList.length := by rw [size_list]; exact hi
    by_cases h20 : i < 20
    · have hb : (bt (catB l) (i : Int) = 58) ↔ (catB l).data.toList[i]? = some 58 := by
        rw [bt_at _ i hi, List.getElem?_eq_getElem hi', Option.some.injEq]
        unfold bytesOf
        rw [List.getElem_map]
        constructor
        · intro h; exact UInt8.toNat_inj.1 (by simp at h ⊢; omega)
        · intro h; rw [h]; rfl
      have next : ¬ ((catB l).data.toList[i]? = some 58 ∧ splitB ((catB l).extract (i + 1) (catB l).size) = l) → Px.cleanseref45_Join.l1 k l (catB l) (wrap64 ((i : Int) + 1)) = some (joinZ l) := by
        intro hm
        rw [wrap_id (by omega) (by omega), show ((i : Int) + 1) = ((i + 1 : Nat) : Int) by omega]
        refine ih (i + 1) k (by omega) (by omega) fun j hj => ?_
        by_cases e : j = i
        · subst e; exact hm
        · exact hno j (by omega)
      simp only [Px.cleanseref45_Join.l1]
      rw [if_pos (by omega), decide_eq_true (p := (i : Int) < 20) (by omega)]
      simp only [Px.cleanseref45_Join.j2]
      rw [if_pos trivial, if_pos (by omega), if_pos (by omega)]
      by_cases c : bt (catB l) (i : Int) = 58
      · rw [if_pos c, if_pos (by rw [wrap_id (by omega) (by omega)]; omega), if_pos (by rw [wrap_id (by omega) (by omega)]; omega)]
        have e1 : (wrap64 ((i : Int) + 1)).toNat = i + 1 := by rw [wrap_id (by omega) (by omega)]; omega
        have hz : ((catB l).extract (i + 1) (catB l).size).size ≤ 20000 := by rw [ByteArray.size_extract]; omega
        rw [e1, refSplit_spec _ (by omega) k (by omega)]
        simp only [Option.bind_some]
        have hsl := X.split_len ((catB l).extract (i + 1) (catB l).size) (by omega)
        rw [same_spec _ _ (by omega) k (by omega)]
        simp only [Option.bind_some]
        by_cases e : splitB ((catB l).extract (i + 1) (catB l).size) = l
        · rw [if_pos (decide_eq_true e), colon_at l i hi e]
        · rw [if_neg (by simpa using e)]
          exact next (fun h => e h.2)
      · rw [if_neg c]
        exact next (fun h => c (hb.2 h.1))
    · rw [stop i (.inr (by omega)) hno]
      simp only [Px.cleanseref45_Join.l1]
      rw [if_pos (by omega)]
      simp only [Px.cleanseref45_Join.j2]
      rw [if_neg (by simp; omega)]
theorem refJoin_spec (l : List ByteArray) (hl : (catB l).size ≤ 20000) (hn : l.length ≤ 1000000) (k : Nat) (hk : 4000000 < k) : Px.cleanseref45_Join.f k l = some (joinZ l) := by
  unfold Px.cleanseref45_Join.f
  have h := ref_cat l (by omega) hn l.length 0 k ⟨#[]⟩ (by omega) (by omega) (by simp)
  rw [show (0 : Int) = ((0 : Nat) : Int) from rfl, h]
  exact refJoin_loop l hl hn (catB l).size 0 _ (by omega) (by omega) (fun j hj => by omega)
theorem join_flat (l : List (List UInt8)) : Lib.join l [] = l.flatten := by
  unfold Lib.join
  induction l with
  | nil => rfl
  | cons a l ih =>
    cases l with
    | nil => simp [List.intercalate]
    | cons b r => simp [List.intercalate] at ih ⊢; rw [ih]
theorem join_spec (l : List ByteArray) (hl : (catB l).size ≤ 20000) (hn : l.length ≤ 1000000) (k : Nat) (hk : 4000000 < k) : Px.seal_Join.f k l = some (joinZ l) := by
  unfold Px.seal_Join.f X.strings_Join.f
  have e0 : Lib.join (l.map (·.data.toList)) (⟨#[]⟩ : ByteArray).data.toList = (l.map (·.data.toList)).flatten := join_flat _
  have e1 : ((l.map (·.data.toList)).flatten).length = (catB l).size := by rw [← size_list, catB_list]
  rw [if_pos (by omega), e0, if_pos (by omega)]
  simp only [Option.bind_some]
  show ((X.strings_Cut.f (catB l) ⟨#[58]⟩).bind _) = _
  unfold X.strings_Cut.f
  rw [if_pos (by omega), if_pos rfl]
  simp only [Option.bind_some]
  unfold joinZ
  by_cases c : (cutAt (catB l) 58).2.2 = true
  · have hz : (cutAt (catB l) 58).2.1.size ≤ 20000 := by
      unfold cutAt
      split
      · show (ByteArray.extract _ _ _).size ≤ _
        rw [ByteArray.size_extract]; omega
      · show 0 ≤ _; omega
    rw [if_pos c]
    unfold X.seal_Split.f
    rw [if_pos (by omega)]
    simp only [Option.bind_some]
    have hsl := X.split_len (cutAt (catB l) 58).2.1 (by omega)
    rw [equal_spec _ _ (by omega) k (by omega)]
    simp only [Option.bind_some]
    by_cases e : splitB (cutAt (catB l) 58).2.1 = l
    · rw [if_pos (decide_eq_true e), if_pos ⟨c, e⟩]
    · rw [if_neg (by simpa using e), if_neg (fun h => e h.2)]
  · rw [if_neg c, if_neg (fun h => c h.1)]
theorem cat_bound (l : List ByteArray) (h : ∀ s ∈ l, s.size ≤ 200) : (catB l).size ≤ 200 * l.length := by
  rw [← size_list, catB_list]
  induction l with
  | nil => simp
  | cons a l ih =>
    have h1 := h a List.mem_cons_self
    have h2 := ih (fun s hs => h s (List.mem_cons_of_mem _ hs))
    rw [List.map_cons, List.flatten_cons, List.length_append, size_list, List.length_cons]; omega
end Go.Proofs.YtgblfdfagppejaaDoor.Pl
