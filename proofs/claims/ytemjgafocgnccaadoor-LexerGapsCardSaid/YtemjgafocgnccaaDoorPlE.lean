/- The reference's comparing of tokens; how many tokens there are and where. -/
import Derived.Test.YtemjgafocgnccaaDoorPlD
import Derived.Test.YtemjgafocgnccaaDoorPx7
set_option linter.unusedVariables false
set_option linter.unusedSimpArgs false
namespace Go.Proofs.YtemjgafocgnccaaDoor.X
open Go.RowKit Go.Proofs.YtemjgafocgnccaaDoorW.PrintWords Go.Proofs.YtemjgafocgnccaaDoorW.PrintMore
theorem wrap_id {i : Int} (h0 : -9223372036854775808 ≤ i) (h : i ≤ 9223372036854775807) : wrap64 i = i := by unfold wrap64; omega
theorem rd_at {l : List Px.S30} {i : Nat} (h : i < l.length) : Px.rd_T30 l (i : Int) = l[i] := by
  simp [Px.rd_T30, List.getD_eq_getElem?_getD, h]
/-- Tokens that are equal apart from offsets. -/
def Alike (a b : List Px.S30) : Prop := a.length = b.length ∧ ∀ (i : Nat) (h : i < a.length) (h' : i < b.length), a[i].f0 = b[i].f0 ∧ a[i].f1 = b[i].f1 ∧ a[i].f2 = b[i].f2
theorem alike_loop (a b : List Px.S30) (hm : a.length ≤ 100000) (ha : Alike a b) : ∀ (d i k : Nat), i + d = a.length → d < k → Px.cleanseref07_Alike.l0 k a b (i : Int) = some true
  | 0, i, k, h, hk => by
    obtain ⟨k, rfl⟩ : ∃ m, k = m + 1 := ⟨k - 1, by omega⟩
    simp only [Px.cleanseref07_Alike.l0]
    rw [if_neg (by omega)]
  | d + 1, i, k, h, hk => by
    obtain ⟨k, rfl⟩ : ∃ m, k = m + 1 := ⟨k - 1, by omega⟩
    have hi : i < a.length := by omega
    have hi' : i < b.length := by have := ha.1; omega
    obtain ⟨e0, e1, e2⟩ := ha.2 i hi hi'
    simp only [Px.cleanseref07_Alike.l0]
    rw [if_pos (by omega), if_pos (by omega), if_pos (by omega), rd_at hi, rd_at hi', if_pos e0, if_pos (by rw [e1]), if_pos e2, wrap_id (by omega) (by omega), show ((i : Int) + 1) = ((i + 1 : Nat) : Int) by omega]
    exact alike_loop a b hm ha d (i + 1) k (by omega) (by omega)
theorem alike_spec (a b : List Px.S30) (hm : a.length ≤ 100000) (ha : Alike a b) (k : Nat) (hk : a.length < k) : Px.cleanseref07_Alike.f k a b = some true := by
  unfold Px.cleanseref07_Alike.f
  rw [if_pos (by have := ha.1; omega), show (0 : Int) = ((0 : Nat) : Int) from rfl, alike_loop a b hm ha a.length 0 k (by omega) hk]
theorem same_loop (a b : List Px.S30) (by_ : Int) (hm : a.length ≤ 100000) (hl : a.length = b.length) (ha : ∀ (i : Nat) (h : i < a.length) (h' : i < b.length), wrap64 (a[i].f3 + by_) = b[i].f3) : ∀ (d i k : Nat), i + d = a.length → d < k → Px.cleanseref07_Same.l0 k a by_ b (i : Int) = some true
  | 0, i, k, h, hk => by
    obtain ⟨k, rfl⟩ : ∃ m, k = m + 1 := ⟨k - 1, by omega⟩
    simp only [Px.cleanseref07_Same.l0]
    rw [if_neg (by omega)]
  | d + 1, i, k, h, hk => by
    obtain ⟨k, rfl⟩ : ∃ m, k = m + 1 := ⟨k - 1, by omega⟩
    have hi : i < a.length := by omega
    have hi' : i < b.length := by omega
    simp only [Px.cleanseref07_Same.l0]
    rw [if_pos (by omega), if_pos (by omega), if_pos (by omega), rd_at hi, rd_at hi', if_pos (ha i hi hi'), wrap_id (i := (i : Int) + 1) (by omega) (by omega), show ((i : Int) + 1) = ((i + 1 : Nat) : Int) by omega]
    exact same_loop a b by_ hm hl ha d (i + 1) k (by omega) (by omega)
theorem alike_sh (a : List Px.S30) (d : Nat) : Alike a (a.map (sh d)) := by
  refine ⟨by rw [List.length_map], fun i h h' => ?_⟩
  rw [List.getElem_map]
  exact ⟨rfl, rfl, rfl⟩
theorem same_sh (a : List Px.S30) (d : Nat) (hd : d ≤ 100000) (hm : a.length ≤ 100000) (hb : ∀ x ∈ a, 0 ≤ x.f3 ∧ x.f3 ≤ 100000) (k : Nat) (hk : a.length < k) : Px.cleanseref07_Same.f k a (d : Int) (a.map (sh d)) = some true := by
  unfold Px.cleanseref07_Same.f
  rw [alike_spec _ _ hm (alike_sh a d) k hk]
  simp only [Option.bind_some]
  rw [if_pos trivial, show (0 : Int) = ((0 : Nat) : Int) from rfl, same_loop a _ _ hm (by rw [List.length_map]) (fun i h h' => ?_) a.length 0 k (by omega) hk]
  have := hb a[i] (List.getElem_mem h)
  rw [List.getElem_map, wrap_id (by omega) (by omega)]
  rfl
theorem toks_bd (k : Nat) (l : List Int) (hk : l.length ≤ k) : ∀ ts r, lexB l = (ts, r) → ts.length ≤ l.length ∧ ∀ x ∈ ts, 0 ≤ x.f3 ∧ x.f3 ≤ (l.length : Int) := by
  refine lex_ind (C := fun l => ∀ ts r, lexB l = (ts, r) → ts.length ≤ l.length ∧ ∀ x ∈ ts, 0 ≤ x.f3 ∧ x.f3 ≤ (l.length : Int)) ?_ ?_ ?_ ?_ k l hk
  · intro ts r h
    rw [lexB_nil] at h; cases h
    simp
  · intro l y hl ht ts r h
    rw [lexB_err hl ht] at h; cases h
    simp
  · intro l hl ht ts r h
    rw [lexB_none hl ht] at h; cases h
    simp
  · intro l kd s n m hl ht h1 hm ih ts r h
    rw [lexB_tok hl ht] at h
    rcases hq : lexB (l.drop (m + gapL false (l.drop m))) with ⟨a, b⟩
    rw [hq] at h
    simp only [Ans.cons, Ans.sh, Prod.mk.injEq] at h
    obtain ⟨i1, i2⟩ := ih a b hq
    have hgle := gap_drop_le l m hm
    rw [List.length_drop] at i1 i2
    rw [← h.1]
    refine ⟨by rw [List.length_cons, List.length_map]; omega, fun x hx => ?_⟩
    rcases List.mem_cons.1 hx with rfl | hx
    · exact ⟨Int.le_refl _, by simp⟩
    · obtain ⟨y, hy, rfl⟩ := List.mem_map.1 hx
      have := i2 y hy
      simp only [X.sh]
      omega
theorem toksF_bd (l : List Int) {ts : List Px.S30} {r : Option (Int × Nat)} (h : lexF l = (ts, r)) : ts.length ≤ l.length ∧ ∀ x ∈ ts, 0 ≤ x.f3 ∧ x.f3 ≤ (l.length : Int) := by
  unfold lexF at h
  rcases hq : lexB (l.drop (gapL false l)) with ⟨a, b⟩
  rw [hq] at h
  simp only [Ans.sh, Prod.mk.injEq] at h
  obtain ⟨i1, i2⟩ := toks_bd _ _ (Nat.le_refl _) a b hq
  have := gap_le l false
  rw [List.length_drop] at i1 i2
  rw [← h.1]
  refine ⟨by rw [List.length_map]; omega, fun x hx => ?_⟩
  obtain ⟨y, hy, rfl⟩ := List.mem_map.1 hx
  have := i2 y hy
  simp only [X.sh]
  omega
theorem errF {l : List Int} {ts : List Px.S30} {x : Int} {d : Nat} (h : lexF l = (ts, some (x, d))) : x ≠ 0 := by
  unfold lexF at h
  obtain ⟨ts', d', hq, rfl⟩ := ans_some h
  exact (lexB_at _ _ (Nat.le_refl _) (gap_drop _ _) _ _ _ hq).1
theorem errF_at {l : List Int} {ts : List Px.S30} {x : Int} {d : Nat} (h : lexF l = (ts, some (x, d))) : d < l.length := by
  unfold lexF at h
  obtain ⟨ts', d', hq, rfl⟩ := ans_some h
  have := (lexB_at _ _ (Nat.le_refl _) (gap_drop _ _) _ _ _ hq).2.1
  rw [List.length_drop] at this
  omega
theorem out_none (ts : List Px.S30) : Ans.out 0 [] (ts, none) = (ts, 0, 0) := by
  simp only [Ans.out, sh_zero, List.nil_append]
theorem out_some (ts : List Px.S30) (x : Int) (d : Nat) : Ans.out 0 [] (ts, some (x, d)) = ([], x, (d : Int)) := by
  simp [Ans.out]
theorem bytes_app (s t : ByteArray) : bytesOf (s ++ t) = bytesOf s ++ bytesOf t := by
  unfold bytesOf
  simp
end Go.Proofs.YtemjgafocgnccaaDoor.X
