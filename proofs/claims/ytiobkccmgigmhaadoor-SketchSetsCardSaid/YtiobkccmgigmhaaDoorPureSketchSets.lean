/- The statement SketchSets over plain numbers, texts and lists. -/
import Derived.Test.YtiobkccmgigmhaaDoorPx10
import Derived.Test.YtiobkccmgigmhaaDoorPlA
set_option linter.unusedVariables false
namespace Go.Proofs.YtiobkccmgigmhaaDoor.Pure
open Go.RowKit Go.Proofs.YtiobkccmgigmhaaDoorW.PrintWords
theorem sets_loop (l : List ByteArray) (b : Bool) (n : Nat) (h1 : 1 ≤ n) (hn : n ≤ 64) (hf : Pl.fewB l = true) (hl : l ≠ []) :
    ∀ (d i k : Nat) (xs : List ByteArray), i + d = l.length → d + 100 < k → xs.length = i → (∀ t, t ∈ xs → t ∈ l) → (∀ j, (hj : j < l.length) → l.length ≤ j + i → l[j] ∈ xs) →
      Px.cleanselaw05_SketchSets.l0 k l b (n : Int) xs (i : Int) = some b
  | 0, i, k, xs, h, hk, hx, hm, hc => by
    obtain ⟨k, rfl⟩ : ∃ m, k = m + 1 := ⟨k - 1, by omega⟩
    have hlen := Pl.fewB_len hf
    have hpos : 0 < l.length := List.length_pos_iff.2 hl
    have h00 : rdOf ByteArray.empty l 0 = l[0] := Pl.rdOf_at (i := 0) hpos
    have hok2 : X.okLens (xs ++ [l[0]]) = true := by
      unfold X.okLens
      rw [List.all_eq_true]
      intro t ht
      have ht' : t ∈ l := by
        rcases List.mem_append.1 ht with h | h
        · exact hm t h
        · rw [List.mem_singleton.1 h]; exact List.getElem_mem _
      have := Pl.fewB_size hf t ht'
      simp; omega
    have hsame : Pl.makeZ (xs ++ [l[0]]) n = Pl.makeZ l n := by
      unfold Pl.makeZ
      refine List.map_congr_left fun i _ => Pl.least_congr _ _ _ fun t => ⟨fun ht => ?_, fun ht => ?_⟩
      · rcases List.mem_append.1 ht with h | h
        · exact hm t h
        · rw [List.mem_singleton.1 h]; exact List.getElem_mem _
      · obtain ⟨j, hj, rfl⟩ := List.getElem_of_mem ht
        exact List.mem_append_left _ (hc j hj (by omega))
    simp only [Px.cleanselaw05_SketchSets.l0]
    rw [if_neg (by omega), Pl.make_spec l (Pl.fewB_ok hf) n h1 hn k (by omega)]
    simp only [Option.bind_some]
    rw [if_pos (by omega), if_pos (by omega), h00, Pl.make_spec _ hok2 n h1 hn k (by omega)]
    simp only [Option.bind_some, if_true]
    rw [hsame, Pl.ints_spec _ _ (by rw [Pl.makeZ_length]; omega) k (by rw [Pl.makeZ_length]; omega)]
    cases b <;> simp [Pl.makeZ_length]
  | d + 1, i, k, xs, h, hk, hx, hm, hc => by
    obtain ⟨k, rfl⟩ : ∃ m, k = m + 1 := ⟨k - 1, by omega⟩
    have hlen := Pl.fewB_len hf
    have hi : i < l.length := by omega
    have hw : wrap64 ((wrap64 ((l.length : Int) - 1)) - (i : Int)) = ((l.length - 1 - i : Nat) : Int) := by
      rw [Pl.wrap_id (i := (l.length : Int) - 1) (by omega) (by omega), Pl.wrap_id (by omega) (by omega)]; omega
    simp only [Px.cleanselaw05_SketchSets.l0]
    rw [if_pos (by omega), hw, if_pos (by omega), if_pos (by omega), if_pos (by omega), Pl.rdOf_at (by omega), Pl.wrap_succ (by omega) (by omega), show ((i : Int) + 1) = ((i + 1 : Nat) : Int) by omega]
    refine sets_loop l b n h1 hn hf hl d (i + 1) k _ (by omega) (by omega) (by simp; omega) ?_ ?_
    · intro t ht
      rcases List.mem_append.1 ht with h | h
      · exact hm t h
      · rw [List.mem_singleton.1 h]; exact List.getElem_mem _
    · intro j hj hji
      by_cases e : l.length ≤ j + i
      · exact List.mem_append_left _ (hc j hj e)
      · refine List.mem_append_right _ (List.mem_singleton.2 ?_)
        congr 1; omega
theorem SketchSets : ∀ (l0 : List ByteArray) (a1 : Int), l0.length ≤ 9223372036854775807 → 0 ≤ a1 → a1 ≤ 255 → ∃ k, Px.cleanselaw05_SketchSets.f k l0 a1 = some true := by
  intro l a hm h0 h1
  refine ⟨1000, ?_⟩
  unfold Px.cleanselaw05_SketchSets.f X.cleanselaw05_head.f
  simp only [Option.bind_some]
  rw [Pl.few_spec l _ hm (by omega)]
  simp only [Option.bind_some]
  by_cases hf : Pl.fewB l = true
  · rw [if_pos hf]
    by_cases hl : l = []
    · subst hl; simp [Px.cleanselaw05_SketchSets.j0]
    · obtain ⟨n, hn, hn1, hn2⟩ := Pl.size_of a h0 h1
      have hlen := Pl.fewB_len hf
      have hpos : 0 < l.length := List.length_pos_iff.2 hl
      simp only [Px.cleanselaw05_SketchSets.j0]
      rw [if_neg (by simp; exact hl), hn, show (0 : Int) = ((0 : Nat) : Int) from rfl]
      exact sets_loop l true n hn1 hn2 hf hl l.length 0 999 [] (by omega) (by omega) rfl (by simp) (fun j hj hji => by omega)
  · rw [if_neg hf]; simp [Px.cleanselaw05_SketchSets.j0]
end Go.Proofs.YtiobkccmgigmhaaDoor.Pure
