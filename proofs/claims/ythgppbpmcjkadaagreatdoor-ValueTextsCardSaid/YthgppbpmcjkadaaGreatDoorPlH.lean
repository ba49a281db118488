/- What casts give. -/
import Derived.Test.YthgppbpmcjkadaaGreatDoorX14
import Derived.Lib.ItoaLen
set_option linter.unusedVariables false
set_option linter.unusedSimpArgs false
namespace Go.Proofs.YthgppbpmcjkadaaGreatDoor.X
open Go.RowKit
theorem parseR_text {k n : Int} {t : ByteArray} (h : ValidP k n t.data.toList) : parseR (textL k n t.data.toList) = (k, n, t, 0) := by
  unfold parseR
  rw [parse_text h]
  rfl
theorem parseR_ok {l : List UInt8} (h : (parseR l).2.2.2 = 0) : ∃ k n t, parseR l = (k, n, bs t, 0) ∧ ValidP k n t ∧ textL k n t = l := by
  unfold parseR at h ⊢
  split at h
  · cases h
  · rename_i k n t hp
    obtain ⟨a, b⟩ := text_parse hp
    exact ⟨k, n, t, rfl, a, b⟩
theorem parseR_no {l : List UInt8} (h : (parseR l).2.2.2 ≠ 0) : parseR l = (0, 0, bs [], 4) := by
  unfold parseR at h ⊢
  split at h
  · rfl
  · exact absurd rfl h
theorem text_len {k n : Int} {t : List UInt8} (h : ValidP k n t) (hk : k ≠ 1) : (textL k n t).length ≤ 200 := by
  unfold textL
  rw [if_pos (valid_iff.2 h), if_neg hk]
  rcases h with ⟨rfl, h⟩ | ⟨rfl, h⟩ | ⟨rfl, h1, h2, h⟩ | ⟨rfl, h1, h2, h⟩ | ⟨rfl, h⟩
  · simp
  · exact absurd rfl hk
  · have := Lib.itoa_length_le n (by omega) (by omega)
    simp; omega
  · have := Lib.itoa_length_le n (by omega) (by omega)
    simp; omega
  · simp; split <;> simp
theorem cast_kind {k n : Int} {t : ByteArray} {d : Int} (h : ValidP k n t.data.toList) (hd : 1 ≤ d) (hd4 : d ≤ 4) :
    (∃ x y z, castR k n t d = (x, y, z, 0) ∧ ValidP x y z.data.toList ∧ ((x == 0) = (k == 0)) ∧ (x = 0 ∨ x = d)) ∨ ∃ e, e ≠ 0 ∧ e ≠ 1 ∧ castR k n t d = (0, 0, bs [], e) := by
  unfold castR
  rw [if_neg (fun h2 => h2 h), if_neg (by omega), if_neg (by omega)]
  have z1 : ∀ x : Int, 1 ≤ x → k ≠ 0 → (x == 0) = (k == 0) := fun x h1 h2 => by rw [beq_eq_false_iff_ne.2 (by omega), beq_eq_false_iff_ne.2 h2]
  by_cases hk : k = d
  · rw [if_pos hk]; exact .inl ⟨k, n, t, rfl, h, rfl, .inr hk⟩
  rw [if_neg hk]
  by_cases h0 : k = 0
  · rw [if_pos h0]; exact .inl ⟨k, n, t, rfl, h, rfl, .inl h0⟩
  rw [if_neg h0]
  by_cases hd1 : d = 1
  · rw [if_pos hd1]
    exact .inl ⟨1, 0, _, rfl, .inr (.inl ⟨rfl, rfl, text_len h (by omega)⟩), z1 1 (by omega) h0, .inr hd1.symm⟩
  rw [if_neg hd1]
  by_cases hk1 : k = 1
  · rw [if_pos hk1]
    by_cases he : (parseR t.data.toList).2.2.2 = 0
    · obtain ⟨k', n', t', hp, hv, _⟩ := parseR_ok he
      rw [hp]
      simp only
      by_cases hm : k' = d
      · rw [if_pos trivial, if_pos hm]
        exact .inl ⟨k', n', bs t', rfl, hv, z1 k' (by omega) h0, .inr hm⟩
      · rw [if_pos trivial, if_neg hm]; exact .inr ⟨15, by omega, by omega, rfl⟩
    · rw [if_neg he]; exact .inr ⟨15, by omega, by omega, rfl⟩
  rw [if_neg hk1]
  by_cases hk4 : k = 4
  · rw [if_pos hk4]; exact .inr ⟨10, by omega, by omega, rfl⟩
  rw [if_neg hk4]
  by_cases hd5 : d = 4
  · rw [if_pos hd5]; exact .inr ⟨10, by omega, by omega, rfl⟩
  rw [if_neg hd5]
  by_cases h' : ValidP d n t.data.toList
  · rw [if_pos h']; exact .inl ⟨d, n, t, rfl, h', z1 d hd h0, .inr rfl⟩
  · rw [if_neg h']; exact .inr ⟨15, by omega, by omega, rfl⟩
theorem cast_bad1 {k n : Int} {t : ByteArray} {d : Int} (h : ¬ ValidP k n t.data.toList) : castR k n t d = (0, 0, bs [], 1) := by unfold castR; rw [if_pos h]
theorem cast_bad2 {k n : Int} {t : ByteArray} {d : Int} (h : ValidP k n t.data.toList) (hd : d < 1) : castR k n t d = (0, 0, bs [], 1) := by unfold castR; rw [if_neg (fun h2 => h2 h), if_pos hd]
theorem cast_bad3 {k n : Int} {t : ByteArray} {d : Int} (h : ValidP k n t.data.toList) (hd : 1 ≤ d) (hd4 : 4 < d) : castR k n t d = (0, 0, bs [], 1) := by unfold castR; rw [if_neg (fun h2 => h2 h), if_neg (by omega), if_pos hd4]
theorem cast_text {k n : Int} {t : ByteArray} (h : ValidP k n t.data.toList) (h0 : k ≠ 0) (h1 : k ≠ 1) : castR k n t 1 = (1, 0, bs (textL k n t.data.toList), 0) := by
  unfold castR
  rw [if_neg (fun h2 => h2 h), if_neg (by omega), if_neg (by omega), if_neg h1, if_neg h0, if_pos rfl]
theorem cast_back {k n : Int} {t : ByteArray} (h : ValidP k n t.data.toList) (h0 : k ≠ 0) (h1 : k ≠ 1) : castR 1 0 (bs (textL k n t.data.toList)) k = (k, n, t, 0) := by
  have hv : ValidP 1 0 (bs (textL k n t.data.toList)).data.toList := .inr (.inl ⟨rfl, rfl, text_len h h1⟩)
  have hk : 1 ≤ k ∧ k ≤ 4 := by unfold ValidP at h; omega
  have hp : parseR (bs (textL k n t.data.toList)).data.toList = (k, n, t, 0) := parseR_text h
  unfold castR
  rw [if_neg (fun h2 => h2 hv), if_neg (by omega), if_neg (by omega), if_neg (fun e => h1 e.symm), if_neg (by omega), if_neg h1, if_pos rfl, hp, if_pos rfl, if_pos rfl]
theorem cast_day {n : Int} {t : ByteArray} (h : ValidP 3 n t.data.toList) : castR 3 n t 2 = (2, n, t, 0) ∧ castR 2 n t 3 = (3, n, t, 0) := by
  have hv : ValidP 2 n t.data.toList := by unfold ValidP at h ⊢; simp at h ⊢; exact ⟨by omega, by omega, h.2.2⟩
  constructor
  · unfold castR
    rw [if_neg (fun h2 => h2 h), if_neg (by omega), if_neg (by omega), if_neg (by omega), if_neg (by omega), if_neg (by omega), if_neg (by omega), if_neg (by omega), if_neg (by omega), if_pos hv]
  · unfold castR
    rw [if_neg (fun h2 => h2 hv), if_neg (by omega), if_neg (by omega), if_neg (by omega), if_neg (by omega), if_neg (by omega), if_neg (by omega), if_neg (by omega), if_neg (by omega), if_pos h]
end Go.Proofs.YthgppbpmcjkadaaGreatDoor.X
