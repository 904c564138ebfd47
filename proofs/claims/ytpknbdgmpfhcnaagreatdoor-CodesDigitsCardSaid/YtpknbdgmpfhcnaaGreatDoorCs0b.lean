/- Plain laws on the library's words: an index of one byte, a byte struck out. -/
import Derived.Test.YtpknbdgmpfhcnaaGreatDoorCs0
import Derived.Lib.SplitLaws
import Derived.Lib.Replace
namespace Go.Proofs.YtpknbdgmpfhcnaaGreatDoor
set_option linter.unusedVariables false
set_option linter.unusedSimpArgs false
open Go.Lib

theorem occ1 (s : List UInt8) (c : UInt8) (j : Nat) : occAt s [c] j = (s[j]? == some c) := by
  unfold occAt
  cases h : s.drop j with
  | nil =>
    have : s[j]? = none := by
      rw [List.getElem?_eq_none_iff]
      have := congrArg List.length h
      simp at this; omega
    rw [this]; rfl
  | cons x r =>
    have : s[j]? = some x := by
      have := congrArg List.head? h
      simpa using this
    rw [this]
    simp [List.isPrefixOf, Bool.beq_comm]
theorem index1_none (s : List UInt8) (c : UInt8) : index s [c] = -1 ↔ c ∉ s := by
  rcases index_spec s [c] with ⟨h, h2⟩ | ⟨i, h, hi, ho, _⟩
  · refine ⟨fun _ hm => ?_, fun _ => h⟩
    obtain ⟨j, hj, e⟩ := List.mem_iff_getElem.1 hm
    have := h2 j (by omega)
    rw [occ1, List.getElem?_eq_getElem hj, e] at this
    simp at this
  · refine ⟨fun h' => by omega, fun hm => ?_⟩
    rw [occ1] at ho
    have := List.mem_of_getElem? (beq_iff_eq.1 ho)
    exact absurd this hm
theorem index1_some (s : List UInt8) (c : UInt8) (i : Nat) (h : index s [c] = i) : ∃ a b, s = a ++ c :: b ∧ c ∉ a ∧ a.length = i := by
  rcases index_spec s [c] with ⟨h', _⟩ | ⟨k, h', hk, ho, hno⟩
  · omega
  · obtain rfl : k = i := by omega
    rw [occ1] at ho
    have ho' := beq_iff_eq.1 ho
    obtain ⟨hlt, hv⟩ := List.getElem?_eq_some_iff.1 ho'
    refine ⟨s.take k, s.drop (k + 1), ?_, ?_, by simp; omega⟩
    · conv => lhs; rw [← List.take_append_drop k s]
      rw [List.drop_eq_getElem_cons hlt, hv]
    · intro hm
      obtain ⟨j, hj, e⟩ := List.mem_iff_getElem.1 hm
      have hj2 : j < k := by simp at hj; omega
      have := hno j hj2
      rw [occ1] at this
      rw [List.getElem_take] at e
      rw [List.getElem?_eq_getElem (by omega), e] at this
      simp at this
theorem filter_none (s : List UInt8) (c : UInt8) (h : c ∉ s) : s.filter (· != c) = s := by
  rw [List.filter_eq_self]
  intro x hx
  simp only [bne_iff_ne, ne_eq]
  rintro rfl; exact h hx
theorem replaceK_del (c : UInt8) : ∀ (n : Nat) (s : List UInt8), s.length ≤ n → replaceK [c] [] (count s [c]) s = s.filter (· != c) := by
  intro n
  induction n with
  | zero =>
    intro s hs
    obtain rfl : s = [] := List.length_eq_zero_iff.1 (by omega)
    rw [count_miss (by rw [index1_none]; simp)]; rfl
  | succ n ih =>
    intro s hs
    by_cases h : index s [c] = -1
    · rw [count_miss h, filter_none _ _ ((index1_none s c).1 h)]; rfl
    · have hge := index_ge s [c]
      obtain ⟨a, b, rfl, ha, hl⟩ := index1_some s c (index s [c]).toNat (by omega)
      rw [count_hit (by simp) (i := a.length) (by omega), Nat.add_comm, replaceK_hit _ _ _ _ a.length (by omega)]
      have hd : (a ++ c :: b).drop (a.length + [c].length) = b := by simp
      rw [hd, List.take_left, ih b (by simp at hs; omega)]
      simp [List.filter_append, List.filter_cons]
      rw [List.filter_eq_self.2]
      intro x hx
      simp only [bne_iff_ne, ne_eq, decide_not, Bool.not_eq_eq_eq_not, Bool.not_true, decide_eq_false_iff_not]
      rintro rfl; exact ha hx
/-- Without a byte. -/
theorem replaceAll_del (c : UInt8) (s : List UInt8) : replaceAll s [c] [] = s.filter (· != c) := by
  unfold replaceAll replace replaceNum
  rw [if_neg (by simp), if_pos (.inl (by decide))]
  exact replaceK_del c s.length s (Nat.le_refl _)
end Go.Proofs.YtpknbdgmpfhcnaaGreatDoor
