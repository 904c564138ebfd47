/- Plain words on bytes for the package codes (no program in sight). -/
import Derived.Below
import Derived.Lib.OthersKept
namespace Go.Proofs.YtpknbdgmpfhcnaaGreatDoor
set_option linter.unusedVariables false
set_option linter.unusedSimpArgs false
open Go.RowKit

/-- A string out of a list of bytes. -/
def B (l : List UInt8) : ByteArray := ⟨l.toArray⟩
def L (s : ByteArray) : List UInt8 := s.data.toList
@[simp] theorem L_B (l : List UInt8) : L (B l) = l := rfl
@[simp] theorem B_L (s : ByteArray) : B (L s) = s := rfl
@[simp] theorem L_mk (l : List UInt8) : L ⟨l.toArray⟩ = l := rfl
theorem B_size (l : List UInt8) : (B l).size = l.length := rfl
theorem L_len (s : ByteArray) : (L s).length = s.size := rfl
theorem L_inj {s t : ByteArray} (h : L s = L t) : s = t := by
  rw [← B_L s, ← B_L t, h]
theorem L_extract (s : ByteArray) (a b : Nat) : L (s.extract a b) = ((L s).drop a).take (b - a) := by
  unfold L
  simp [ByteArray.data_extract, List.extract_eq_take_drop]
theorem extract_end (s : ByteArray) (a : Nat) : s.extract a s.size = B ((L s).drop a) := by
  apply L_inj
  rw [L_extract, L_B]
  rw [List.take_of_length_le]
  simp [L_len]
theorem extract_front (s : ByteArray) (a : Nat) : s.extract 0 a = B ((L s).take a) := by
  apply L_inj
  rw [L_extract, L_B]
  simp
theorem getElem_L (s : ByteArray) (i : Nat) (h : i < s.size) : s[i] = (L s)[i]'(by rw [L_len]; exact h) := rfl

/-- Is a rune one of an ASCII set's? -/
def inSet (set : List UInt8) (c : Int) : Bool := set.any fun b => (b.toNat : Int) == c
theorem inSet_snoc (set : List UInt8) (k : Nat) (h : k < set.length) (c : Int) : inSet (set.take (k + 1)) c = (inSet (set.take k) c || ((set[k].toNat : Int) == c)) := by
  unfold inSet
  rw [List.take_succ_eq_append_getElem h, List.any_append]
  simp
theorem inSet_mem (set : List UInt8) (b : UInt8) : inSet set (b.toNat : Int) = set.contains b := by
  unfold inSet
  rw [Bool.eq_iff_iff]
  simp only [List.any_eq_true, beq_iff_eq, List.contains_iff_mem]
  constructor
  · rintro ⟨x, hx, h⟩
    have : x = b := UInt8.toNat_inj.1 (by exact_mod_cast h)
    exact this ▸ hx
  · exact fun h => ⟨b, h, rfl⟩
theorem inSet_high (set : List UInt8) (c : Int) (hs : ∀ b ∈ set, b.toNat < 128) (hc : 128 ≤ c) : inSet set c = false := by
  unfold inSet
  rw [Bool.eq_false_iff]
  intro h
  simp only [List.any_eq_true, beq_iff_eq] at h
  obtain ⟨x, hx, h⟩ := h
  have := hs x hx
  omega
/-- What is left of a text behind the longest row of a set's bytes. -/
def cutL (set l : List UInt8) : List UInt8 := l.dropWhile set.contains
def rowL (set l : List UInt8) : List UInt8 := l.takeWhile set.contains
theorem cutL_step (set l : List UInt8) (k : Nat) (h : k < l.length) (hm : set.contains l[k] = true) : cutL set (l.drop (k + 1)) = cutL set (l.drop k) := by
  unfold cutL
  rw [List.drop_eq_getElem_cons h, List.dropWhile_cons, if_pos hm]
theorem cutL_stop (set l : List UInt8) (k : Nat) (h : k < l.length) (hm : set.contains l[k] = false) : cutL set (l.drop k) = l.drop k := by
  unfold cutL
  rw [List.drop_eq_getElem_cons h, List.dropWhile_cons, hm]
  rfl
theorem cutL_nil (set : List UInt8) : cutL set [] = [] := rfl
theorem row_cut (set l : List UInt8) : rowL set l ++ cutL set l = l := List.takeWhile_append_dropWhile
theorem row_len (set l : List UInt8) : (rowL set l).length + (cutL set l).length = l.length := by
  rw [← List.length_append, row_cut]
theorem take_row (set l : List UInt8) : l.take (rowL set l).length = rowL set l := by
  have h := List.take_left (l₁ := rowL set l) (l₂ := cutL set l)
  rwa [row_cut] at h
theorem drop_row (set l : List UInt8) : l.drop (rowL set l).length = cutL set l := by
  have h := List.drop_left (l₁ := rowL set l) (l₂ := cutL set l)
  rwa [row_cut] at h
end Go.Proofs.YtpknbdgmpfhcnaaGreatDoor
