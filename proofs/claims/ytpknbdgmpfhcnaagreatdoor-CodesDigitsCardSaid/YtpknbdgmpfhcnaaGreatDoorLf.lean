/- Plain laws on digits as numbers: what is parsed. -/
import Derived.Test.YtpknbdgmpfhcnaaGreatDoorLd
import Derived.Test.YtpknbdgmpfhcnaaGreatDoorCsH
import Derived.Lib.SlTrimSet
import Derived.Lib.ParseIntB
namespace Go.Proofs.YtpknbdgmpfhcnaaGreatDoor
set_option linter.unusedVariables false
set_option linter.unusedSimpArgs false
def isDigB (c : UInt8) : Bool := decide (48 ≤ c.toNat) && decide (c.toNat ≤ 57)
theorem isDigB_iff (c : UInt8) : isDigB c = true ↔ isDig c := by unfold isDigB isDig; simp
/-- What digits spell, behind a number. -/
def stepV (a : Nat) (c : UInt8) : Nat := a * 10 + (c.toNat - 48)
def foldV (a : Nat) (l : List UInt8) : Nat := l.foldl stepV a
theorem foldV_cons (a : Nat) (c : UInt8) (r : List UInt8) : foldV a (c :: r) = foldV (stepV a c) r := by unfold foldV; rw [List.foldl_cons]
theorem foldV_nil (a : Nat) : foldV a [] = a := by unfold foldV; rw [List.foldl_nil]
theorem foldV_app (l m : List UInt8) (a : Nat) : foldV a (l ++ m) = foldV (foldV a l) m := by unfold foldV; rw [List.foldl_append]
theorem foldV_lin (l : List UInt8) : ∀ a, foldV a l = a * 10 ^ l.length + foldV 0 l := by
  induction l with
  | nil => intro a; rw [foldV_nil, foldV_nil]; simp
  | cons c r ih =>
    intro a
    rw [foldV_cons, foldV_cons, List.length_cons, ih (stepV a c), ih (stepV 0 c), Nat.pow_succ]
    unfold stepV
    rw [Nat.add_mul, Nat.zero_mul, Nat.zero_add, Nat.mul_assoc, Nat.mul_comm 10, Nat.add_assoc]
theorem foldV_ge (l : List UInt8) : ∀ a, a ≤ foldV a l := by
  induction l with
  | nil => intro a; rw [foldV_nil]; exact Nat.le_refl _
  | cons c r ih => intro a; have := ih (stepV a c); rw [foldV_cons]; unfold stepV at *; omega
theorem stepV_dig {c : UInt8} (h : isDig c) : stepV 0 c ≤ 9 := by unfold isDig at h; unfold stepV; omega
theorem foldV_lt (l : List UInt8) (h : ∀ c ∈ l, isDig c) : foldV 0 l < 10 ^ l.length := by
  induction l with
  | nil => rw [foldV_nil]; simp
  | cons c r ih =>
    have hc := stepV_dig (h c (by simp))
    have ih := ih (fun x hx => h x (by simp [hx]))
    rw [foldV_cons, foldV_lin, List.length_cons, Nat.pow_succ]
    have := Nat.mul_le_mul_right (10 ^ r.length) hc
    generalize 10 ^ r.length = p at *
    omega
theorem foldV_zeros : ∀ (k a : Nat), foldV a (Lib.repeatL [48] k) = a * 10 ^ k
  | 0, a => by rw [show Lib.repeatL [48] 0 = [] from rfl, foldV_nil]; simp
  | k + 1, a => by
    rw [Lib.repeatL, foldV_app, foldV_zeros k, foldV_cons, foldV_nil, Nat.pow_succ]
    have : stepV a 48 = a * 10 := by unfold stepV; simp
    rw [this, Nat.mul_assoc, Nat.mul_comm 10]
theorem digit_val {k : Nat} (h : k < 10) (a : Nat) : stepV a (UInt8.ofNat (48 + k)) = a * 10 + k := by
  unfold stepV
  rw [UInt8.toNat_ofNat']; omega
theorem foldV_dec : ∀ (n u : Nat), u ≤ n → foldV 0 (Lib.decDigits u) = u := by
  intro n
  induction n with
  | zero =>
    intro u hu
    rw [Lib.decDigits_one (by omega), foldV_cons, foldV_nil, digit_val (by omega)]; omega
  | succ n ih =>
    intro u hu
    rw [Lib.decDigits]
    split
    · rw [foldV_cons, foldV_nil, digit_val (by omega)]; omega
    · rw [foldV_app, ih (u / 10) (by omega), foldV_cons, foldV_nil, digit_val (by omega)]; omega
theorem foldV_trim : ∀ (l : List UInt8), foldV 0 (Lib.trimLeftB l 48) = foldV 0 l
  | [] => rfl
  | c :: r => by
    unfold Lib.trimLeftB
    rw [List.dropWhile_cons]
    split
    · rename_i h
      have hc : c = 48 := by simpa using h
      subst hc
      have := foldV_trim r
      unfold Lib.trimLeftB at this
      rw [this, foldV_cons]
      have : stepV 0 48 = 0 := by unfold stepV; simp
      rw [this]
    · rfl
theorem parse_fold (M : Nat) (hM : M ≤ 18446744073709551615) : ∀ (l : List UInt8) (a : Nat), (∀ c ∈ l, isDig c) → foldV a l ≤ M → Lib.parseUintM M a l = .ok (foldV a l)
  | [], a, _, _ => by rw [foldV_nil]; rfl
  | c :: r, a, h, hv => by
    have hc : 48 ≤ c.toNat ∧ c.toNat ≤ 57 := h c (by simp)
    have hge := foldV_ge r (stepV a c)
    rw [foldV_cons] at hv ⊢
    have hs : stepV a c = a * 10 + (c.toNat - 48) := rfl
    rw [Lib.parseUintM, if_pos hc, ← hs, if_neg (by omega), if_neg (by omega)]
    exact parse_fold M hM r _ (fun x hx => h x (by simp [hx])) hv
theorem parse_ok (l : List UInt8) (hl : l.length ≤ 19) (h : ∀ c ∈ l, isDig c) : Lib.parseUintB 64 (48 :: l) = .ok (foldV 0 l) ∧ foldV 0 l < 10000000000000000000 := by
  have hlt := foldV_lt l h
  have hp : 10 ^ l.length ≤ 10 ^ 19 := Nat.pow_le_pow_right (by decide) hl
  have hp2 : (10 : Nat) ^ 19 = 10000000000000000000 := by decide
  refine ⟨?_, by omega⟩
  unfold Lib.parseUintB
  rw [if_neg (by simp)]
  have h0 : foldV 0 (48 :: l) = foldV 0 l := by
    rw [foldV_cons]
    have : stepV 0 48 = 0 := by unfold stepV; simp
    rw [this]
  have := parse_fold (2 ^ 64 - 1) (by decide) (48 :: l) 0 (by
    intro c hc
    rcases List.mem_cons.1 hc with rfl | hc
    · exact dig48
    · exact h c hc) (by rw [h0]; have : (10000000000000000000 : Nat) ≤ 2 ^ 64 - 1 := by decide
                        omega)
  rw [this, h0]
def digSet : List UInt8 := [48, 49, 50, 51, 52, 53, 54, 55, 56, 57]
theorem digSet_iff (c : UInt8) : digSet.contains c = isDigB c := by
  have : ∀ n : Fin 256, digSet.contains (UInt8.ofNat n.val) = isDigB (UInt8.ofNat n.val) := by decide +kernel
  have h := this ⟨c.toNat, c.toNat_lt⟩
  simpa using h
/-- Are these digits alone, one at least? -/
def digitsB (s : List UInt8) : Bool := !s.isEmpty && s.all isDigB
theorem trim_dig (s : List UInt8) : (Lib.trimS s digSet).isEmpty = s.all isDigB := by
  rw [Bool.eq_iff_iff, List.isEmpty_iff, List.all_eq_true]
  unfold Lib.trimS Lib.trimLeftS Lib.trimRightS
  have hf : (fun x => digSet.contains x) = isDigB := by funext c; exact digSet_iff c
  rw [hf]
  constructor
  · intro h c hc
    apply Classical.byContradiction
    intro hn
    have h1 : ∀ (l : List UInt8), c ∈ l → c ∈ l.dropWhile isDigB := by
      intro l
      induction l with
      | nil => intro h; cases h
      | cons x r ih =>
        intro hm
        rw [List.dropWhile_cons]
        split
        · rename_i hx
          rcases List.mem_cons.1 hm with rfl | hm
          · exact absurd hx hn
          · exact ih hm
        · exact hm
    have := h1 _ (List.mem_reverse.2 (h1 _ (List.mem_reverse.2 hc)))
    rw [h] at this
    cases this
  · intro h
    have h0 : ∀ (l : List UInt8), (∀ x ∈ l, isDigB x = true) → l.dropWhile isDigB = [] := by
      intro l
      induction l with
      | nil => intro _; rfl
      | cons x r ih => intro hx; rw [List.dropWhile_cons, if_pos (hx x (by simp))]; exact ih (fun y hy => hx y (by simp [hy]))
    have h1 : s.reverse.dropWhile isDigB = [] := h0 _ (fun x hx => h x (List.mem_reverse.1 hx))
    rw [h1]; rfl
theorem dec_len : ∀ (k u : Nat), 1 ≤ k → u < 10 ^ k → (Lib.decDigits u).length ≤ k := by
  intro k
  induction k with
  | zero => intro u h; omega
  | succ k ih =>
    intro u _ hu
    rw [Lib.decDigits]
    split
    · simp
    · have hk : 1 ≤ k := by
        rcases Nat.eq_zero_or_pos k with rfl | h
        · simp at hu; omega
        · exact h
      have := ih (u / 10) hk (by rw [Nat.pow_succ] at hu; omega)
      simp; omega
end Go.Proofs.YtpknbdgmpfhcnaaGreatDoor
