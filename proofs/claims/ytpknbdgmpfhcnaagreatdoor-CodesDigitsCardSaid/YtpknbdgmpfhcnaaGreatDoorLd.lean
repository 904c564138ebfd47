/- Plain laws on commas and digits: what is written with commas, without them, is what is written without; a comma stands ahead of each three digits. -/
import Derived.Test.YtpknbdgmpfhcnaaGreatDoorCsN
namespace Go.Proofs.YtpknbdgmpfhcnaaGreatDoor
set_option linter.unusedVariables false
set_option linter.unusedSimpArgs false
def isDig (c : UInt8) : Prop := 48 ≤ c.toNat ∧ c.toNat ≤ 57
theorem isDig.ne44 {c : UInt8} (h : isDig c) : c ≠ 44 := by rintro rfl; revert h; unfold isDig; decide
theorem isDig.ne45 {c : UInt8} (h : isDig c) : c ≠ 45 := by rintro rfl; revert h; unfold isDig; decide
theorem isDig.ne46 {c : UInt8} (h : isDig c) : c ≠ 46 := by rintro rfl; revert h; unfold isDig; decide
theorem digit_of {k : Nat} (h : k < 10) : isDig (UInt8.ofNat (48 + k)) := by
  unfold isDig
  rw [UInt8.toNat_ofNat']
  omega
theorem decDigits_dig : ∀ (n u : Nat), u ≤ n → ∀ c ∈ Lib.decDigits u, isDig c := by
  intro n
  induction n with
  | zero =>
    intro u hu c hc
    rw [Lib.decDigits_one (by omega)] at hc
    rw [List.mem_singleton] at hc; subst hc; exact digit_of (by omega)
  | succ n ih =>
    intro u hu c hc
    rw [Lib.decDigits] at hc
    split at hc
    · rw [List.mem_singleton] at hc; subst hc; exact digit_of (by omega)
    · rw [List.mem_append] at hc
      rcases hc with hc | hc
      · exact ih (u / 10) (by omega) c hc
      · rw [List.mem_singleton] at hc; subst hc; exact digit_of (by omega)
theorem itoa_dig (u : Nat) : ∀ c ∈ Lib.itoa (u : Int), isDig c := by
  rw [Lib.itoa_nonneg]; exact decDigits_dig u u (Nat.le_refl _)
theorem repeat_mem : ∀ (k : Nat), ∀ c ∈ Lib.repeatL [48] k, c = 48
  | 0, c, hc => by simp [Lib.repeatL] at hc
  | k + 1, c, hc => by
    rw [Lib.repeatL, List.mem_append] at hc
    rcases hc with hc | hc
    · simpa using hc
    · exact repeat_mem k c hc
theorem dig48 : isDig 48 := by unfold isDig; decide
/-- The whole part, without commas. -/
def wholeL (m z : Nat) : List UInt8 := Lib.repeatL [48] (z - (if 1000000 ≤ m then Lib.itoa ((m / 1000000 : Nat) : Int) else []).length) ++ (if 1000000 ≤ m then Lib.itoa ((m / 1000000 : Nat) : Int) else [])
theorem wholeL_dig (m z : Nat) : ∀ c ∈ wholeL m z, isDig c := by
  intro c hc
  unfold wholeL at hc
  rw [List.mem_append] at hc
  rcases hc with hc | hc
  · rw [repeat_mem _ c hc]; exact dig48
  · split at hc
    · exact itoa_dig _ c hc
    · simp at hc
theorem outL_plain (m : Nat) (x : List UInt8) (h : Lib.contains x [44] = false) : outL m x = wholeL m (x.count 48) := by
  unfold outL wholeL; simp only [h]; simp
theorem outL_commas (m : Nat) (x : List UInt8) (h : Lib.contains x [44] = true) : outL m x = commasL (wholeL m (x.count 48)) := by
  unfold outL wholeL; simp only [h]; simp
theorem commasFrom_filter : ∀ (f : Bool) (l : List UInt8), (∀ c ∈ l, c ≠ 44) → (commasFrom f l).filter (fun c => c != 44) = l
  | _, [], _ => by simp [commasFrom]
  | f, c :: r, h => by
    have hc : (c != 44) = true := by simpa using h c (by simp)
    have ih := commasFrom_filter false r (fun x hx => h x (by simp [hx]))
    rw [commasFrom]
    split <;> simp [List.filter_cons, hc, ih]
theorem commasFrom_ne (y : UInt8) (hy : y ≠ 44) : ∀ (f : Bool) (l : List UInt8), (∀ c ∈ l, c ≠ y) → ∀ c ∈ commasFrom f l, c ≠ y
  | _, [], _, c, hc => by simp [commasFrom] at hc
  | f, d :: r, h, c, hc => by
    rw [commasFrom] at hc
    have ih := commasFrom_ne y hy false r (fun x hx => h x (by simp [hx]))
    split at hc
    · simp at hc
      rcases hc with rfl | rfl | hc
      · exact fun e => hy e.symm
      · exact h _ (by simp)
      · exact ih c hc
    · simp at hc
      rcases hc with rfl | hc
      · exact h _ (by simp)
      · exact ih c hc
theorem commas_at : ∀ (l : List UInt8), (∀ c ∈ l, c ≠ 44) → (commasFrom false l).length = l.length + l.length / 3 ∧ ∀ i c, (commasFrom false l)[i]? = some c → (c = 44 ↔ ((commasFrom false l).length - i) % 4 = 0)
  | [], _ => by simp [commasFrom]
  | d :: r, h => by
    obtain ⟨hl, ha⟩ := commas_at r (fun x hx => h x (by simp [hx]))
    have hd : d ≠ 44 := h d (by simp)
    rw [commasFrom]
    by_cases h3 : (r.length + 1) % 3 = 0
    · rw [if_pos ⟨rfl, h3⟩]
      have hlen : ([44] ++ d :: commasFrom false r).length = (commasFrom false r).length + 2 := by simp
      refine ⟨by rw [hlen, hl]; simp; omega, fun i c hi => ?_⟩
      rw [hlen]
      match i, hi with
      | 0, hi => simp at hi; subst hi; constructor
                 · intro _; omega
                 · intro _; rfl
      | 1, hi => simp at hi; subst hi; constructor
                 · intro e; exact absurd e hd
                 · intro e; omega
      | i + 2, hi =>
        have hi' : (commasFrom false r)[i]? = some c := by simpa using hi
        rw [ha i c hi']
        have : (commasFrom false r).length + 2 - (i + 2) = (commasFrom false r).length - i := by omega
        rw [this]
    · rw [if_neg (fun e => h3 e.2)]
      have hlen : (([] : List UInt8) ++ d :: commasFrom false r).length = (commasFrom false r).length + 1 := by simp
      refine ⟨by rw [hlen, hl]; simp; omega, fun i c hi => ?_⟩
      rw [hlen]
      match i, hi with
      | 0, hi => simp at hi; subst hi; constructor
                 · intro e; exact absurd e hd
                 · intro e; omega
      | i + 1, hi =>
        have hi' : (commasFrom false r)[i]? = some c := by simpa using hi
        rw [ha i c hi']
        have : (commasFrom false r).length + 1 - (i + 1) = (commasFrom false r).length - i := by omega
        rw [this]
/-- The first one has no comma ahead, and does not stand where one would. -/
theorem commas_first (l : List UInt8) (h : ∀ c ∈ l, c ≠ 44) : ∀ i c, (commasL l)[i]? = some c → (c = 44 ↔ ((commasL l).length - i) % 4 = 0) := by
  unfold commasL
  cases l with
  | nil => simp [commasFrom]
  | cons d r =>
    obtain ⟨hl, ha⟩ := commas_at r (fun x hx => h x (by simp [hx]))
    have hd : d ≠ 44 := h d (by simp)
    intro i c hi
    rw [commasFrom, if_neg (by simp)] at hi ⊢
    have hlen : (([] : List UInt8) ++ d :: commasFrom false r).length = (commasFrom false r).length + 1 := by simp
    rw [hlen]
    match i, hi with
    | 0, hi => simp at hi; subst hi; constructor
               · intro e; exact absurd e hd
               · intro e; omega
    | i + 1, hi =>
      have hi' : (commasFrom false r)[i]? = some c := by simpa using hi
      rw [ha i c hi']
      have : (commasFrom false r).length + 1 - (i + 1) = (commasFrom false r).length - i := by omega
      rw [this]
/-- What stands at a place of a text, as the law asks it. -/
def PlaceOk (s : List UInt8) : Prop := ∀ i c, s[i]? = some c → (c = 44 ↔ ((s.length - i) % 4 = 0 ∧ 0 < i ∧ s[i - 1]? ≠ some 45))
theorem place_plain (l : List UInt8) (h : ∀ c ∈ l, isDig c) : PlaceOk (commasL l) := by
  intro i c hi
  have h44 : ∀ c ∈ l, c ≠ 44 := fun c hc => (h c hc).ne44
  rw [commas_first l h44 i c hi]
  have hne : ∀ (j : Nat) (d : UInt8), (commasL l)[j]? = some d → d ≠ 45 := fun j d hj => commasFrom_ne 45 (by decide) true l (fun c hc => (h c hc).ne45) d (List.mem_of_getElem? hj)
  constructor
  · intro h4
    refine ⟨h4, ?_, fun e => hne _ _ e rfl⟩
    rcases Nat.eq_zero_or_pos i with h0 | h0
    · subst h0
      exfalso
      cases l with
      | nil => simp [commasL, commasFrom] at hi
      | cons d r =>
        have hc := (commas_first (d :: r) h44 0 c hi).2 h4
        have : (commasL (d :: r))[0]? = some d := by unfold commasL; rw [commasFrom, if_neg (by simp)]; rfl
        rw [this] at hi
        cases hi
        exact h44 c (by simp) hc
    · exact h0
  · exact fun h => h.1
theorem place_minus (l : List UInt8) (h : ∀ c ∈ l, isDig c) : PlaceOk (45 :: commasL l) := by
  intro i c hi
  have h44 : ∀ c ∈ l, c ≠ 44 := fun c hc => (h c hc).ne44
  have hne : ∀ (j : Nat) (d : UInt8), (commasL l)[j]? = some d → d ≠ 45 := fun j d hj => commasFrom_ne 45 (by decide) true l (fun c hc => (h c hc).ne45) d (List.mem_of_getElem? hj)
  match i, hi with
  | 0, hi => simp at hi; subst hi; simp
  | 1, hi =>
    have hi' : (commasL l)[0]? = some c := by simpa using hi
    have hc : c ≠ 44 := by
      cases l with
      | nil => simp [commasL, commasFrom] at hi'
      | cons d r =>
        have : (commasL (d :: r))[0]? = some d := by unfold commasL; rw [commasFrom, if_neg (by simp)]; rfl
        rw [this] at hi'; cases hi'; exact h44 c (by simp)
    simp [hc]
  | i + 2, hi =>
    have hi' : (commasL l)[i + 1]? = some c := by simpa using hi
    rw [commas_first l h44 (i + 1) c hi']
    have e1 : (45 :: commasL l).length - (i + 2) = (commasL l).length - (i + 1) := by simp
    rw [e1]
    constructor
    · intro h4
      refine ⟨h4, by omega, ?_⟩
      have : (45 :: commasL l)[i + 2 - 1]? = (commasL l)[i]? := by simp
      rw [this]
      exact fun e => hne _ _ e rfl
    · exact fun h => h.1
end Go.Proofs.YtpknbdgmpfhcnaaGreatDoor
