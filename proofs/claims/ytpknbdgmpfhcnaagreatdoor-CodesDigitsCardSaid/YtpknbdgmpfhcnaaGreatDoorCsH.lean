/- The plain law: what the program reads is what the reference reads. -/
import Derived.Test.YtpknbdgmpfhcnaaGreatDoorCsG
namespace Go.Proofs.YtpknbdgmpfhcnaaGreatDoor
set_option linter.unusedVariables false
set_option linter.unusedSimpArgs false
open Go.RowKit

theorem contains_cons (b : UInt8) (l sub : List UInt8) : Lib.contains (b :: l) sub = (sub.isPrefixOf (b :: l) || Lib.contains l sub) := by
  unfold Lib.contains
  have hge := Lib.index_ge l sub
  rw [Lib.index]
  by_cases h : sub.isPrefixOf (b :: l) = true
  · simp [h]
  · rw [if_neg h]
    have h' : sub.isPrefixOf (b :: l) = false := by rw [Bool.eq_false_iff]; exact h
    rw [h', Bool.false_or]
    by_cases h1 : Lib.index l sub = -1
    · simp [h1]
    · rw [if_neg (by simpa using h1)]
      congr 1
      apply propext
      constructor <;> intro _ <;> omega
theorem index_dot (s : List UInt8) : Lib.index s [46] = if (46 : UInt8) ∈ s then ((preP s).length : Int) else -1 := by
  induction s with
  | nil => rfl
  | cons b l ih =>
    rw [Lib.index]
    by_cases hb : b = 46
    · subst hb
      simp [preP]
    · have h1 : ([46] : List UInt8).isPrefixOf (b :: l) = false := by simp [List.isPrefixOf]; exact fun e => hb e.symm
      rw [h1, if_neg (by simp), ih]
      have h2 : ((46 : UInt8) ∈ b :: l) ↔ (46 ∈ l) := by simp [Ne.symm hb]
      by_cases hl : (46 : UInt8) ∈ l
      · rw [if_pos hl, if_pos (h2.2 hl)]
        rw [if_neg (by simp)]
        unfold preP
        rw [List.takeWhile_cons, if_pos (by simpa using hb)]
        simp
      · rw [if_neg hl, if_neg (fun h => hl (h2.1 h))]; rfl
theorem preP_none {s : List UInt8} (h : (46 : UInt8) ∉ s) : preP s = s := by
  unfold preP
  induction s with
  | nil => rfl
  | cons b l ih =>
    simp only [List.mem_cons, not_or] at h
    rw [List.takeWhile_cons, if_pos (by simpa using fun e => h.1 e.symm), ih h.2]
theorem cut_one (s : List UInt8) : (Lib.cut s [46]).1 = preP s := by
  unfold Lib.cut
  rw [index_dot]
  by_cases h : (46 : UInt8) ∈ s
  · rw [if_pos h, if_pos (by omega)]
    show s.take ((preP s).length : Int).toNat = _
    rw [Int.toNat_natCast, preP_take]
  · rw [if_neg h, if_neg (by omega), preP_none h]
theorem cut_two (s : List UInt8) : (Lib.cut s [46]).2.1 = s.drop ((preP s).length + 1) := by
  unfold Lib.cut
  rw [index_dot]
  by_cases h : (46 : UInt8) ∈ s
  · rw [if_pos h, if_pos (by omega)]
    show s.drop (((preP s).length : Int).toNat + 1) = _
    rw [Int.toNat_natCast]
  · rw [if_neg h, if_neg (by omega), preP_none h]
    simp
theorem all_dropWhile (p : UInt8 → Bool) (l : List UInt8) : (l.dropWhile p).all p = l.all p := by
  induction l with
  | nil => rfl
  | cons b l ih =>
    rw [List.dropWhile_cons]
    by_cases h : p b = true
    · rw [if_pos h, ih, List.all_cons, h, Bool.true_and]
    · rw [if_neg h]
theorem empty_dropWhile (p : UInt8 → Bool) (l : List UInt8) : (l.dropWhile p).isEmpty = l.all p := by
  induction l with
  | nil => rfl
  | cons b l ih =>
    rw [List.dropWhile_cons]
    by_cases h : p b = true
    · rw [if_pos h, ih, List.all_cons, h, Bool.true_and]
    · rw [if_neg h, List.all_cons]; simp [h]
theorem trimB_empty (l : List UInt8) (c : UInt8) : (Lib.trimB l c).isEmpty = l.all (· == c) := by
  unfold Lib.trimB Lib.trimLeftB Lib.trimRightB
  rw [empty_dropWhile, List.all_reverse, all_dropWhile, List.all_reverse]

def CC : UInt8 → List UInt8 → Bool
  | _, [] => true
  | p, c :: r => if c = 44 then (p != 44) && !r.isEmpty && CC 44 r else CC c r
def WW : Bool → List UInt8 → Bool
  | z, l => if z = true then (l.filter (· != 44)).all (· == 48) else ((l.filter (· != 44)).dropWhile (· == 35)).all (· == 48)
theorem wholeR_eq : ∀ (l : List UInt8) (p : UInt8) (z g : Bool), (∀ b ∈ l, b = 48 ∨ b = 35 ∨ b = 44) → wholeR p z g l = if CC p l = true ∧ WW z l = true then some (g || l.any (· != 44)) else none
  | [], p, z, g, _ => by cases z <;> simp [wholeR, CC, WW]
  | c :: r, p, z, g, h => by
    have hr : ∀ b ∈ r, b = 48 ∨ b = 35 ∨ b = 44 := fun b hb => h b (by simp [hb])
    rcases h c (by simp) with rfl | rfl | rfl
    · rw [wholeR_sign (by decide) (by decide), wholeR_eq r _ _ _ hr]
      cases z <;> simp [CC, WW]
    · cases z
      · rw [wholeR_hash, wholeR_eq r _ _ _ hr]
        simp [CC, WW]
      · rw [wholeR_hash_no]
        simp [WW]
    · by_cases hp : p = 44 ∨ r = []
      · rw [wholeR_comma_no hp, if_neg]
        rintro ⟨h1, _⟩
        simp only [CC, if_true, Bool.and_eq_true] at h1
        rcases hp with hp | hp
        · simp [hp] at h1
        · simp [hp] at h1
      · simp only [not_or] at hp
        rw [wholeR_comma hp.1 hp.2, wholeR_eq r _ _ _ hr]
        have e1 : CC p (44 :: r) = CC 44 r := by simp [CC, hp.1, hp.2]
        have e2 : WW z (44 :: r) = WW z r := by simp [WW]
        rw [e1, e2]
        simp
theorem suffix_cons (c : UInt8) (r : List UInt8) : Lib.hasSuffix (c :: r) [44] = ((c == 44 && r.isEmpty) || Lib.hasSuffix r [44]) := by
  unfold Lib.hasSuffix
  rw [Bool.eq_iff_iff]
  simp only [List.isSuffixOf_iff_suffix, List.suffix_cons_iff, Bool.or_eq_true, Bool.and_eq_true, beq_iff_eq, List.isEmpty_iff]
  constructor
  · rintro (h | h)
    · injection h with h1 h2; exact .inl ⟨h1.symm, h2.symm⟩
    · exact .inr h
  · rintro (⟨h1, h2⟩ | h)
    · subst h1; subst h2; exact .inl rfl
    · exact .inr h
theorem CC_eq : ∀ (l : List UInt8) (p : UInt8), CC p l = (!(p == 44 && Lib.hasPrefix l [44]) && !Lib.hasSuffix l [44] && !Lib.contains l [44, 44])
  | [], p => by simp [CC, Lib.hasPrefix, Lib.hasSuffix, Lib.contains, Lib.index]
  | c :: r, p => by
    rw [suffix_cons, contains_cons, CC]
    by_cases hc : c = 44
    · subst hc
      rw [if_pos rfl, CC_eq r 44]
      have e1 : Lib.hasPrefix (44 :: r) [44] = true := by simp [Lib.hasPrefix, List.isPrefixOf]
      have e2 : ([44, 44] : List UInt8).isPrefixOf (44 :: r) = Lib.hasPrefix r [44] := by simp [Lib.hasPrefix, List.isPrefixOf]
      rw [e1, e2]
      have e3 : (p != 44) = !(p == 44) := rfl
      rw [e3]
      cases (p == 44) <;> cases r.isEmpty <;> cases Lib.hasPrefix r [44] <;> cases Lib.hasSuffix r [44] <;> cases Lib.contains r [44, 44] <;> simp_all
    · rw [if_neg hc, CC_eq r c]
      have e1 : Lib.hasPrefix (c :: r) [44] = false := by simp [Lib.hasPrefix, List.isPrefixOf]; exact fun e => hc e.symm
      have e2 : ([44, 44] : List UInt8).isPrefixOf (c :: r) = false := by simp [List.isPrefixOf]; exact fun e => absurd e.symm hc
      have e3 : (c == 44) = false := by simpa using hc
      rw [e1, e2, e3]
      simp
theorem fracR_true : ∀ (l : List UInt8), (∀ b ∈ l, b = 48 ∨ b = 35 ∨ b = 44 ∨ b = 46) → fracR true l = l.all (· == 35)
  | [], _ => rfl
  | c :: r, h => by
    have ih := fracR_true r (fun b hb => h b (by simp [hb]))
    rcases h c (by simp) with rfl | rfl | rfl | rfl <;> simp [fracR, ih]
theorem fracR_false : ∀ (l : List UInt8), (∀ b ∈ l, b = 48 ∨ b = 35 ∨ b = 44 ∨ b = 46) → fracR false l = ((l.dropWhile (· == 48)).dropWhile (· == 35)).isEmpty
  | [], _ => rfl
  | c :: r, h => by
    have ih := fracR_false r (fun b hb => h b (by simp [hb]))
    have it := fracR_true r (fun b hb => h b (by simp [hb]))
    rcases h c (by simp) with rfl | rfl | rfl | rfl
    · simp [fracR, ih]
    · simp [fracR, it, empty_dropWhile]
    · simp [fracR]
    · simp [fracR]
theorem place_eq (s : List UInt8) (h : ∀ b ∈ s, b = 48 ∨ b = 35 ∨ b = 44 ∨ b = 46) : placeL s = placeR s := by
  have hp : ∀ b ∈ preP s, b = 48 ∨ b = 35 ∨ b = 44 := by
    intro b hb
    have h1 := h b ((List.takeWhile_prefix _).subset hb)
    have h2 : b ≠ 46 := by
      have : ∀ (l : List UInt8), b ∈ l.takeWhile (· != 46) → b ≠ 46 := by
        intro l
        induction l with
        | nil => intro h; simp at h
        | cons x l ih =>
          intro h
          rw [List.takeWhile_cons] at h
          split at h
          · rename_i hx
            rcases List.mem_cons.1 h with rfl | h
            · simpa using hx
            · exact ih h
          · simp at h
      exact this s hb
    rcases h1 with h1 | h1 | h1 | h1
    · exact .inl h1
    · exact .inr (.inl h1)
    · exact .inr (.inr h1)
    · exact absurd h1 h2
  have hd : ∀ b ∈ s.drop ((preP s).length + 1), b = 48 ∨ b = 35 ∨ b = 44 ∨ b = 46 := fun b hb => h b (List.mem_of_mem_drop hb)
  unfold placeL placeR
  rw [cut_one, cut_two, replaceAll_del, trimB_empty, wholeR_eq _ _ _ _ hp, fracR_false _ hd, CC_eq]
  unfold Lib.trimLeftB
  have e1 : WW false (preP s) = (List.dropWhile (· == 35) (List.filter (· != 44) (preP s))).all (· == 48) := rfl
  have e2 : (!(List.filter (· != 44) (preP s)).isEmpty) = (preP s).any (· != 44) := by
    induction preP s with
    | nil => rfl
    | cons b l ih =>
      by_cases hb : (b != 44) = true
      · rw [List.filter_cons, if_pos hb, List.any_cons, hb]; rfl
      · rw [List.filter_cons, if_neg hb, List.any_cons, ih]; simp [hb]
  rw [← e1, e2]
  generalize WW false (preP s) = a
  generalize (preP s).any (· != 44) = b
  generalize Lib.hasPrefix (preP s) [44] = c
  generalize Lib.hasSuffix (preP s) [44] = d
  generalize Lib.contains (preP s) [44, 44] = e
  generalize (List.dropWhile _ (List.dropWhile _ _)).isEmpty = f
  cases a <;> cases b <;> cases c <;> cases d <;> cases e <;> cases f <;> rfl

theorem row_rep (c : UInt8) (q : List UInt8) : rowL [c] q = List.replicate (rowL [c] q).length c := by
  rw [List.eq_replicate_iff]
  refine ⟨rfl, ?_⟩
  intro b hb
  unfold rowL at hb
  induction q with
  | nil => simp at hb
  | cons x q ih =>
    rw [List.takeWhile_cons] at hb
    split at hb
    · rename_i hx
      rcases List.mem_cons.1 hb with rfl | hb
      · simpa using hx
      · exact ih hb
    · simp at hb
theorem days_table : (List.range 60).all (fun n => [121, 109, 100].all fun c => dayOk (List.replicate (n + 1) c) == daysR c (n + 1)) = true := by decide +kernel
theorem days_eq (c : UInt8) (hc : c = 121 ∨ c = 109 ∨ c = 100) (n : Nat) (h1 : 1 ≤ n) (h2 : n ≤ 60) : dayOk (List.replicate n c) = daysR c n := by
  have h := List.all_eq_true.1 days_table (n - 1) (by simp; omega)
  have h' := List.all_eq_true.1 h c (by simp; omega)
  rw [show n - 1 + 1 = n by omega] at h'
  exact eq_of_beq h'
theorem row_mem {set q : List UInt8} {b : UInt8} (h : b ∈ rowL set q) : b ∈ set := by
  unfold rowL at h
  induction q with
  | nil => simp at h
  | cons x q ih =>
    rw [List.takeWhile_cons] at h
    split at h
    · rename_i hx
      rcases List.mem_cons.1 h with rfl | h
      · simpa using hx
      · exact ih h
    · simp at h
theorem next_eq (q : List UInt8) (hl : q.length ≤ 60) : nextL q = nextR q := by
  cases q with
  | nil => rfl
  | cons c r =>
    rw [nextL_cons, nextR]
    split
    · rfl
    · split
      · rfl
      · by_cases hw : c ∈ wordSet
        · rw [if_pos hw, if_pos (show wordSet.contains c = true by simpa using hw)]
        · rw [if_neg hw, if_neg (show ¬ (wordSet.contains c = true) by simpa using hw)]
          by_cases hn : c ∈ numSet
          · rw [if_pos hn, if_pos (show numSet.contains c = true by simpa using hn)]
            unfold numL
            rw [place_eq]
            intro b hb
            have := row_mem hb
            simpa [numSet] using this
          · rw [if_neg hn, if_neg (show ¬ (numSet.contains c = true) by simpa using hn)]
            split
            · rfl
            · by_cases hd : c = 121 ∨ c = 109 ∨ c = 100
              · rw [if_pos hd, if_pos (show [121, 109, 100].contains c = true by simpa using hd)]
                unfold partL
                have h1 := row_pos (set := [c]) (c := c) (r := r) (by simp)
                have h2 := row_le [c] (c :: r)
                rw [show dayOk (rowL [c] (c :: r)) = daysR c (rowL [c] (c :: r)).length by
                  conv => lhs; rw [row_rep]
                  exact days_eq c hd _ h1 (by omega)]
              · rw [if_neg hd, if_neg (show ¬ ([121, 109, 100].contains c = true) by simpa using hd)]
end Go.Proofs.YtpknbdgmpfhcnaaGreatDoor
