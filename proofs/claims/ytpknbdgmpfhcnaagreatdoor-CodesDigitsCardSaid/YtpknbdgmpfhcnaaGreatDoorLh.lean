/- The walk of CodesDigits: with six decimal places a number is written so that it is read as it was. -/
import Derived.Test.YtpknbdgmpfhcnaaGreatDoorLc
import Derived.Test.YtpknbdgmpfhcnaaGreatDoorLg
namespace Go.Proofs.YtpknbdgmpfhcnaaGreatDoor
set_option linter.unusedVariables false
set_option linter.unusedSimpArgs false
open Go.RowKit
theorem cut_flag (s : List UInt8) (h : (46 : UInt8) ∈ s) : (Lib.cut s [46]).2.2 = true := by
  unfold Lib.cut
  have : ¬ Lib.index s [46] = -1 := fun e => (index1_none s 46).1 e h
  have := Lib.index_ge s [46]
  rw [if_pos (by omega)]
theorem cut_dot (W F : List UInt8) (h : ∀ c ∈ W, c ≠ 46) : Lib.cut (W ++ [46] ++ F) [46] = (W, F, true) := by
  have hp : preP (W ++ [46] ++ F) = W := by
    unfold preP
    rw [List.append_assoc, List.takeWhile_append_of_pos (by intro c hc; simpa using h c hc)]
    simp
  have h1 := cut_one (W ++ [46] ++ F); have h2 := cut_two (W ++ [46] ++ F); have h3 := cut_flag (W ++ [46] ++ F) (by simp)
  rw [hp] at h1 h2
  have h4 : (W ++ [46] ++ F).drop (W.length + 1) = F := by
    rw [show W.length + 1 = (W ++ [46]).length by simp, List.drop_left]
  rw [h4] at h2
  exact Prod.ext h1 (Prod.ext h2 h3)
theorem divR_one (N : Nat) : divR N 1 = N := by unfold divR; rw [if_neg (by omega)]; omega
theorem round_six (N : Nat) (h : N ≤ 1000000000000000000) : roundL N 6 = ((N : Int), 0) := by
  unfold roundL
  rw [show 10 ^ (6 - 6) = 1 by decide, divR_one, Nat.mul_one]
  unfold toldL
  rw [if_pos (by unfold fitsB; simp; omega)]
/-- The six digits behind the point. -/
def fracD (N : Nat) : List UInt8 := (Lib.decDigits (1000000 + N % 1000000)).drop 1
theorem dec7 (r : Nat) (h : r < 1000000) : ∃ F, Lib.decDigits (1000000 + r) = 49 :: F ∧ F.length = 6 := by
  have hl : (Lib.decDigits (1000000 + r)).length = 7 := by
    rw [Lib.decDigits_length]
    exact Lib.nDigits_unique 6 _ (by omega) (by omega)
  have h0 : (Lib.decDigits (1000000 + r))[0]? = some 49 := by
    rw [Lib.decDigits_eq]
    have hn : Lib.nDigits (1000000 + r) = 7 := Lib.nDigits_unique 6 _ (by omega) (by omega)
    rw [hn]
    simp only [List.getElem?_map]
    rw [show (List.range 7)[0]? = some 0 by decide]
    simp only [Option.map_some, Option.some.injEq]
    unfold Lib.dg
    have : (1000000 + r) / 10 ^ 6 = 1 := by omega
    rw [show 7 - 1 - 0 = 6 by decide, this]
    decide
  generalize Lib.decDigits (1000000 + r) = D at *
  match D, hl, h0 with
  | [], hl, _ => simp at hl
  | c :: F, hl, h0 => exact ⟨F, by simp at h0; rw [h0], by simpa using hl⟩
theorem fracD_len (N : Nat) : (fracD N).length = 6 := by
  obtain ⟨F, h1, h2⟩ := dec7 (N % 1000000) (Nat.mod_lt _ (by decide))
  unfold fracD; rw [h1]; exact h2
theorem fracD_dig (N : Nat) : ∀ c ∈ fracD N, isDig c := fun c hc => decDigits_dig _ _ (Nat.le_refl _) c (List.mem_of_mem_drop hc)
theorem fracD_val (N a : Nat) : foldV a (fracD N) = a * 1000000 + N % 1000000 := by
  obtain ⟨F, h1, h2⟩ := dec7 (N % 1000000) (Nat.mod_lt _ (by decide))
  have hv := foldV_dec _ _ (Nat.le_refl (1000000 + N % 1000000))
  unfold fracD
  rw [h1] at hv ⊢
  show foldV a F = _
  rw [foldV_cons, foldV_lin, h2] at hv
  have hs : stepV 0 49 = 1 := by unfold stepV; simp
  rw [hs] at hv
  rw [foldV_lin, h2]
  have : (10 : Nat) ^ 6 = 1000000 := by decide
  rw [this] at hv ⊢
  rw [Nat.one_mul] at hv
  rw [Nat.add_left_cancel hv]
theorem frac_six (N : Nat) : fracL N [48, 48, 48, 48, 48, 48] = fracD N := by
  have hl := fracD_len N
  unfold fracL
  have hc : ([48, 48, 48, 48, 48, 48] : List UInt8).count 48 = 6 := by decide
  simp only [hc, List.length_cons, List.length_nil]
  have hd : (Lib.itoa ((1000000 + N % 1000000 : Nat) : Int)).drop 1 = fracD N := by rw [Lib.itoa_nonneg]; rfl
  rw [hd]
  have h1 : ∀ z : List UInt8, (fracD N ++ z).take 6 = fracD N := by intro z; rw [← hl, List.take_left]
  rw [h1]
  simp [Lib.trimRightB]
theorem wholeL_len (N : Nat) (h : N ≤ 1000000000000000000) : (wholeL N 1).length ≤ 13 ∧ wholeL N 1 ≠ [] := by
  have hl : (if 1000000 ≤ N then Lib.itoa ((N / 1000000 : Nat) : Int) else []).length ≤ 13 := by
    split
    · rw [Lib.itoa_nonneg]; exact dec_len 13 _ (by omega) (by omega)
    · simp
  unfold wholeL
  constructor
  · rw [List.length_append, Lib.repeatL_length]
    simp only [List.length_cons, List.length_nil]
    omega
  · split
    · intro e
      have := congrArg List.length e
      rw [List.length_append] at this
      have h1 := itoa_pos ((N / 1000000 : Nat) : Int)
      rw [List.length_nil] at this; omega
    · simp [Lib.repeatL]
theorem wholeL_val (N : Nat) : foldV 0 (wholeL N 1) = N / 1000000 := by
  unfold wholeL
  rw [foldV_app, foldV_zeros, Nat.zero_mul]
  split
  · rw [Lib.itoa_nonneg]; exact foldV_dec _ _ (Nat.le_refl _)
  · rw [foldV_nil]; omega
theorem number_six (N : Nat) (h : N ≤ 1000000000000000000) : numberL N [48, 46, 48, 48, 48, 48, 48, 48] = some (wholeL N 1 ++ [46] ++ fracD N) := by
  have h1 : Lib.cut [48, 46, 48, 48, 48, 48, 48, 48] [46] = ([48], [48, 48, 48, 48, 48, 48], true) := by kernel_rfl
  have h3 : Lib.contains [48] [44] = false := by kernel_rfl
  unfold numberL
  simp only [h1]
  rw [show min ([48, 48, 48, 48, 48, 48] : List UInt8).length 6 = 6 by decide, round_six N h, if_neg (by simp), if_pos trivial]
  simp only [Int.toNat_natCast]
  rw [outL_plain _ _ h3, frac_six]
  rfl
theorem digitsB_of {s : List UInt8} (h0 : s ≠ []) (h : ∀ c ∈ s, isDig c) : digitsB s = true := by
  unfold digitsB
  have : s.isEmpty = false := by simpa using h0
  rw [this]
  simp only [Bool.not_false, Bool.true_and, List.all_eq_true]
  exact fun c hc => (isDigB_iff c).2 (h c hc)
/-- What is written so is parsed as the number. -/
theorem parse_six (N : Nat) (h : N ≤ 1000000000000000000) (m : Bool) : parseL ((if m = true then [45] else []) ++ (wholeL N 1 ++ [46] ++ fracD N)) = (if m = true then -(N : Int) else N, 0) := by
  obtain ⟨hl, hne⟩ := wholeL_len N h
  have hdw := wholeL_dig N 1
  have hdf := fracD_dig N
  have hlf := fracD_len N
  have hp : Lib.trimPrefix ((if m = true then [45] else []) ++ (wholeL N 1 ++ [46] ++ fracD N)) [45] = wholeL N 1 ++ [46] ++ fracD N ∧ Lib.hasPrefix ((if m = true then [45] else []) ++ (wholeL N 1 ++ [46] ++ fracD N)) [45] = m := by
    cases m with
    | true => simp [Lib.trimPrefix, Lib.hasPrefix]
    | false =>
      generalize wholeL N 1 = W at *
      match W, hne with
      | [], hne => exact absurd rfl hne
      | c :: r, _ =>
        have hc : c ≠ 45 := (hdw c (by simp)).ne45
        simp [Lib.trimPrefix, Lib.hasPrefix, List.isPrefixOf, Ne.symm hc]
  unfold parseL
  rw [if_neg (by cases m <;> simp <;> omega)]
  simp only [hp.1, hp.2, cut_dot _ _ (fun c hc => (hdw c hc).ne46)]
  rw [if_neg (by rw [digitsB_of hne hdw, digitsB_of (by intro e; rw [e] at hlf; simp at hlf) hdf]; simp; omega)]
  have ht := trimLeftB_len (wholeL N 1) _ 48 rfl
  rw [if_neg (by omega)]
  have hv : foldV 0 (Lib.trimLeftB (wholeL N 1) 48 ++ (fracD N ++ [48, 48, 48, 48, 48, 48]).take 6) = N := by
    have h1 : (fracD N ++ [48, 48, 48, 48, 48, 48]).take 6 = fracD N := by rw [← hlf, List.take_left]
    rw [h1, foldV_app, foldV_trim, wholeL_val, fracD_val]
    omega
  rw [hv, if_neg (by omega)]
def dg6 : List Sec := [⟨1, [⟨1, [48, 46, 48, 48, 48, 48, 48, 48]⟩], 0⟩]
theorem dg6_read : readL (L ⟨#[48, 46, 48, 48, 48, 48, 48, 48]⟩) = (some dg6, 0) := by kernel_rfl
theorem dg6_keep : dg6.filter (keepB false) = dg6 := by kernel_rfl
/-- The text of a number that fits. -/
theorem six_apply (n : Int) (hfit : fitsB n = true) : ∃ s : List UInt8, parseL s = (n, 0) ∧ s.length ≤ 301 ∧
    (∀ w, G w → Calls Tryz.prog 13 #[.string ⟨#[48, 46, 48, 48, 48, 48, 48, 48]⟩, numV n] w (Tell s 0 w)) := by
  have hb := (size_max n hfit).2
  have hq := number_six n.natAbs hb
  have hlen := numberL_len _ _ _ (by decide) hq
  by_cases hn : n < 0
  · refine ⟨45 :: (wholeL n.natAbs 1 ++ [46] ++ fracD n.natAbs), ?_, by simp at hlen ⊢; omega, fun w hG => ?_⟩
    · have := parse_six n.natAbs hb true
      simp only [if_true, List.cons_append, List.nil_append] at this
      rw [show -((n.natAbs : Nat) : Int) = n by omega] at this
      simpa using this
    · have := apply_num _ dg6 dg6_read n hfit (some (45 :: (wholeL n.natAbs 1 ++ [46] ++ fracD n.natAbs))) w hG fun v base w1 hf hbs hG => ?_
      · exact this.mono fun e w' h => ⟨h.2, h.1⟩
      · rw [dg6_keep] at hf
        have := numbered_neg1 _ n v base w1 hf hbs hG (SecOk.num n rfl rfl (by decide) (by decide) (by decide)) hn hfit
        rw [sizeBy_num n rfl, writeL_num, hq] at this
        exact this
  · refine ⟨wholeL n.natAbs 1 ++ [46] ++ fracD n.natAbs, ?_, by simp at hlen ⊢; omega, fun w hG => ?_⟩
    · have := parse_six n.natAbs hb false
      simp only [Bool.false_eq_true, if_false, List.nil_append] at this
      rw [show ((n.natAbs : Nat) : Int) = n by omega] at this
      exact this
    · have := apply_num _ dg6 dg6_read n hfit (some (wholeL n.natAbs 1 ++ [46] ++ fracD n.natAbs)) w hG fun v base w1 hf hbs hG => ?_
      · exact this.mono fun e w' h => ⟨h.2, h.1⟩
      · rw [dg6_keep] at hf
        have := numbered_pos _ _ n (by simp) v base w1 hf hbs hG (SecOk.num n rfl rfl (by decide) (by decide) (by decide)) (by omega) (by intro _; decide) hfit (by decide)
        rw [sizeBy_num n rfl, writeL_num, hq] at this
        exact this
set_option maxRecDepth 100000 in
set_option maxHeartbeats 1000000 in
theorem codesDigits_walk (n : Int) (h0 : -9223372036854775808 ≤ n) (h1 : n ≤ 9223372036854775807) (w : World) (hG : G w) : Calls Tryz.prog 7 #[.int .i64 n] w (Yes w) := by
  have HF := Lib.hid (fits_any n)
  have HG0 := Lib.hid hG
  have HB0 : Hid (Below w.heap.size w w) := Below.refl _ _
  clear hG
  cases hfit : fitsB n with
  | false =>
    rw [hfit] at HF
    have HA := Lib.hid (fun w hG => apply_over _ dg6 dg6_read n hfit w hG)
    unfold numV at HA
    clear hfit
    go_enter Tryz.func7, Tryz.ntmps7
    go_wp2_with fail
    refine (HF.out _).mono ?_
    rintro e w1 ⟨rfl, rfl⟩
    go_wp2_with fail
    refine (number_mk _ _).mono ?_
    rintro e w2 ⟨rfl, hb⟩
    have HB1 := Lib.hid (HB0.out.trans (hb.mono HB0.out.size)); have HG1 := G.below2 HG0 hb
    clear hb
    unfold numV
    go_wp2_with fail
    refine (HA.out _ HG1.out).mono ?_
    rintro e w3 ⟨rfl, hb⟩
    have HB2 := Lib.hid (HB1.out.trans (hb.mono HB1.out.size)); have HG2 := G.below2 HG1 hb
    clear hb
    go_wp2_with fail
    refine (lives_any _ HG2.out).mono ?_
    rintro e w9 ⟨rfl, hb⟩
    go_wp2_with fail
    go_ret
    exact ⟨rfl, HB2.out.trans (hb.mono HB2.out.size)⟩
  | true =>
    rw [hfit] at HF
    obtain ⟨s, hs, hsl, C⟩ := six_apply n hfit
    have HC := Lib.hid C; have HS := Lib.hid hs
    have HP := Lib.hid (fun w hG => parse_any s w hG)
    rw [hs] at HP
    unfold numV at HC
    clear hfit C hs
    go_enter Tryz.func7, Tryz.ntmps7
    go_wp2_with fail
    refine (HF.out _).mono ?_
    rintro e w1 ⟨rfl, rfl⟩
    go_wp2_with fail
    refine (number_mk _ _).mono ?_
    rintro e w2 ⟨rfl, hb⟩
    have HB1 := Lib.hid (HB0.out.trans (hb.mono HB0.out.size)); have HG1 := G.below2 HG0 hb
    clear hb
    unfold numV
    go_wp2_with fail
    refine (HC.out _ HG1.out).mono ?_
    rintro e w3 ⟨rfl, hb⟩
    have HB2 := Lib.hid (HB1.out.trans (hb.mono HB1.out.size)); have HG2 := G.below2 HG1 hb
    clear hb
    go_wp2_with fail
    refine (HP.out _ HG2.out).mono ?_
    rintro e w4 ⟨rfl, hb⟩
    have HB3 := Lib.hid (HB2.out.trans (hb.mono HB2.out.size)); have HG3 := G.below2 HG2 hb
    clear hb
    go_wp2_with fail
    refine (lives_any _ HG3.out).mono ?_
    rintro e w9 ⟨rfl, hb⟩
    go_wp2_with fail
    go_ret
    exact ⟨rfl, HB3.out.trans (hb.mono HB3.out.size)⟩
end Go.Proofs.YtpknbdgmpfhcnaaGreatDoor
