/- The walk of CodesSigns: of two sections the first one writes what is not below 0, the second one what is, both without the sign; of one alone a - stands ahead. -/
import Derived.Test.YtpknbdgmpfhcnaaGreatDoorCsW
namespace Go.Proofs.YtpknbdgmpfhcnaaGreatDoor
set_option linter.unusedVariables false
set_option linter.unusedSimpArgs false
open Go.RowKit
theorem SecOk.num {s : Sec} (n : Int) (hk : s.kind = 1) (hh : s.hundreds = 0) (h1 : s.ps.length ≤ 60) (h2 : ∀ p ∈ s.ps, p.s.length ≤ 60) (h3 : ∀ p ∈ s.ps, p.kind ≠ 2) : SecOk s n :=
  ⟨h1, h2, fun h => absurd (hk.symm.trans h) (by decide), fun p hp h => absurd h (h3 p hp), .inl hh⟩
theorem sizeBy_num {s : Sec} (n : Int) (hh : s.hundreds = 0) : sizeBy s n = n.natAbs := by unfold sizeBy; rw [if_neg (by rw [hh]; decide)]
theorem writeL_num (N : Nat) (s : List UInt8) : writeL N [] [⟨1, s⟩] = numberL N s := by
  simp only [writeL]
  have : pieceW N [] ⟨1, s⟩ = numberL N s := by unfold pieceW; rw [if_pos rfl]
  rw [this]
  cases numberL N s <;> simp
theorem writeL_round (N : Nat) (s : List UInt8) : writeL N [] [⟨0, [40]⟩, ⟨1, s⟩, ⟨0, [41]⟩] = (numberL N s).map fun t => [40] ++ t ++ [41] := by
  simp only [writeL]
  have h1 : pieceW N [] ⟨1, s⟩ = numberL N s := by unfold pieceW; rw [if_pos rfl]
  have h2 : pieceW N [] ⟨0, [40]⟩ = some [40] := by unfold pieceW; rw [if_neg (by decide), if_neg (by decide), if_neg (by decide)]
  have h3 : pieceW N [] ⟨0, [41]⟩ = some [41] := by unfold pieceW; rw [if_neg (by decide), if_neg (by decide), if_neg (by decide)]
  rw [h1, h2, h3]
  cases numberL N s <;> simp
theorem fits_abs (n : Int) : fitsB ((n.natAbs : Nat) : Int) = fitsB n := by
  unfold fitsB; rw [Bool.eq_iff_iff]; simp; omega
def sg1 : List Sec := [⟨1, [⟨1, [48, 46, 48, 48]⟩], 0⟩]
theorem sg1_read : readL (L ⟨#[48, 46, 48, 48]⟩) = (some sg1, 0) := by kernel_rfl
theorem sg1_keep : sg1.filter (keepB false) = sg1 := by kernel_rfl
def sg2 : List Sec := [⟨1, [⟨1, [48, 46, 48, 48]⟩], 0⟩, ⟨1, [⟨0, [40]⟩, ⟨1, [48, 46, 48, 48]⟩, ⟨0, [41]⟩], 0⟩]
theorem sg2_read : readL (L ⟨#[48, 46, 48, 48, 59, 40, 48, 46, 48, 48, 41]⟩) = (some sg2, 0) := by kernel_rfl
theorem sg2_keep : sg2.filter (keepB false) = sg2 := by kernel_rfl
def sg3 : List Sec := [⟨1, [⟨0, [40]⟩, ⟨1, [48, 46, 48, 48]⟩, ⟨0, [41]⟩], 0⟩, ⟨1, [⟨1, [48, 46, 48, 48]⟩], 0⟩]
theorem sg3_read : readL (L ⟨#[40, 48, 46, 48, 48, 41, 59, 48, 46, 48, 48]⟩) = (some sg3, 0) := by kernel_rfl
theorem sg3_keep : sg3.filter (keepB false) = sg3 := by kernel_rfl
theorem sg1_pos (n : Int) (hfit : fitsB n = true) (hn : 0 ≤ n) (w : World) (hG : G w) : Calls Tryz.prog 13 #[.string ⟨#[48, 46, 48, 48]⟩, numV n] w (NumPost (numberL n.natAbs [48, 46, 48, 48]) w) := by
  refine apply_num _ sg1 sg1_read n hfit _ w hG fun v base w1 hf hb hG => ?_
  rw [sg1_keep] at hf
  have := numbered_pos _ _ n (by simp) v base w1 hf hb hG (SecOk.num n rfl rfl (by decide) (by decide) (by decide)) hn (by intro _; decide) hfit (by decide)
  rw [sizeBy_num n rfl, writeL_num] at this
  exact this
theorem sg1_neg (n : Int) (hfit : fitsB n = true) (hn : n < 0) (w : World) (hG : G w) : Calls Tryz.prog 13 #[.string ⟨#[48, 46, 48, 48]⟩, numV n] w (NumPost ((numberL n.natAbs [48, 46, 48, 48]).map ([45] ++ ·)) w) := by
  refine apply_num _ sg1 sg1_read n hfit _ w hG fun v base w1 hf hb hG => ?_
  rw [sg1_keep] at hf
  have := numbered_neg1 _ n v base w1 hf hb hG (SecOk.num n rfl rfl (by decide) (by decide) (by decide)) hn hfit
  rw [sizeBy_num n rfl, writeL_num] at this
  exact this
theorem sg2_pos (n : Int) (hfit : fitsB n = true) (hn : 0 ≤ n) (w : World) (hG : G w) : Calls Tryz.prog 13 #[.string ⟨#[48, 46, 48, 48, 59, 40, 48, 46, 48, 48, 41]⟩, numV n] w (NumPost (numberL n.natAbs [48, 46, 48, 48]) w) := by
  refine apply_num _ sg2 sg2_read n hfit _ w hG fun v base w1 hf hb hG => ?_
  rw [sg2_keep] at hf
  have := numbered_pos _ _ n (by simp) v base w1 hf hb hG (SecOk.num n rfl rfl (by decide) (by decide) (by decide)) hn (by intro _; decide) hfit (by decide)
  rw [sizeBy_num n rfl, writeL_num] at this
  exact this
theorem sg2_neg (n : Int) (hfit : fitsB n = true) (hn : n < 0) (w : World) (hG : G w) : Calls Tryz.prog 13 #[.string ⟨#[48, 46, 48, 48, 59, 40, 48, 46, 48, 48, 41]⟩, numV n] w (NumPost ((numberL n.natAbs [48, 46, 48, 48]).map fun t => [40] ++ t ++ [41]) w) := by
  refine apply_num _ sg2 sg2_read n hfit _ w hG fun v base w1 hf hb hG => ?_
  rw [sg2_keep] at hf
  have := numbered_neg2 _ _ _ n (by simp) v base w1 hf hb hG (SecOk.num n rfl rfl (by decide) (by decide) (by decide)) hn hfit
  rw [sizeBy_num n rfl, writeL_round] at this
  exact this
theorem sg3_pos (n : Int) (hfit : fitsB n = true) (hn : 0 ≤ n) (w : World) (hG : G w) : Calls Tryz.prog 13 #[.string ⟨#[40, 48, 46, 48, 48, 41, 59, 48, 46, 48, 48]⟩, numV n] w (NumPost ((numberL n.natAbs [48, 46, 48, 48]).map fun t => [40] ++ t ++ [41]) w) := by
  refine apply_num _ sg3 sg3_read n hfit _ w hG fun v base w1 hf hb hG => ?_
  rw [sg3_keep] at hf
  have := numbered_pos _ _ n (by simp) v base w1 hf hb hG (SecOk.num n rfl rfl (by decide) (by decide) (by decide)) hn (by intro _; decide) hfit (by decide)
  rw [sizeBy_num n rfl, writeL_round] at this
  exact this
set_option maxRecDepth 100000 in
set_option maxHeartbeats 1000000 in
theorem codesSigns_walk (n : Int) (h0 : -9223372036854775808 ≤ n) (h1 : n ≤ 9223372036854775807) (w : World) (hG : G w) : Calls Tryz.prog 6 #[.int .i64 n] w (Yes w) := by
  have HF := Lib.hid (fits_any n)
  have HG := Lib.hid hG
  clear hG
  cases hfit : fitsB n with
  | false =>
    rw [hfit] at HF
    clear hfit
    go_enter Tryz.func6, Tryz.ntmps6
    go_wp2_with fail
    refine (HF.out _).mono ?_
    rintro e w1 ⟨rfl, rfl⟩
    go_wp2_with fail
    refine (lives_any _ HG.out).mono ?_
    rintro e w5 ⟨rfl, hb⟩
    go_wp2_with fail
    go_ret
    exact ⟨rfl, hb⟩
  | true =>
    rw [hfit] at HF
    obtain ⟨q, hq⟩ : ∃ q, numberL n.natAbs [48, 46, 48, 48] = q := ⟨_, rfl⟩
    have hN : fitsB ((n.natAbs : Nat) : Int) = true := by rw [fits_abs, hfit]
    have HA1 := Lib.hid (fun w hG => sg1_pos _ hN (by omega) w hG)
    rw [Int.natAbs_natCast, hq] at HA1
    have hmx : max n (-n) = ((n.natAbs : Nat) : Int) := by omega
    have hbd : n.natAbs ≤ 1000000000000000000 := (size_max n hfit).2
    have HFit := Lib.hid hfit; have HQ := Lib.hid hq
    clear hfit hq hN
    obtain ⟨N, hNN⟩ : ∃ N, n.natAbs = N := ⟨_, rfl⟩
    rw [hNN] at hmx hbd HA1
    have HNN := Lib.hid hNN
    have hn1 : -1000000000000000000 ≤ n := by omega
    have hn2 : n ≤ 1000000000000000000 := by omega
    clear hNN h0 h1
    cases q with
    | none =>
      go_enter Tryz.func6, Tryz.ntmps6
      have HB0 : Hid (Below w.heap.size w w) := Below.refl _ _
      have HG0 := HG
      go_wp2_with fail
      refine (HF.out _).mono ?_
      rintro e w1 ⟨rfl, rfl⟩
      go_wp2_with fail
      refine (number_mk _ _).mono ?_
      rintro e w2 ⟨rfl, hb⟩
      have HB1 := Lib.hid (HB0.out.trans (hb.mono HB0.out.size)); have HG1 := G.below2 HG0 hb
      clear hb
      unfold numV at *
      go_wp2_with fail
      refine (HA1.out _ HG1.out).mono ?_
      rintro e w3 ⟨hb, rfl⟩
      have HB2 := Lib.hid (HB1.out.trans (hb.mono HB1.out.size)); have HG2 := G.below2 HG1 hb
      clear hb
      go_wp2_with fail
      refine (lives_any _ HG2.out).mono ?_
      rintro e w9 ⟨rfl, hb⟩
      go_wp2_with fail
      go_ret
      exact ⟨rfl, HB2.out.trans (hb.mono HB2.out.size)⟩
    | some t =>
      have htl : t.length ≤ 300 := numberL_len _ _ t (by decide) HQ.out
      have hc1 : (⟨#[45]⟩ : ByteArray) ++ ⟨t.toArray⟩ = ⟨(45 :: t).toArray⟩ := cat_B [45] t
      have hc2 : (⟨#[40]⟩ : ByteArray) ++ ⟨t.toArray⟩ = ⟨(40 :: t).toArray⟩ := cat_B [40] t
      have hc3 : (⟨(40 :: t).toArray⟩ : ByteArray) ++ ⟨#[41]⟩ = ⟨([40] ++ t ++ [41]).toArray⟩ := cat_B (40 :: t) [41]
      have hl1 : 1 + t.length ≤ 301 := by omega
      have hl2 : t.length + 1 + 1 ≤ 302 := by omega
      have hl3 : (40 :: t).length ≤ 301 := by simp; omega
      by_cases hn : n < 0
      · have hd : decide (n < 0) = true := by simpa using hn
        have HA2 := Lib.hid (fun w hG => sg1_neg n HFit.out hn w hG)
        have HA3 := Lib.hid (fun w hG => sg2_neg n HFit.out hn w hG)
        rw [HNN.out] at HA2 HA3
        rw [show numberL N [48, 46, 48, 48] = some t by rw [← HNN.out]; exact HQ.out] at HA2 HA3
        clear hn
        unfold numV at *
        go_enter Tryz.func6, Tryz.ntmps6
        have HB0 : Hid (Below w.heap.size w w) := Below.refl _ _
        have HG0 := HG
        go_wp2_with fail
        refine (HF.out _).mono ?_
        rintro e w1 ⟨rfl, rfl⟩
        go_wp2_with fail
        refine (number_mk _ _).mono ?_
        rintro e w2 ⟨rfl, hb⟩
        have HB1 := Lib.hid (HB0.out.trans (hb.mono HB0.out.size)); have HG1 := G.below2 HG0 hb
        clear hb
        unfold numV at *
        go_wp2_with fail
        refine (HA1.out _ HG1.out).mono ?_
        rintro e w3 ⟨hb, rfl⟩
        have HB2 := Lib.hid (HB1.out.trans (hb.mono HB1.out.size)); have HG2 := G.below2 HG1 hb
        clear hb
        go_wp2_with fail
        refine (number_mk _ _).mono ?_
        rintro e u2 ⟨rfl, hb⟩
        have HB3 := Lib.hid (HB2.out.trans (hb.mono HB2.out.size)); have HG3 := G.below2 HG2 hb
        clear hb
        unfold numV
        go_wp2_with fail
        refine (is_yes _ _ _ _ _ _ _ HA2.out _ HG3.out).mono ?_
        rintro e v2 ⟨rfl, hb⟩
        have HB4 := Lib.hid (HB3.out.trans (hb.mono HB3.out.size)); have HG4 := G.below2 HG3 hb
        clear hb
        go_wp2_with fail
        refine (number_mk _ _).mono ?_
        rintro e u4 ⟨rfl, hb⟩
        have HB5 := Lib.hid (HB4.out.trans (hb.mono HB4.out.size)); have HG5 := G.below2 HG4 hb
        clear hb
        unfold numV
        go_wp2_with fail
        refine (is_yes _ _ _ _ _ _ _ HA3.out _ HG5.out).mono ?_
        rintro e v4 ⟨rfl, hb⟩
        have HB6 := Lib.hid (HB5.out.trans (hb.mono HB5.out.size)); have HG6 := G.below2 HG5 hb
        clear hb
        go_wp2_with fail
        refine (lives_any _ HG6.out).mono ?_
        rintro e w9 ⟨rfl, hb⟩
        go_wp2_with fail
        go_ret
        exact ⟨rfl, HB6.out.trans (hb.mono HB6.out.size)⟩
      · have hd : decide (n < 0) = false := by simpa using hn
        have HA2 := Lib.hid (fun w hG => sg2_pos n HFit.out (by omega) w hG)
        have HA3 := Lib.hid (fun w hG => sg3_pos n HFit.out (by omega) w hG)
        rw [HNN.out] at HA2 HA3
        rw [show numberL N [48, 46, 48, 48] = some t by rw [← HNN.out]; exact HQ.out] at HA2 HA3
        clear hn
        unfold numV at *
        go_enter Tryz.func6, Tryz.ntmps6
        have HB0 : Hid (Below w.heap.size w w) := Below.refl _ _
        have HG0 := HG
        go_wp2_with fail
        refine (HF.out _).mono ?_
        rintro e w1 ⟨rfl, rfl⟩
        go_wp2_with fail
        refine (number_mk _ _).mono ?_
        rintro e w2 ⟨rfl, hb⟩
        have HB1 := Lib.hid (HB0.out.trans (hb.mono HB0.out.size)); have HG1 := G.below2 HG0 hb
        clear hb
        unfold numV at *
        go_wp2_with fail
        refine (HA1.out _ HG1.out).mono ?_
        rintro e w3 ⟨hb, rfl⟩
        have HB2 := Lib.hid (HB1.out.trans (hb.mono HB1.out.size)); have HG2 := G.below2 HG1 hb
        clear hb
        go_wp2_with fail
        refine (number_mk _ _).mono ?_
        rintro e u2 ⟨rfl, hb⟩
        have HB3 := Lib.hid (HB2.out.trans (hb.mono HB2.out.size)); have HG3 := G.below2 HG2 hb
        clear hb
        unfold numV
        go_wp2_with fail
        refine (is_yes _ _ _ _ _ _ _ HA2.out _ HG3.out).mono ?_
        rintro e v2 ⟨rfl, hb⟩
        have HB4 := Lib.hid (HB3.out.trans (hb.mono HB3.out.size)); have HG4 := G.below2 HG3 hb
        clear hb
        go_wp2_with fail
        refine (number_mk _ _).mono ?_
        rintro e u4 ⟨rfl, hb⟩
        have HB5 := Lib.hid (HB4.out.trans (hb.mono HB4.out.size)); have HG5 := G.below2 HG4 hb
        clear hb
        unfold numV
        go_wp2_with fail
        refine (is_yes _ _ _ _ _ _ _ HA3.out _ HG5.out).mono ?_
        rintro e v4 ⟨rfl, hb⟩
        have HB6 := Lib.hid (HB5.out.trans (hb.mono HB5.out.size)); have HG6 := G.below2 HG5 hb
        clear hb
        go_wp2_with fail
        refine (lives_any _ HG6.out).mono ?_
        rintro e w9 ⟨rfl, hb⟩
        go_wp2_with fail
        go_ret
        exact ⟨rfl, HB6.out.trans (hb.mono HB6.out.size)⟩
end Go.Proofs.YtpknbdgmpfhcnaaGreatDoor
