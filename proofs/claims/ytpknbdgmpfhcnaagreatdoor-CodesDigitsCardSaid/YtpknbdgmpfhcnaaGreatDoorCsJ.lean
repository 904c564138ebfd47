/- The walks of value.Check, value.Words at numbers and texts; the number functions. -/
import Derived.Test.YtpknbdgmpfhcnaaGreatDoorCsI
import Derived.Lib.AppendIntMem
import Derived.Lib.ItoaLen
import Derived.Deep.QuietTactic
import Derived.BigQuiet
namespace Go.Proofs.YtpknbdgmpfhcnaaGreatDoor
set_option linter.unusedVariables false
set_option linter.unusedSimpArgs false
open Go.RowKit

def numV (n : Int) : Value := .agg #[.int .i64 1, .int .i64 n, .string ⟨#[]⟩, .bool false, .int .i64 0]
def textV (s : List UInt8) : Value := .agg #[.int .i64 2, .int .i64 0, .string ⟨s.toArray⟩, .bool false, .int .i64 0]
/-- Does a number fit? -/
def fitsB (n : Int) : Bool := decide (-1000000000000000000 ≤ n) && decide (n ≤ 1000000000000000000)
set_option maxHeartbeats 1000000 in
theorem fits_any (n : Int) (w : World) : Calls Tryz.prog 18 #[.int .i64 n] w fun e w' => e = .returned (.bool (fitsB n)) ∧ w' = w := by
  by_cases h1 : -1000000000000000000 ≤ n
  · have t1 : decide (-1000000000000000000 ≤ n) = true := by simpa using h1
    have HB : Hid (fitsB n = decide (n ≤ 1000000000000000000)) := by show _ = _; unfold fitsB; rw [t1]; rfl
    go_enter Tryz.func18, Tryz.ntmps18
    go_wp2_with fail
    go_ret
    exact ⟨by rw [HB.out]; rfl, rfl⟩
  · have t1 : decide (-1000000000000000000 ≤ n) = false := by simpa using h1
    have HB : Hid (fitsB n = false) := by show _ = _; unfold fitsB; rw [t1]; rfl
    clear h1
    go_enter Tryz.func18, Tryz.ntmps18
    go_wp2_with fail
    go_ret
    exact ⟨by rw [HB.out]; rfl, rfl⟩
set_option maxRecDepth 100000 in
set_option maxHeartbeats 1000000 in
theorem vcheck_num (n : Int) (w : World) : Calls Tryz.prog 23 #[numV n] w fun e w' => e = .returned (.int .i64 (if fitsB n = true then 0 else 2)) ∧ Below w.heap.size w w' := by
  unfold numV
  go_enter Tryz.func23, Tryz.ntmps23
  go_wp2_with fail
  go_region_with ((go_at_call 18; refine (fits_any n _).mono ?_; rintro e w1 ⟨rfl, rfl⟩))
  all_goals
    cases hf : fitsB n
    · go_wp2_with fail
      all_goals
        go_ret
        refine ⟨rfl, ?_⟩
        (repeat' (first | exact Below.refl _ _ | assumption | refine Below.drew ?_ | refine Below.alloc ?_ ?_ _ | refine Below.setCell ?_ ?_ _ | (simp; done) | (simp; omega) | omega))
    · go_wp2_with fail
      all_goals
        go_ret
        refine ⟨rfl, ?_⟩
        (repeat' (first | exact Below.refl _ _ | assumption | refine Below.drew ?_ | refine Below.alloc ?_ ?_ _ | refine Below.setCell ?_ ?_ _ | (simp; done) | (simp; omega) | omega))
set_option maxRecDepth 100000 in
set_option maxHeartbeats 1000000 in
theorem vcheck_text (s : List UInt8) (w : World) (hl : s.length ≤ 255) : Calls Tryz.prog 23 #[textV s] w fun e w' => e = .returned (.int .i64 0) ∧ Below w.heap.size w w' := by
  unfold textV
  have hd : decide ((s.length : Int) ≤ 255) = true := by simp; omega
  go_enter Tryz.func23, Tryz.ntmps23
  go_wp2_with fail
  go_region
  all_goals
    go_wp2_with fail
    all_goals
      go_ret
      refine ⟨rfl, ?_⟩
      (repeat' (first | exact Below.refl _ _ | assumption | refine Below.drew ?_ | refine Below.alloc ?_ ?_ _ | refine Below.setCell ?_ ?_ _ | (simp; done) | (simp; omega) | omega))
theorem c_Itoa (n : Int) (r : List UInt8) (h : Lib.itoa n = r) (h0 : -9223372036854775808 ≤ n) (h1 : n ≤ 9223372036854775807) (w : World) (hG : G w) :
    Calls Tryz.prog 59 #[.int .i64 n] w fun e w' => e = .returned (.string ⟨r.toArray⟩) ∧ Below w.heap.size w w' := by
  subst h
  refine (Tryz.strconv_Itoa n h0 h1 w hG.pow).mono ?_
  rintro e w' ⟨rfl, k, os, rfl⟩
  exact ⟨rfl, Lib.below_grow _ _ (Nat.le_refl _) _ _⟩
theorem c_Repeat (l r : List UInt8) (c : Nat) (h : Lib.repeatL l c = r) (hc : c ≤ 1000000) (hl : l.length ≤ 1000) (w : World) :
    Calls Tryz.prog 60 #[.string ⟨l.toArray⟩, .int .i64 c] w fun e w' => e = .returned (.string ⟨r.toArray⟩) ∧ Below w.heap.size w w' := by
  subst h
  refine Tryz.strings_Repeat ⟨l.toArray⟩ c w (by omega) ?_
  show l.length * c ≤ _
  have := Nat.mul_le_mul hl hc
  omega
theorem c_TrimRight (l r : List UInt8) (c : UInt8) (h : Lib.trimRightB l c = r) (hc : c.toNat < 128) (w : World) (hs : l.length ≤ 9223372036854775807) :
    Calls Tryz.prog 61 #[.string ⟨l.toArray⟩, .string ⟨#[c]⟩] w fun e w' => e = .returned (.string ⟨r.toArray⟩) ∧ w' = w := by
  subst h; exact Tryz.strings_TrimRight_one ⟨l.toArray⟩ c hc w hs
theorem c_Count (l : List UInt8) (c : UInt8) (n : Nat) (h : l.count c = n) (w : World) :
    Calls Tryz.prog 99 #[.string ⟨l.toArray⟩, .string ⟨#[c]⟩] w fun e w' => e = .returned (.int .i64 n) ∧ w' = w := by
  subst h; exact Tryz.strings_Count_one ⟨l.toArray⟩ c w
theorem cat_B (a b : List UInt8) : (⟨a.toArray⟩ : ByteArray) ++ ⟨b.toArray⟩ = ⟨(a ++ b).toArray⟩ := by
  apply L_inj
  unfold L
  simp [ByteArray.data_append]
theorem slice_to (s : List UInt8) {j : Int} (b : Nat) (hj : j = (b : Int)) (hb : b ≤ s.length) (w : World) :
    (Instr.slice 9 (.string ⟨s.toArray⟩) none (some (.int .i64 j)) none).run Tryz.prog w = .ok (.string ⟨(s.take b).toArray⟩) w := by
  subst hj
  rw [run_slice_string_to_if (P := Tryz.prog) w 9 ⟨s.toArray⟩ .i64 (b : Int) Tryz.underlying9, if_pos ⟨by omega, by show (b : Int) ≤ (s.length : Int); omega⟩, Int.toNat_natCast, extract_front]; rfl
theorem slice_from (s : List UInt8) {i : Int} (a : Nat) (hi : i = (a : Int)) (ha : a ≤ s.length) (w : World) :
    (Instr.slice 9 (.string ⟨s.toArray⟩) (some (.int .i64 i)) none none).run Tryz.prog w = .ok (.string ⟨(s.drop a).toArray⟩) w := by
  subst hi
  rw [run_slice_string_from_if (P := Tryz.prog) w 9 ⟨s.toArray⟩ .i64 (a : Int) Tryz.underlying9, if_pos ⟨by omega, by show (a : Int) ≤ (s.length : Int); omega⟩, Int.toNat_natCast, extract_end]; rfl
theorem trimRightB_len (l : List UInt8) (c : UInt8) : (Lib.trimRightB l c).length ≤ l.length := by
  unfold Lib.trimRightB
  rw [List.length_reverse]
  have := (List.dropWhile_suffix (l := l.reverse) (· == c)).length_le
  simpa using this
/-- The size of a number. -/
theorem size_max (n : Int) (hf : fitsB n = true) : max n (wrap64 (-n)) = (n.natAbs : Int) ∧ n.natAbs ≤ 1000000000000000000 := by
  unfold fitsB at hf
  simp at hf
  have : wrap64 (-n) = -n := by unfold wrap64; omega
  rw [this]
  omega
set_option maxRecDepth 100000 in
set_option maxHeartbeats 1000000 in
/-- The text that a number counts for is some text. -/
theorem print_any (n : Int) (w : World) (hG : G w) (hf : fitsB n = true) : Calls Tryz.prog 39 #[.int .i64 n] w fun e w' => (∃ s : List UInt8, e = .returned (.tuple #[.string ⟨s.toArray⟩, .int .i64 0])) ∧ Below w.heap.size w w' := by
  obtain ⟨m, hm⟩ : ∃ m, n.natAbs = m := ⟨_, rfl⟩
  obtain ⟨hmx, hmb⟩ := size_max n hf
  rw [hm] at hmx hmb
  obtain ⟨r, hr⟩ : ∃ r, Lib.itoa (m : Int) = r := ⟨_, rfl⟩
  have hrl : r.length ≤ 21 := by rw [← hr]; exact Lib.itoa_length_le _ (by omega) (by omega)
  have HR := Lib.hid hr
  clear hm hr
  have HF := Lib.hid (fits_any n); have HFF := Lib.hid hf; have HGG := Lib.hid hG
  clear hf hG
  go_enter Tryz.func39, Tryz.ntmps39
  go_wp2_with fail
  refine (HF.out _).mono ?_
  rintro e w1 ⟨rfl, rfl⟩
  rw [HFF.out]
  go_wp2_with fail
  refine (c_Itoa _ r HR.out (by omega) (by omega) _ HGG.out).mono ?_
  rintro e w1 ⟨rfl, hB1⟩
  have HB1 := Lib.hid hB1; clear hB1
  obtain ⟨z, hz⟩ : ∃ z, Lib.repeatL [48] (7 - r.length) = z := ⟨_, rfl⟩
  have hzl : z.length = 7 - r.length := by rw [← hz, Lib.repeatL_length]; simp
  have HZ := Lib.hid hz; clear hz
  have hmx2 : max 0 (7 - (r.length : Int)) = ((7 - r.length : Nat) : Int) := by omega
  go_wp2_with fail
  refine (c_Repeat [48] z _ HZ.out (by omega) (by simp) _).mono ?_
  rintro e w2 ⟨rfl, hB2⟩
  have HB2 := Lib.hid hB2; clear hB2
  clear hmx2
  obtain ⟨t, ht⟩ : ∃ t, z ++ r = t := ⟨_, rfl⟩
  have htl : t.length = z.length + r.length := by rw [← ht]; simp
  have hcat : (⟨z.toArray⟩ : ByteArray) ++ ⟨r.toArray⟩ = ⟨t.toArray⟩ := by rw [cat_B, ht]
  have h7 : 7 ≤ t.length ∧ t.length ≤ 28 := by omega
  clear ht
  obtain ⟨h7a, h7b⟩ := h7
  have hzr : z.length + r.length ≤ 28 := by omega
  have h6a : (0 : Int) ≤ (t.length : Int) - 6 := by omega
  have h6b : (t.length : Int) - 6 ≤ (t.length : Int) := by omega
  have hw6 : IntKind.i64.wrap ((t.length : Int) - 6) = (t.length : Int) - 6 := IntWalk.i64_in _ (by omega)
  have hlo := slice_to t (j := (t.length : Int) - 6) (t.length - 6) (by omega) (by omega)
  have hhi := slice_from t (i := (t.length : Int) - 6) (t.length - 6) (by omega) (by omega)
  obtain ⟨a, ha⟩ : ∃ a, t.take (t.length - 6) = a := ⟨_, rfl⟩
  obtain ⟨b, hb⟩ : ∃ b, t.drop (t.length - 6) = b := ⟨_, rfl⟩
  rw [ha] at hlo; rw [hb] at hhi
  have hal : a.length ≤ 28 := by rw [← ha]; simp; omega
  have hbl : b.length ≤ 28 := by rw [← hb]; simp; omega
  obtain ⟨c, hc⟩ : ∃ c, Lib.trimRightB b 48 = c := ⟨_, rfl⟩
  have HC := Lib.hid hc
  have hcl : c.length ≤ 28 := by rw [← hc]; exact Nat.le_trans (trimRightB_len b 48) hbl
  obtain ⟨c1, hc1⟩ : ∃ c1, (46 : UInt8) :: c = c1 := ⟨_, rfl⟩
  have hk1 : (⟨#[46]⟩ : ByteArray) ++ ⟨c.toArray⟩ = ⟨c1.toArray⟩ := by rw [← hc1]; exact cat_B [46] c
  have hcl1 : c1.length ≤ 29 := by rw [← hc1]; simp; omega
  have hcs : 1 + c.length ≤ 29 := by omega
  obtain ⟨d, hd⟩ : ∃ d, a ++ c1 = d := ⟨_, rfl⟩
  have hk2 : (⟨a.toArray⟩ : ByteArray) ++ ⟨c1.toArray⟩ = ⟨d.toArray⟩ := by rw [← hd]; exact cat_B a c1
  have hds : a.length + c1.length ≤ 60 := by omega
  have hdl : 1 + d.length ≤ 61 := by rw [← hd]; simp; omega
  have hal1 : 1 + a.length ≤ 61 := by omega
  have hk3 : (⟨#[45]⟩ : ByteArray) ++ ⟨d.toArray⟩ = ⟨(45 :: d).toArray⟩ := cat_B [45] d
  have hk4 : (⟨#[45]⟩ : ByteArray) ++ ⟨a.toArray⟩ = ⟨(45 :: a).toArray⟩ := cat_B [45] a
  clear ha hb hc htl hzl hc1 hd
  go_wp2_with fail
  go_region_with ((go_at_call 61; refine (c_TrimRight b c 48 HC.out (by decide) _ (by omega)).mono ?_; rintro e w3 ⟨rfl, rfl⟩))
  all_goals
    go_wp2_with fail
    all_goals
      refine bodyPost_ret (v := .tuple #[.string ⟨(_ : List UInt8).toArray⟩, .int .i64 0]) (by simp [results, Tryz.results39, go_sem]; rfl) rfl ?_
      exact ⟨⟨_, rfl⟩, (HB1.out.trans (HB2.out.mono HB1.out.size)).drew⟩
end Go.Proofs.YtpknbdgmpfhcnaaGreatDoor
