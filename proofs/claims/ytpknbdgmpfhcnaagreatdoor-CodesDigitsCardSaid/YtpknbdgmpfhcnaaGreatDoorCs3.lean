/- The walks of codes.place and its like. -/
import Derived.Test.YtpknbdgmpfhcnaaGreatDoorCs1
import Derived.Test.YtpknbdgmpfhcnaaGreatDoorCs2
import Derived.WalkKit
import Derived.OwnWalk
import Derived.Outline
import Derived.Lib.SplitLaws
import Derived.BigGuard
import Derived.Test.YtpknbdgmpfhcnaaGreatDoorCs0b
namespace Go.Proofs.YtpknbdgmpfhcnaaGreatDoor
set_option linter.unusedVariables false
set_option linter.unusedSimpArgs false
open Go.RowKit

theorem cut_len (l sep : List UInt8) : (Lib.cut l sep).1.length ≤ l.length ∧ (Lib.cut l sep).2.1.length ≤ l.length := by
  unfold Lib.cut
  split
  · simp; omega
  · simp

theorem c_Cut (s sep : ByteArray) (x y : List UInt8) (z : Bool) (h : Lib.cut (L s) (L sep) = (x, y, z)) (w : World) (hs : s.size < 4294967281) (hG : G w) :
    Calls Tryz.prog 29 #[.string s, .string sep] w fun e w' => e = .returned (.tuple #[.string ⟨x.toArray⟩, .string ⟨y.toArray⟩, .bool z]) ∧ ∃ n, w' = w.drewN n := by
  obtain ⟨m, hm⟩ := hG.maxLen
  refine (Tryz.strings_Cut s sep m w hs hm).mono ?_
  rintro e w' ⟨rfl, n, rfl⟩
  have h' : Lib.cut s.data.toList sep.data.toList = (x, y, z) := h
  rw [h']
  exact ⟨rfl, n, rfl⟩
theorem c_Del (l r : List UInt8) (c : UInt8) (h : Lib.replaceAll l [c] [] = r) (w : World) (hs : l.length < 4294967281) (hG : G w) :
    Calls Tryz.prog 130 #[.string ⟨l.toArray⟩, .string ⟨#[c]⟩, .string ⟨#[]⟩] w fun e w' => e = .returned (.string ⟨r.toArray⟩) ∧ Below w.heap.size w w' := by
  obtain ⟨m, hm⟩ := hG.maxLen
  subst h
  exact Tryz.strings_ReplaceAll ⟨l.toArray⟩ ⟨#[c]⟩ ⟨#[]⟩ m w hs hm (Nat.le_refl _) (by show l.length + _ * 0 ≤ _; omega)
theorem c_TrimLeft (l r : List UInt8) (c : UInt8) (h : Lib.trimLeftB l c = r) (hc : c.toNat < 128) (w : World) :
    Calls Tryz.prog 31 #[.string ⟨l.toArray⟩, .string ⟨#[c]⟩] w fun e w' => e = .returned (.string ⟨r.toArray⟩) ∧ w' = w := by
  subst h; exact Tryz.strings_TrimLeft_one ⟨l.toArray⟩ c hc w
theorem c_Trim (l r : List UInt8) (c : UInt8) (h : Lib.trimB l c = r) (hc : c.toNat < 128) (w : World) (hs : l.length ≤ 9223372036854775807) :
    Calls Tryz.prog 48 #[.string ⟨l.toArray⟩, .string ⟨#[c]⟩] w fun e w' => e = .returned (.string ⟨r.toArray⟩) ∧ ∃ n, w' = w.drewN n := by
  subst h
  refine (Tryz.strings_Trim_one ⟨l.toArray⟩ c hc w hs).mono ?_
  rintro e w' ⟨rfl, rfl | rfl⟩
  · exact ⟨rfl, 0, rfl⟩
  · exact ⟨rfl, 1, rfl⟩
theorem c_HasPrefix (l p : List UInt8) (b : Bool) (h : Lib.hasPrefix l p = b) (w : World) :
    Calls Tryz.prog 91 #[.string ⟨l.toArray⟩, .string ⟨p.toArray⟩] w fun e w' => e = .returned (.bool b) ∧ w' = w := by
  subst h; exact Tryz.strings_HasPrefix ⟨l.toArray⟩ ⟨p.toArray⟩ w
theorem c_HasSuffix (l p : List UInt8) (b : Bool) (h : Lib.hasSuffix l p = b) (w : World) (hs : l.length ≤ 9223372036854775807) :
    Calls Tryz.prog 131 #[.string ⟨l.toArray⟩, .string ⟨p.toArray⟩] w fun e w' => e = .returned (.bool b) ∧ w' = w := by
  subst h; exact Tryz.strings_HasSuffix ⟨l.toArray⟩ ⟨p.toArray⟩ w hs
theorem c_Contains (l p : List UInt8) (b : Bool) (h : Lib.contains l p = b) (w : World) (hs : l.length < 4294967281) (hG : G w) :
    Calls Tryz.prog 100 #[.string ⟨l.toArray⟩, .string ⟨p.toArray⟩] w fun e w' => e = .returned (.bool b) ∧ w' = w := by
  obtain ⟨m, hm⟩ := hG.maxLen
  subst h; exact Tryz.strings_Contains ⟨l.toArray⟩ ⟨p.toArray⟩ m w hs hm
theorem replaceAll_del_len (l r : List UInt8) (c : UInt8) (h : Lib.replaceAll l [c] [] = r) : r.length ≤ l.length := by
  subst h; rw [replaceAll_del]; exact List.length_filter_le _ _
theorem trimLeftB_len (l r : List UInt8) (c : UInt8) (h : Lib.trimLeftB l c = r) : r.length ≤ l.length := by
  subst h; exact (List.dropWhile_suffix _).length_le

set_option maxHeartbeats 1600000 in
theorem place_any (s : ByteArray) (w : World) (hs : s.size ≤ 1000) (hG : G w) :
    Calls Tryz.prog 115 #[.string s] w fun e w' => e = .returned (.bool (placeL (L s))) ∧ Below w.heap.size w w' := by
  have hl := cut_len (L s) [46]
  rw [L_len] at hl
  obtain ⟨whole, part, more, hc⟩ : ∃ a b c, Lib.cut (L s) [46] = (a, b, c) := ⟨_, _, _, rfl⟩
  rw [hc] at hl
  obtain ⟨hl1, hl2⟩ := hl
  dsimp only at hl1 hl2
  obtain ⟨bare, hb⟩ : ∃ a, Lib.replaceAll whole [44] [] = a := ⟨_, rfl⟩
  obtain ⟨zeros, hz⟩ : ∃ a, Lib.trimLeftB bare 35 = a := ⟨_, rfl⟩
  obtain ⟨tz, htz⟩ : ∃ a, Lib.trimB zeros 48 = a := ⟨_, rfl⟩
  obtain ⟨r1, hr1⟩ : ∃ a, Lib.trimLeftB part 48 = a := ⟨_, rfl⟩
  obtain ⟨r2, hr2⟩ : ∃ a, Lib.trimLeftB r1 35 = a := ⟨_, rfl⟩
  obtain ⟨hp, hhp⟩ : ∃ a, Lib.hasPrefix whole [44] = a := ⟨_, rfl⟩
  obtain ⟨hx, hhx⟩ : ∃ a, Lib.hasSuffix whole [44] = a := ⟨_, rfl⟩
  obtain ⟨ct, hct⟩ : ∃ a, Lib.contains whole [44, 44] = a := ⟨_, rfl⟩
  have HF : placeL (L s) = (!bare.isEmpty && tz.isEmpty && r2.isEmpty && !hp && !hx && !ct) := by
    unfold placeL; rw [hc]; dsimp only; rw [hb, hz, htz, hr1, hr2, hhp, hhx, hct]
  rw [HF]
  clear HF
  have hlb := replaceAll_del_len _ _ _ hb
  have hlz := trimLeftB_len _ _ _ hz
  have Kc := Lib.hid hc; have Kb := Lib.hid hb; have Kz := Lib.hid hz; have Ktz := Lib.hid htz; have Kr1 := Lib.hid hr1; have Kr2 := Lib.hid hr2; have Khp := Lib.hid hhp; have Khx := Lib.hid hhx; have Kct := Lib.hid hct
  clear hc hb hz htz hr1 hr2 hhp hhx hct
  go_enter Tryz.func115, Tryz.ntmps115
  go_wp2_with (go_at_call 29; refine (c_Cut _ _ _ _ _ Kc.out _ (by omega) hG).mono ?_; rintro e w' ⟨rfl, n, rfl⟩)
  refine (c_Del _ _ _ Kb.out _ (by omega) (hG.drewN n)).mono ?_
  rintro e w1 ⟨rfl, hB1⟩
  have hB2 : Below w.heap.size w w1 := ⟨hB1.os, hB1.tape, hB1.output, by have := hB1.size; simpa using this, fun k hk => hB1.block k (by simpa using hk)⟩
  have hG1 := hG.below' hB2
  clear hB1
  go_wp2_with fail
  refine (c_TrimLeft _ _ 35 Kz.out (by decide) _).mono ?_
  rintro e w' ⟨rfl, rfl⟩
  go_wp2_with fail
  refine (c_TrimLeft _ _ 48 Kr1.out (by decide) _).mono ?_
  rintro e w' ⟨rfl, rfl⟩
  go_wp2_with fail
  refine (c_TrimLeft _ _ 35 Kr2.out (by decide) _).mono ?_
  rintro e w' ⟨rfl, rfl⟩
  go_wp2_with fail
  · have h1 : bare = [] := by assumption
    go_ret
    exact ⟨by rw [h1]; rfl, hB2⟩
  refine (c_Trim _ _ 48 Ktz.out (by decide) _ (by omega)).mono ?_
  rintro e w2 ⟨rfl, n2, rfl⟩
  go_wp2_with fail
  rotate_left
  · have h1 : ¬ r2 = [] := by assumption
    go_ret
    refine ⟨?_, below_drewN hB2 n2⟩
    have h2 : r2.isEmpty = false := by simpa using h1
    simp [h2]
  · have h1 : ¬ tz = [] := by assumption
    go_ret
    refine ⟨?_, below_drewN hB2 n2⟩
    have h2 : tz.isEmpty = false := by simpa using h1
    simp [h2]
  have h1 : ¬ bare = [] := by assumption
  have h2 : tz = [] := by assumption
  have h3 : r2 = [] := by assumption
  have K1 : Hid (bare.isEmpty = false) := by simpa [Hid] using h1
  have hB3 : Below w.heap.size w (w'.drewN n2) := below_drewN hB2 n2
  have E1 : Hid ((!bare.isEmpty && tz.isEmpty && r2.isEmpty && !hp && !hx && !ct) = (!hp && !hx && !ct)) := by
    show _ = _
    rw [K1.out, h2, h3]; rfl
  clear h1 h2 h3
  refine (c_HasPrefix _ [44] _ Khp.out _).mono ?_
  rintro e w2 ⟨rfl, rfl⟩
  cases hp with
  | true =>
    go_wp2_with fail
    go_ret
    exact ⟨by rw [E1.out]; rfl, hB3⟩
  | false =>
    go_wp2_with fail
    refine (c_HasSuffix _ [44] _ Khx.out _ (by omega)).mono ?_
    rintro e w2 ⟨rfl, rfl⟩
    cases hx with
    | true =>
      go_wp2_with fail
      go_ret
      exact ⟨by rw [E1.out]; rfl, hB3⟩
    | false =>
      go_wp2_with fail
      refine (c_Contains _ [44, 44] _ Kct.out _ (by omega) (hG1.drewN n2)).mono ?_
      rintro e w2 ⟨rfl, rfl⟩
      go_wp2_with fail
      go_ret
      exact ⟨by have := K1.out; rw [E1.out]; cases ct <;> simp [this], hB3⟩
end Go.Proofs.YtpknbdgmpfhcnaaGreatDoor
