/- The walk of CodesReads: any text is a format or not, and one of words alone or not, as the document says. -/
import Derived.Test.YtpknbdgmpfhcnaaGreatDoorCsW
namespace Go.Proofs.YtpknbdgmpfhcnaaGreatDoor
set_option linter.unusedVariables false
set_option linter.unusedSimpArgs false
open Go.RowKit
set_option maxRecDepth 100000 in
set_option maxHeartbeats 1000000 in
theorem codesReads_walk (s : ByteArray) (w : World) (hG : G w) : Calls Tryz.prog 3 #[.string s] w (Yes w) := by
  have HS := Lib.hid (read_same (L s))
  have HG := Lib.hid hG
  clear hG
  obtain ⟨a, ha⟩ : ∃ a, (readL (L s)).2 = a := ⟨_, rfl⟩
  obtain ⟨b, hb⟩ : ∃ b, plainL (L s) = b := ⟨_, rfl⟩
  have HA : Hid ((readR (L s)).2 = a) := by show _ = _; rw [← HS.out.1, ha]
  have HB : Hid (rplainOf (readR (L s)).1 = b) := by show _ = _; rw [← HS.out.2, hb]
  have C1 := Lib.hid (fun w hG => check_any s w hG); have C2 := Lib.hid (fun w => rcheck_any (L s) w); have C3 := Lib.hid (fun w hG => plain_any s w hG); have C4 := Lib.hid (fun w => rplain_any (L s) w)
  rw [ha] at C1; rw [HA.out] at C2; rw [hb] at C3; rw [HB.out] at C4
  clear HS HA HB ha hb
  go_enter Tryz.func3, Tryz.ntmps3
  go_wp2_with fail
  refine (C1.out _ HG.out).mono ?_
  rintro e w1 ⟨rfl, hb⟩
  have HB1 := Lib.hid hb; have HG1 := G.below2 HG hb
  clear hb
  go_wp2_with fail
  refine (C2.out _).mono ?_
  rintro e w2 ⟨rfl, hb⟩
  have HB2 := Lib.hid (HB1.out.trans (hb.mono HB1.out.size)); have HG2 := G.below2 HG1 hb
  clear hb
  go_wp2_with fail
  refine (C3.out _ HG2.out).mono ?_
  rintro e w3 ⟨rfl, hb⟩
  have HB3 := Lib.hid (HB2.out.trans (hb.mono HB2.out.size)); have HG3 := G.below2 HG2 hb
  clear hb
  go_wp2_with fail
  refine (C4.out _).mono ?_
  rintro e w4 ⟨rfl, hb⟩
  have HB4 := Lib.hid (HB3.out.trans (hb.mono HB3.out.size)); have HG4 := G.below2 HG3 hb
  clear hb
  go_wp2_with fail
  refine (lives_any _ HG4.out).mono ?_
  rintro e w5 ⟨rfl, hb⟩
  go_wp2_with fail
  go_ret
  exact ⟨rfl, HB4.out.trans (hb.mono HB4.out.size)⟩
end Go.Proofs.YtpknbdgmpfhcnaaGreatDoor
