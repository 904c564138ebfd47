/- The walk of lives and of CodesReads. -/
import Derived.Test.YtpknbdgmpfhcnaaGreatDoorCsV
namespace Go.Proofs.YtpknbdgmpfhcnaaGreatDoor
set_option linter.unusedVariables false
set_option linter.unusedSimpArgs false
open Go.RowKit
theorem G.below2 {w w' : World} (h : Hid (G w)) (hb : Below w.heap.size w w') : Hid (G w') := h.out.below' hb
set_option maxRecDepth 100000 in
set_option maxHeartbeats 4000000 in
theorem lives_any (w : World) (hG : G w) : Calls Tryz.prog 12 #[] w (Yes w) := by
  have HG0 := Lib.hid hG
  clear hG
  go_enter Tryz.func12, Tryz.ntmps12
  have HB0 : Hid (Below w.heap.size w w) := Below.refl _ _
  go_wp2_with fail
  refine (number_mk _ _).mono ?_
  rintro e u1 ⟨rfl, hb⟩
  have HB1 := Lib.hid (HB0.out.trans (hb.mono HB0.out.size)); have HG1 := G.below2 HG0 hb
  clear hb
  unfold numV
  go_wp2_with fail
  refine (is_yes _ _ _ _ _ _ _ exa1 _ HG1.out).mono ?_
  rintro e v1 ⟨rfl, hb⟩
  have HB2 := Lib.hid (HB1.out.trans (hb.mono HB1.out.size)); have HG2 := G.below2 HG1 hb
  clear hb
  go_wp2_with fail
  refine (number_mk _ _).mono ?_
  rintro e u2 ⟨rfl, hb⟩
  have HB3 := Lib.hid (HB2.out.trans (hb.mono HB2.out.size)); have HG3 := G.below2 HG2 hb
  clear hb
  unfold numV
  go_wp2_with fail
  refine (is_yes _ _ _ _ _ _ _ exa2 _ HG3.out).mono ?_
  rintro e v2 ⟨rfl, hb⟩
  have HB4 := Lib.hid (HB3.out.trans (hb.mono HB3.out.size)); have HG4 := G.below2 HG3 hb
  clear hb
  go_wp2_with fail
  refine (number_mk _ _).mono ?_
  rintro e u3 ⟨rfl, hb⟩
  have HB5 := Lib.hid (HB4.out.trans (hb.mono HB4.out.size)); have HG5 := G.below2 HG4 hb
  clear hb
  unfold numV
  go_wp2_with fail
  refine (is_yes _ _ _ _ _ _ _ exa3 _ HG5.out).mono ?_
  rintro e v3 ⟨rfl, hb⟩
  have HB6 := Lib.hid (HB5.out.trans (hb.mono HB5.out.size)); have HG6 := G.below2 HG5 hb
  clear hb
  go_wp2_with fail
  refine (number_mk _ _).mono ?_
  rintro e u4 ⟨rfl, hb⟩
  have HB7 := Lib.hid (HB6.out.trans (hb.mono HB6.out.size)); have HG7 := G.below2 HG6 hb
  clear hb
  unfold numV
  go_wp2_with fail
  refine (is_yes _ _ _ _ _ _ _ exa4 _ HG7.out).mono ?_
  rintro e v4 ⟨rfl, hb⟩
  have HB8 := Lib.hid (HB7.out.trans (hb.mono HB7.out.size)); have HG8 := G.below2 HG7 hb
  clear hb
  go_wp2_with fail
  refine (number_mk _ _).mono ?_
  rintro e u5 ⟨rfl, hb⟩
  have HB9 := Lib.hid (HB8.out.trans (hb.mono HB8.out.size)); have HG9 := G.below2 HG8 hb
  clear hb
  unfold numV
  go_wp2_with fail
  refine (is_yes _ _ _ _ _ _ _ exa5 _ HG9.out).mono ?_
  rintro e v5 ⟨rfl, hb⟩
  have HB10 := Lib.hid (HB9.out.trans (hb.mono HB9.out.size)); have HG10 := G.below2 HG9 hb
  clear hb
  go_wp2_with fail
  refine (text_mk _ _).mono ?_
  rintro e u6 ⟨rfl, hb⟩
  have HB11 := Lib.hid (HB10.out.trans (hb.mono HB10.out.size)); have HG11 := G.below2 HG10 hb
  clear hb
  unfold textV
  go_wp2_with fail
  refine (is_yes _ _ _ _ _ _ _ exa6 _ HG11.out).mono ?_
  rintro e v6 ⟨rfl, hb⟩
  have HB12 := Lib.hid (HB11.out.trans (hb.mono HB11.out.size)); have HG12 := G.below2 HG11 hb
  clear hb
  go_wp2_with fail
  refine (number_mk _ _).mono ?_
  rintro e u7 ⟨rfl, hb⟩
  have HB13 := Lib.hid (HB12.out.trans (hb.mono HB12.out.size)); have HG13 := G.below2 HG12 hb
  clear hb
  unfold numV
  go_wp2_with fail
  refine (is_yes _ _ _ _ _ _ _ exa7 _ HG13.out).mono ?_
  rintro e v7 ⟨rfl, hb⟩
  have HB14 := Lib.hid (HB13.out.trans (hb.mono HB13.out.size)); have HG14 := G.below2 HG13 hb
  clear hb
  go_wp2_with fail
  refine (check_any _ _ HG14.out).mono ?_
  rintro e x1 ⟨rfl, hb⟩
  rw [exc]
  have HB15 := Lib.hid (HB14.out.trans (hb.mono HB14.out.size)); have HG15 := G.below2 HG14 hb
  clear hb
  go_wp2_with fail
  refine (plain_any _ _ HG15.out).mono ?_
  rintro e x2 ⟨rfl, hb⟩
  rw [exp]
  have HB16 := Lib.hid (HB15.out.trans (hb.mono HB15.out.size))
  clear hb
  go_wp2_with fail
  go_ret
  exact ⟨rfl, HB16.out⟩
end Go.Proofs.YtpknbdgmpfhcnaaGreatDoor
