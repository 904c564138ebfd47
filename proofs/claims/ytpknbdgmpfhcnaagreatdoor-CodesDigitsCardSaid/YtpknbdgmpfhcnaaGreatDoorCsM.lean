/- The walks of codes.padded, commas, part. -/
import Derived.Test.YtpknbdgmpfhcnaaGreatDoorCsL
namespace Go.Proofs.YtpknbdgmpfhcnaaGreatDoor
set_option linter.unusedVariables false
set_option linter.unusedSimpArgs false
open Go.RowKit

def padL (n : Int) (width : Nat) : List UInt8 := Lib.repeatL [48] (width - (Lib.itoa n).length) ++ Lib.itoa n
set_option maxHeartbeats 1000000 in
theorem padded_any (n : Int) (h0 : -9223372036854775808 ≤ n) (h1 : n ≤ 9223372036854775807) (width : Nat) (hw : width ≤ 1000) (w : World) (hG : G w) : Calls Tryz.prog 102 #[.int .i64 n, .int .i64 width] w fun e w' => e = .returned (.string ⟨(padL n width).toArray⟩) ∧ Below w.heap.size w w' := by
  obtain ⟨r, hr⟩ : ∃ r, Lib.itoa n = r := ⟨_, rfl⟩
  have hrl : r.length ≤ 21 := by rw [← hr]; exact Lib.itoa_length_le _ h0 h1
  obtain ⟨z, hz⟩ : ∃ z, Lib.repeatL [48] (width - r.length) = z := ⟨_, rfl⟩
  have hzl : z.length ≤ 1000 := by rw [← hz, Lib.repeatL_length]; simp; omega
  have HP : Hid (padL n width = z ++ r) := by show _ = _; unfold padL; rw [hr, hz]
  have HR := Lib.hid (fun w hG => c_Itoa n r hr h0 h1 w hG)
  have HZ := Lib.hid hz
  have hmx : max 0 ((width : Int) - (r.length : Int)) = ((width - r.length : Nat) : Int) := by omega
  have hzr : z.length + r.length ≤ 1021 := by omega
  have hcat : (⟨z.toArray⟩ : ByteArray) ++ ⟨r.toArray⟩ = ⟨(z ++ r).toArray⟩ := cat_B z r
  have HG := Lib.hid hG
  clear hr hz h0 h1 hG
  go_enter Tryz.func102, Tryz.ntmps102
  go_wp2_with fail
  refine (HR.out _ HG.out).mono ?_
  rintro e w1 ⟨rfl, hB1⟩
  go_wp2_with fail
  refine (c_Repeat [48] z _ HZ.out (by omega) (by simp) _).mono ?_
  rintro e w2 ⟨rfl, hB2⟩
  clear hmx
  go_wp2_with fail
  go_ret
  refine ⟨?_, hB1.trans (hB2.mono hB1.size)⟩
  rw [HP.out]; rfl

/-- A builder of the call's own that holds a text. -/
def BB (B b : Nat) (l : List UInt8) (w : World) : Prop := Lib.IsBuilder 96 5 B b (Lib.byteCells l) w
theorem BB.new (w : World) : BB w.heap.size w.heap.size [] (w.alloc (.cells #[.pointer none, .slice none 0 0] 96)) := Lib.fresh_isBuilder _ _ w
theorem byteCells_app (a b : List UInt8) : Lib.byteCells (a ++ b) = Lib.byteCells a ++ Lib.byteCells b := by unfold Lib.byteCells; simp
theorem c_WriteByte (B b : Nat) (l : List UInt8) (c : UInt8) (w : World) (h : BB B b l w) (hl : l.length ≤ 1000000) (hB : B ≤ w.heap.size) :
    Calls Tryz.prog 124 #[.pointer (some ⟨b, 0, none⟩), .int .u8 c.toNat] w fun e w' => e = .returned .nilIface ∧ BB B b (l ++ [c]) w' ∧ Below B w w' := by
  refine (Any.Builder_WriteByte Tryz.lays167 Tryz.Builder_Extra_C B b (Lib.byteCells l) c.toNat w h (by rw [Lib.byteCells_length]; omega) hB).mono ?_
  rintro e w' ⟨rfl, hA, hBl⟩
  refine ⟨rfl, .inr ?_, hBl⟩
  rw [byteCells_app]; exact hA
theorem c_WriteString (B b : Nat) (l s : List UInt8) (w : World) (h : BB B b l w) (hl : l.length ≤ 1000000) (hs : s.length ≤ 1000000) (hB : B ≤ w.heap.size) :
    Calls Tryz.prog 43 #[.pointer (some ⟨b, 0, none⟩), .string ⟨s.toArray⟩] w fun e w' => e = .returned (.tuple #[.int .i64 s.length, .nilIface]) ∧ BB B b (l ++ s) w' ∧ Below B w w' := by
  refine (Any.Builder_WriteString Tryz.lays166 Tryz.Builder_Extra_B B b (Lib.byteCells l) ⟨s.toArray⟩ w h (by rw [Lib.byteCells_length]; show _ + s.length ≤ _; omega) hB).mono ?_
  rintro e w' ⟨rfl, hA, hBl⟩
  refine ⟨rfl, .inr ?_, hBl⟩
  rw [byteCells_app]; exact hA
theorem c_BString (B b : Nat) (l : List UInt8) (w : World) (h : BB B b l w) (hB : B ≤ w.heap.size) :
    Calls Tryz.prog 45 #[.pointer (some ⟨b, 0, none⟩)] w fun e w' => e = .returned (.string ⟨l.toArray⟩) ∧ Below B w w' := Tryz.Builder_String_any B b l w h hB
def commasFrom : Bool → List UInt8 → List UInt8
  | _, [] => []
  | f, c :: r => (if f = false ∧ (r.length + 1) % 3 = 0 then [44] else []) ++ c :: commasFrom false r
def commasL (s : List UInt8) : List UInt8 := commasFrom true s
set_option maxHeartbeats 1000000 in
theorem commas_any (s : List UInt8) (hl : s.length ≤ 1000) (w : World) : Calls Tryz.prog 101 #[.string ⟨s.toArray⟩] w fun e w' => e = .returned (.string ⟨(commasL s).toArray⟩) ∧ Below w.heap.size w w' := by
  go_enter Tryz.func101, Tryz.ntmps101
  go_wp2_with fail
  go_loopw [7] (fun k wr => ∃ (i : Nat) (pre : List UInt8), k = .int .i64 i ∧ i ≤ s.length ∧ pre.length ≤ 2 * i ∧ BB w.heap.size w.heap.size pre wr ∧ Below w.heap.size w wr ∧ Hid (pre ++ commasFrom (i == 0) (s.drop i) = commasL s)) (fun k _ => s.length - (intOf k).toNat)
  case atStart => exact ⟨0, [], rfl, by omega, by simp, BB.new w, below_new _ _, by show _ = _; rfl⟩
  case round =>
    obtain ⟨i, pre, rfl, hi, hpl, hBB, hB, HA⟩ := hrel
    have HBB := Lib.hid hBB; have HB := Lib.hid hB; clear hBB hB
    by_cases hlt : i < s.length
    · have hd := lss_nat hlt
      have hx := get_B (List.getElem?_eq_getElem hlt)
      have HS := Lib.hid (List.drop_eq_getElem_cons hlt : s.drop i = s[i] :: s.drop (i + 1))
      generalize s[i] = c at *
      obtain ⟨d, hdd⟩ : ∃ d, s.length - i = d := ⟨_, rfl⟩
      have hsub : (s.length : Int) - (i : Int) = (d : Int) := by omega
      have HD : Hid ((s.drop (i + 1)).length + 1 = d) := by show _ = _; simp; omega
      clear hdd
      by_cases hi0 : 0 < i
      · have t0 : decide (0 < (i : Int)) = true := by simp; omega
        by_cases h3 : d % 3 = 0
        · have t1 : ((d : Int) % 3 == 0) = true := by simp; omega
          have p1 : (d : Int) % 3 = 0 := by omega
          have hgo := HA.out
          rw [HS.out, commasFrom, HD.out, if_pos ⟨by simp; omega, h3⟩] at hgo
          have HGo := Lib.hid hgo
          clear hgo h3
          go_wp2_with fail
          refine (c_WriteByte _ _ pre 44 _ HBB.out (by omega) HB.out.size).mono ?_
          rintro e w1 ⟨rfl, hBB1, hB1⟩
          have HBB1 := Lib.hid hBB1; have HB1 := Lib.hid (HB.out.trans hB1); clear hBB1 hB1
          go_wp2_with fail
          refine (c_WriteByte _ _ _ c _ HBB1.out (by simp; omega) HB1.out.size).mono ?_
          rintro e w2 ⟨rfl, hBB2, hB2⟩
          have HBB2 := Lib.hid hBB2; have HB2 := Lib.hid (HB1.out.trans hB2); clear hBB2 hB2
          go_wp2_with fail
          refine ⟨⟨i + 1, _, by simp, by omega, by simp; omega, HBB2.out, HB2.out, ?_⟩, by simp only [intOf]; omega⟩
          show _ = _
          rw [← HGo.out]; simp
        · have t1 : ((d : Int) % 3 == 0) = false := by simp; omega
          have p1 : ¬ (d : Int) % 3 = 0 := by omega
          have hgo := HA.out
          rw [HS.out, commasFrom, HD.out, if_neg (fun h => h3 h.2)] at hgo
          have HGo := Lib.hid hgo
          clear hgo h3
          go_wp2_with fail
          refine (c_WriteByte _ _ _ c _ HBB.out (by omega) HB.out.size).mono ?_
          rintro e w2 ⟨rfl, hBB2, hB2⟩
          have HBB2 := Lib.hid hBB2; have HB2 := Lib.hid (HB.out.trans hB2); clear hBB2 hB2
          go_wp2_with fail
          refine ⟨⟨i + 1, _, by simp, by omega, by simp; omega, HBB2.out, HB2.out, ?_⟩, by simp only [intOf]; omega⟩
          show _ = _
          rw [← HGo.out]; simp
      · have hz : i = 0 := by omega
        subst hz
        have hgo := HA.out
        rw [HS.out, commasFrom, HD.out, if_neg (by simp)] at hgo
        have HGo := Lib.hid hgo
        clear hgo
        go_wp2_with fail
        refine (c_WriteByte _ _ _ c _ HBB.out (by omega) HB.out.size).mono ?_
        rintro e w2 ⟨rfl, hBB2, hB2⟩
        have HBB2 := Lib.hid hBB2; have HB2 := Lib.hid (HB.out.trans hB2); clear hBB2 hB2
        go_wp2_with fail
        refine ⟨⟨1, _, by simp, by omega, by simp; omega, HBB2.out, HB2.out, ?_⟩, by simp only [intOf]; omega⟩
        show _ = _
        rw [← HGo.out]; simp
    · have hd := lss_nat' hlt
      have hend := HA.out
      rw [List.drop_of_length_le (by omega), commasFrom, List.append_nil] at hend
      have HEnd := Lib.hid hend; clear hend
      go_wp2_with fail
      refine (c_BString _ _ pre _ HBB.out HB.out.size).mono ?_
      rintro e w2 ⟨rfl, hB2⟩
      go_wp2_with fail
      go_ret
      refine ⟨?_, HB.out.trans hB2⟩
      rw [← HEnd.out]; rfl
end Go.Proofs.YtpknbdgmpfhcnaaGreatDoor
