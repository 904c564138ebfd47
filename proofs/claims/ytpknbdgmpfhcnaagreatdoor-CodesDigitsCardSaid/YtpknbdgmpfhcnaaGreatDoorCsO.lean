/- The walks of codes' part, words, whole, writer. -/
import Derived.Test.YtpknbdgmpfhcnaaGreatDoorCsN
namespace Go.Proofs.YtpknbdgmpfhcnaaGreatDoor
set_option linter.unusedVariables false
set_option linter.unusedSimpArgs false
open Go.RowKit

set_option maxHeartbeats 1000000 in
theorem wwords_any (v : Value) (s : ByteArray) (w : World) : Calls Tryz.prog 72 #[v, .string s] w fun e w' => e = .returned (.string s) ∧ w' = w := by
  go_enter Tryz.func72, Tryz.ntmps72
  go_wp2_with fail
  go_ret
  exact ⟨rfl, rfl⟩
set_option maxHeartbeats 1000000 in
theorem whole_any (n day code : Int) (text : List UInt8) (b : Nat) (s : ByteArray) (w : World) (hw : w.heap[b]? = some (.cells (WV n day code text) 61 (0, 0))) : Calls Tryz.prog 71 #[.pointer (some ⟨b, 0, none⟩), .string s] w fun e w' => e = .returned (.string ⟨text.toArray⟩) ∧ w' = w := by
  have c2 : w.cell? ⟨b, 2, none⟩ = some (.string ⟨text.toArray⟩) := by simp [World.cell?, hw, WV]
  clear hw
  go_enter Tryz.func71, Tryz.ntmps71
  go_wp2_with fail
  go_ret
  exact ⟨rfl, rfl⟩
/-- What writes a piece of a kind. -/
def writerF (k : Int) : Nat := if k = 1 then 69 else if k = 2 then 70 else if k = 3 then 71 else 72
set_option maxHeartbeats 1000000 in
theorem writer_any (k : Int) (b : Nat) (w : World) : Calls Tryz.prog 44 #[.pointer (some ⟨b, 0, none⟩), .int .i64 k] w fun e w' => e = .returned (.func (.func (writerF k)) #[.pointer (some ⟨b, 0, none⟩)] #[]) ∧ w' = w := by
  by_cases h1 : k = 1
  · subst h1
    go_enter Tryz.func44, Tryz.ntmps44
    go_wp2_with fail
    go_ret
    exact ⟨rfl, rfl⟩
  · by_cases h2 : k = 2
    · subst h2
      go_enter Tryz.func44, Tryz.ntmps44
      go_wp2_with fail
      go_ret
      exact ⟨rfl, rfl⟩
    · by_cases h3 : k = 3
      · subst h3
        go_enter Tryz.func44, Tryz.ntmps44
        go_wp2_with fail
        go_ret
        exact ⟨rfl, rfl⟩
      · have HF : Hid (writerF k = 72) := by show _ = _; unfold writerF; rw [if_neg h1, if_neg h2, if_neg h3]
        have t1 : (k == 1) = false := by simpa using h1
        have t2 : (k == 2) = false := by simpa using h2
        have t3 : (k == 3) = false := by simpa using h3
        go_enter Tryz.func44, Tryz.ntmps44
        go_wp2_with fail
        go_ret
        exact ⟨by rw [HF.out]; rfl, rfl⟩
def dayL (s : List UInt8) : List UInt8 := if s.head? = some 121 then (padL 2023 4).drop (4 - s.length) else if s.head? = some 109 then padL 3 s.length else padL 16 s.length
set_option maxHeartbeats 1000000 in
theorem part_day (n code : Int) (text s : List UInt8) (b : Nat) (w : World) (hs0 : 0 < s.length) (hs : s.length ≤ 4) (hw : w.heap[b]? = some (.cells (WV n 45000 code text) 61 (0, 0))) (hG : G w) : Calls Tryz.prog 70 #[.pointer (some ⟨b, 0, none⟩), .string ⟨s.toArray⟩] w fun e w' => e = .returned (.string ⟨(dayL s).toArray⟩) ∧ Below w.heap.size w w' := by
  have c1 : w.cell? ⟨b, 1, none⟩ = some (.int .i64 45000) := by simp [World.cell?, hw, WV]
  have HG := Lib.hid hG
  have hx := get_B (List.getElem?_eq_getElem hs0)
  obtain ⟨c, hc⟩ : ∃ c, s[0] = c := ⟨_, rfl⟩
  rw [hc] at hx
  have hh : s.head? = some c := by rw [List.head?_eq_getElem?, List.getElem?_eq_getElem hs0, hc]
  have HPL : Hid (dayL s = if c = 121 then (padL 2023 4).drop (4 - s.length) else if c = 109 then padL 3 s.length else padL 16 s.length) := by
    show _ = _; unfold dayL; rw [hh]; simp
  clear hw hG hc hh
  go_enter Tryz.func70, Tryz.ntmps70
  go_wp2_with fail
  refine (parts_day _).mono ?_
  rintro e w1 ⟨rfl, hB1⟩
  have HB1 := Lib.hid hB1; clear hB1
  by_cases h1 : c = 121
  · subst h1
    have HD : Hid (dayL s = (padL 2023 4).drop (4 - s.length)) := by have := HPL.out; simpa [Hid] using this
    clear HPL
    have hp : padL 2023 4 = [50, 48, 50, 51] := by decide +kernel
    have hsl := slice_from [50, 48, 50, 51] (i := 4 - (s.length : Int)) (4 - s.length) (by omega) (by simp)
    go_wp2_with fail
    refine (padded_any 2023 (by omega) (by omega) 4 (by omega) _ (HG.out.below' HB1.out)).mono ?_
    rintro e w2 ⟨rfl, hB2⟩
    rw [hp]
    go_wp2_with fail
    go_ret
    refine ⟨?_, HB1.out.trans (hB2.mono HB1.out.size)⟩
    rw [HD.out, hp]; rfl
  · by_cases h2 : c = 109
    · subst h2
      have HD : Hid (dayL s = padL 3 s.length) := by have := HPL.out; simpa [Hid] using this
      clear HPL
      go_wp2_with fail
      refine (padded_any 3 (by omega) (by omega) s.length (by omega) _ (HG.out.below' HB1.out)).mono ?_
      rintro e w2 ⟨rfl, hB2⟩
      go_wp2_with fail
      go_ret
      refine ⟨?_, HB1.out.trans (hB2.mono HB1.out.size)⟩
      rw [HD.out]; rfl
    · have t1 : ((c.toNat : Int) == 121) = false := by
        simp only [beq_eq_false_iff_ne, ne_eq]; intro h; exact h1 (UInt8.toNat_inj.1 (by simp; omega))
      have t2 : ((c.toNat : Int) == 109) = false := by
        simp only [beq_eq_false_iff_ne, ne_eq]; intro h; exact h2 (UInt8.toNat_inj.1 (by simp; omega))
      have p1 : ¬ (c.toNat : Int) = 121 := by simpa using t1
      have p2 : ¬ (c.toNat : Int) = 109 := by simpa using t2
      have HD : Hid (dayL s = padL 16 s.length) := by have := HPL.out; simpa [Hid, h1, h2] using this
      clear HPL
      clear h1 h2
      go_wp2_with fail
      refine (padded_any 16 (by omega) (by omega) s.length (by omega) _ (HG.out.below' HB1.out)).mono ?_
      rintro e w2 ⟨rfl, hB2⟩
      go_wp2_with fail
      go_ret
      refine ⟨?_, HB1.out.trans (hB2.mono HB1.out.size)⟩
      rw [HD.out]; rfl
theorem BB.kept {B b : Nat} {l : List UInt8} {w w' : World} {row : Option Nat} (h : BB B b l w) (hg : w.grownBy w' row) (hr : ∀ k, row = some k → k < B) : BB B b l w' := by
  have key : ∀ p, Lib.BuilderAt 96 5 B b p (Lib.byteCells l) w → Lib.BuilderAt 96 5 B b p (Lib.byteCells l) w' := by
    intro p hp
    have hlt := hp.lt
    obtain ⟨hB, v, hv, hown, hne⟩ := hp
    refine ⟨hB, v, (hg.block b hlt ?_).trans hv, hown.kept hg ?_, hne⟩
    · intro e
      have := hr b e.symm; omega
    · rcases hown.2 with ⟨rfl, _⟩ | ⟨g, cap, cur, rfl, hbg, _⟩
      · exact .inl rfl
      · refine .inr fun e => ?_
        simp [Value.ownBlock] at e
        have := hr g e.symm; omega
  exact h.elim (fun x => .inl (key _ x)) (fun x => .inr (key _ x))
end Go.Proofs.YtpknbdgmpfhcnaaGreatDoor
