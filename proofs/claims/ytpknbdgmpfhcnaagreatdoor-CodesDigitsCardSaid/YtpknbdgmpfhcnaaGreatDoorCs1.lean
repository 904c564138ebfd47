/- The walk of codes.cutLeft and what it calls for. -/
import Derived.Test.YtpknbdgmpfhcnaaGreatDoorChecked
import Derived.Test.YtpknbdgmpfhcnaaGreatDoorCs0
import Derived.WalkKit
import Derived.OwnWalk
import Derived.Outline
import Derived.Lib.Hide
import Derived.WalkSmall
import Derived.Laws.RangeString
import Derived.Laws.RangeAny
import Derived.Deep.LoopGhost
namespace Go.Proofs.YtpknbdgmpfhcnaaGreatDoor
set_option linter.unusedVariables false
set_option linter.unusedSimpArgs false
open Go.RowKit Go.Lib


theorem iter_heap (w : World) (s : ByteArray) (p : Nat) : (w.iter s p).heap[w.heap.size]? = some (.stringIter s p) := heap_alloc_new w _
theorem below_iter {B : Nat} {a w : World} (h : Below B a w) (hB : B ≤ w.heap.size) (s : ByteArray) (p : Nat) : Below B a (w.iter s p) := h.alloc hB _

set_option maxHeartbeats 800000 in
theorem cutLeft_any (s set : ByteArray) (w : World) (hs : s.size ≤ 9223372036854775807) (ha : ∀ b ∈ L set, b.toNat < 128) :
    Calls Tryz.prog 129 #[.string s, .string set] w fun e w' => e = .returned (.string (B (cutL (L set) (L s)))) ∧ Below w.heap.size w w' := by
  have HA := Lib.hid ha; clear ha
  go_enter Tryz.func129, Tryz.ntmps129
  go_wp2
  go_loopw [] (fun wr => ∃ pos : Nat, pos ≤ s.size ∧ wr.heap[w.heap.size]? = some (.stringIter s pos) ∧ Hid (cutL (L set) ((L s).drop pos) = cutL (L set) (L s)) ∧ Below w.heap.size w wr) (fun wr => s.size - wr.iterPos w.heap.size)
  case atStart => exact ⟨0, by omega, iter_heap _ _ _, by simp [Hid], below_iter (Below.refl _ _) (Nat.le_refl _) _ _⟩
  case round =>
    obtain ⟨pos, hpl, hit, HC, hB⟩ := hrel
    by_cases hp : pos < s.size
    · have hnx := fun ty => run_next_any_at (P := Tryz.prog) wr w.heap.size s pos ty hit hp
      have HIT := Lib.hid hit; clear hit
      have HP : Hid (wr.iterPos w.heap.size = pos) := iterPos_of HIT.out
      go_wp2
      have HD : Hid (((s[pos]'hp).toNat < 128 ∧ (Utf8.decode s pos).1 = (s[pos]'hp).toNat ∧ (Utf8.decode s pos).2 = 1) ∨ (128 ≤ (s[pos]'hp).toNat ∧ 128 ≤ (Utf8.decode s pos).1)) := by
        by_cases h : (s[pos]'hp).toNat < 128
        · exact .inl ⟨h, by rw [decode_ascii s pos hp h], by rw [decode_ascii s pos hp h]⟩
        · exact .inr ⟨by omega, (decode_high s pos hp (by omega)).1⟩
      obtain ⟨w1, hw1⟩ : ∃ w1, w1 = wr.iterAt w.heap.size s (pos + (Utf8.decode s pos).snd) := ⟨_, rfl⟩
      have hsz : w1.heap.size = wr.heap.size := by rw [hw1, iterAt_size]
      have hB1 : Below w.heap.size w w1 := by rw [hw1]; exact below_iterAt hB (Nat.le_refl _) _ _
      have hk1 : w.heap.size < w1.heap.size := by rw [hsz]; exact (Array.getElem?_eq_some_iff.1 HIT.out).1
      have HI1 : Hid (w1.heap[w.heap.size]? = some (.stringIter s (pos + (Utf8.decode s pos).snd))) := by rw [hw1]; exact iterAt_heap _ _ _ _ _ HIT.out
      rw [← hw1]
      clear hw1 hnx HIT hB hsz
      generalize (Utf8.decode s pos).snd = d at *
      generalize (Utf8.decode s pos).fst = c at *
      go_loopw [7] (fun v7 wi => ∃ p : Nat, p ≤ set.size ∧ wi.heap[w1.heap.size]? = some (.stringIter set p) ∧ v7 = .bool (inSet ((L set).take p) c) ∧ Below w1.heap.size w1 wi) (fun _ wi => set.size - wi.iterPos w1.heap.size)
      case atStart => exact ⟨0, by omega, iter_heap _ _ _, by simp [inSet], below_iter (Below.refl _ _) (Nat.le_refl _) _ _⟩
      case round =>
        obtain ⟨p, hpl', hit, rfl, hB2⟩ := hrel
        by_cases hq : p < set.size
        · have hb : ((set[p]'hq).toNat < 128) := HA.out _ (by rw [getElem_L]; exact List.getElem_mem _)
          have hnx := fun ty => run_next_ascii_at (P := Tryz.prog) wr w1.heap.size set p ty hit hq hb
          have HIT := Lib.hid hit; clear hit
          have HS : Hid (inSet ((L set).take (p + 1)) (c : Int) = (inSet ((L set).take p) c || (((set[p]'hq).toNat : Int) == (c : Int)))) := by
            rw [inSet_snoc _ _ (by rw [L_len]; exact hq)]; rfl
          by_cases hin : inSet ((L set).take p) (c : Int) = true
          · have HS2 : Hid (inSet ((L set).take (p + 1)) (c : Int) = true) := by rw [HS.out, hin]; rfl
            rw [hin]; clear hin
            go_wp2
            go_roundw
            case rel => exact ⟨p + 1, by omega, iterAt_heap _ _ _ _ _ HIT.out, by rw [HS2.out], below_iterAt hB2 (Nat.le_refl _) _ _⟩
            case measure => rw [iterPos_of HIT.out, iterPos_of (iterAt_heap _ _ _ _ _ HIT.out)]; omega
          · have hin' : inSet ((L set).take p) (c : Int) = false := by simpa using hin
            have HS2 : Hid (inSet ((L set).take (p + 1)) (c : Int) = (((set[p]'hq).toNat : Int) == (c : Int))) := by rw [HS.out, hin']; rfl
            rw [hin']; clear hin hin'
            go_wp2
            go_roundw
            case rel => exact ⟨p + 1, by omega, iterAt_heap _ _ _ _ _ HIT.out, by rw [HS2.out]; rw [Bool.beq_comm], below_iterAt hB2 (Nat.le_refl _) _ _⟩
            case measure => rw [iterPos_of HIT.out, iterPos_of (iterAt_heap _ _ _ _ _ HIT.out)]; omega
        · have hnx := fun ty => run_next_end_at (P := Tryz.prog) wr w1.heap.size set p ty hit hq
          obtain rfl : p = set.size := by omega
          have HIT := Lib.hid hit; clear hit
          rw [List.take_of_length_le (by rw [L_len]; omega)]
          by_cases hin : inSet (L set) (c : Int) = true
          · have HS2 : Hid (inSet (L set) (c : Int) = true) := hin
            rw [hin]; clear hin
            have HB1 : Hid (set.size ≤ set.size) := Nat.le_refl _
            have HB3 : Below w.heap.size w wr := hB1.trans (hB2.mono (by omega))
            go_wp2
            rcases HD.out with ⟨h1, h2, h3⟩ | ⟨h1, h2⟩
            · subst h3
              have hm : (L set).contains (s[pos]'hp) = true := by rw [← inSet_mem, ← h2]; exact HS2.out
              have HC2 : Hid (cutL (L set) ((L s).drop (pos + 1)) = cutL (L set) (L s)) := by
                have h4 := cutL_step (L set) (L s) pos (by rw [L_len]; exact hp) hm
                exact h4.trans HC.out
              have HI2 : wr.heap[w.heap.size]? = some (.stringIter s (pos + 1)) := (hB2.block _ hk1).trans HI1.out
              go_roundw
              case rel => exact ⟨pos + 1, by omega, HI2, HC2, HB3⟩
              case measure => rw [iterPos_of HI2, HP.out]; omega
            · have := inSet_high (L set) c HA.out (by omega)
              rw [HS2.out] at this; cases this
          · have hin' : inSet (L set) (c : Int) = false := by simpa using hin
            have HS2 : Hid (inSet (L set) (c : Int) = false) := hin'
            rw [hin']; clear hin hin'
            have HB3 : Below w.heap.size w wr := hB1.trans (hB2.mono (by omega))
            go_wp2
            go_ret
            refine ⟨?_, HB3⟩
            have hm : (L set).contains (s[pos]'hp) = false := by
              rcases HD.out with ⟨h1, h2, h3⟩ | ⟨h1, h2⟩
              · rw [← inSet_mem, ← h2]; exact HS2.out
              · rw [← inSet_mem]; exact inSet_high _ _ HA.out (by omega)
            have h4 := (cutL_stop (L set) (L s) pos (by rw [L_len]; exact hp) hm).symm.trans HC.out
            rw [← h4, ← extract_end]; rfl
    · have hnx := fun ty => run_next_end_at (P := Tryz.prog) wr w.heap.size s pos ty hit hp
      have HIT := Lib.hid hit; clear hit
      go_wp2
      go_ret
      have : pos = s.size := by omega
      subst this
      have h2 := HC.out
      rw [List.drop_of_length_le (by rw [L_len]; omega), cutL_nil] at h2
      exact ⟨by rw [← h2]; rfl, hB⟩
end Go.Proofs.YtpknbdgmpfhcnaaGreatDoor
