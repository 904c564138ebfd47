/- The walks of codes.Check and codes.Plain. -/
import Derived.Test.YtpknbdgmpfhcnaaGreatDoorCsB
namespace Go.Proofs.YtpknbdgmpfhcnaaGreatDoor
set_option linter.unusedVariables false
set_option linter.unusedSimpArgs false
open Go.RowKit

set_option maxRecDepth 100000 in
set_option maxHeartbeats 1600000 in
theorem read_big (s : ByteArray) (w : World) (hl : 60 < s.size) :
    Calls Tryz.prog 20 #[.string s] w (ReadPost (L s) w) := by
  have hq : readL (L s) = (none, 7) := by unfold readL; rw [if_pos (by rw [L_len]; exact hl)]
  have hd : (60 : Int) < (s.size : Int) := by omega
  go_enter_defers Tryz.func20, Tryz.ntmps20
  go_wp2_with fail
  refine ⟨.tuple #[.slice none 0 0, .int .i64 7], ?_, ?_⟩
  · simp [results, Tryz.results20, go_sem]
  · refine ⟨((Below.refl _ _).alloc (Nat.le_refl _) _).alloc (by simp) _, _, by rw [hq], ?_⟩
    rw [hq]
theorem read_all (s : ByteArray) (w : World) (hG : G w) : Calls Tryz.prog 20 #[.string s] w (ReadPost (L s) w) := by
  by_cases h : 60 < s.size
  · exact read_big s w h
  · exact read_any (L s) w hG (by rw [L_len]; omega)

set_option maxHeartbeats 400000 in
theorem check_any (s : ByteArray) (w : World) (hG : G w) : Calls Tryz.prog 8 #[.string s] w fun e w' => e = .returned (.int .i64 (readL (L s)).2) ∧ Below w.heap.size w w' := by
  go_enter Tryz.func8, Tryz.ntmps8
  go_wp2_with fail
  refine (read_all s _ hG).mono ?_
  rintro e w1 ⟨hB, v, rfl, hm⟩
  go_wp2
  go_ret
  exact ⟨rfl, hB⟩
def plainOf : Option (List Sec) → Bool
  | some l => l.all fun s => s.kind == 0
  | none => false
def plainL (q : List UInt8) : Bool := plainOf (readL q).1
theorem readL_err (q : List UInt8) : ((readL q).1 = none ↔ (readL q).2 ≠ 0) := by
  unfold readL
  split
  · simp
  · split
    · simp
    · split <;> simp
theorem all_snoc (l : List Sec) (i : Nat) (s : Sec) (h : l[i]? = some s) : (l.take (i + 1)).all (fun s => s.kind == 0) = ((l.take i).all (fun s => s.kind == 0) && (s.kind == 0)) := by
  obtain ⟨hi, rfl⟩ := List.getElem?_eq_some_iff.1 h
  rw [List.take_succ_eq_append_getElem hi, List.all_append]
  simp
theorem all_stop (l : List Sec) (i : Nat) (s : Sec) (h : l[i]? = some s) (hk : (s.kind == 0) = false) : l.all (fun s => s.kind == 0) = false := by
  rw [List.all_eq_false]
  exact ⟨s, List.mem_of_getElem? h, by simpa using hk⟩

theorem readL_len (q : List UInt8) (l : List Sec) (h : (readL q).1 = some l) : l.length ≤ 3 := by
  unfold readL at h
  split at h
  · cases h
  · split at h
    · cases h
    · split at h
      · cases h; assumption
      · cases h
theorem contL_len : ∀ (k : Nat) (acc : List Sec) (q : List UInt8) (l : List Sec), contL k acc q = some l → acc.length ≤ l.length
  | 0, acc, q, l, h => by cases q <;> simp [contL] at h
  | k + 1, acc, [], l, h => by simp [contL] at h; subst h; exact Nat.le_refl _
  | k + 1, acc, c :: q, l, h => by
    simp only [contL] at h
    cases hs : sectionL q with
    | none => rw [hs] at h; simp at h
    | some x =>
      rw [hs] at h
      have := contL_len k _ _ l h
      simp at this; omega
theorem readL_ne (q : List UInt8) (l : List Sec) (h : (readL q).1 = some l) : l ≠ [] := by
  unfold readL at h
  split at h
  · cases h
  · split at h
    · cases h
    · rename_i l' h'
      split at h
      · injection h with h; subst h
        cases hs : sectionL q with
        | none => rw [hs] at h'; simp at h'
        | some x =>
          rw [hs] at h'
          have := contL_len _ _ _ _ h'
          intro e; subst e; simp at this
      · cases h
theorem lss_nat {a b : Nat} (h : a < b) : decide ((a : Int) < (b : Int)) = true := by simpa using h
theorem lss_nat' {a b : Nat} (h : ¬ a < b) : decide ((a : Int) < (b : Int)) = false := by simpa using h
set_option maxHeartbeats 800000 in
theorem plain_any (s : ByteArray) (w : World) (hG : G w) : Calls Tryz.prog 10 #[.string s] w fun e w' => e = .returned (.bool (plainL (L s))) ∧ Below w.heap.size w w' := by
  go_enter Tryz.func10, Tryz.ntmps10
  go_wp2_with fail
  refine (read_all s _ hG).mono ?_
  rintro e w1 ⟨hB, v, rfl, hm⟩
  obtain ⟨r, er, hr⟩ : ∃ r er, readL (L s) = (r, er) := ⟨_, _, rfl⟩
  have HP : Hid (plainL (L s) = plainOf r) := by show _ = _; unfold plainL; rw [hr]
  have HE : Hid (r = none ↔ er ≠ 0) := by have := readL_err (L s); rw [hr] at this; exact this
  rw [hr] at hm
  rw [hr]
  have HB := Lib.hid hB; clear hB
  cases r with
  | none =>
    simp only at hm
    clear hr
    subst hm
    have he : (er == 0) = false := by simpa using HE.out.1 rfl
    go_wp2_with fail
    go_loopw [14] (fun k wr => k = .int .i64 0 ∧ wr = w1) (fun k _ => 0)
    case atStart => exact ⟨rfl, rfl⟩
    case round =>
      obtain ⟨rfl, rfl⟩ := hrel
      go_wp2_with fail
      go_ret
      refine ⟨?_, HB.out⟩
      rw [HP.out, plainOf]; rfl
  | some l =>
    have HL := Lib.hid (readL_len (L s) l (by rw [hr]))
    have he : er = 0 := by
      by_cases h : er = 0
      · exact h
      · have := HE.out.2 h; cases this
    subst he
    simp only at hm
    have hl : l ≠ [] := readL_ne (L s) l (by rw [hr])
    clear hr
    · obtain ⟨g, cap, rfl, hcap, hgb, hgs, hcells⟩ := hm.cells hl
      have HC := Lib.hid hcells; clear hcells
      clear hm hcap
      go_wp2_with fail
      go_loopw [14] (fun k wr => ∃ i : Nat, k = .int .i64 i ∧ i ≤ l.length ∧ Below w1.heap.size w1 wr ∧ Hid ((l.take i).all (fun s => s.kind == 0) = true)) (fun k _ => l.length - (intOf k).toNat)
      case atStart => exact ⟨0, rfl, by omega, Below.refl _ _, rfl⟩
      case round =>
        obtain ⟨i, rfl, hi, hBr, HA⟩ := hrel
        by_cases hlt : i < l.length
        · obtain ⟨u, e0, e1, e2, hu⟩ := HC.out i l[i] (List.getElem?_eq_getElem hlt)
          obtain ⟨ua, un, uc, rfl⟩ := own_slice hu
          clear hu
          have hd := lss_nat hlt
          have e0' := (hBr.cell (p := ⟨g, i * 3, none⟩) hgs).trans e0
          have e1' := (hBr.cell (p := ⟨g, i * 3 + 1, none⟩) hgs).trans e1
          have e2' := (hBr.cell (p := ⟨g, i * 3 + 2, none⟩) hgs).trans e2
          clear e0 e1 e2
          by_cases hk : l[i].kind = 0
          · have hk' : (l[i].kind == 0) = true := by simpa using hk
            go_wp2_with fail
            have h64 : wrap64 ((i : Int) + 1) = ((i + 1 : Nat) : Int) := by have := HL.out; unfold wrap64; omega
            rw [h64]
            refine ⟨⟨i + 1, rfl, by omega, hBr.alloc (by have := hBr.size; omega) _, ?_⟩, ?_⟩
            · show _ = _
              rw [all_snoc l i _ (List.getElem?_eq_getElem hlt), HA.out, hk']; rfl
            · simp only [intOf]; omega
          · have hk' : (l[i].kind == 0) = false := by simpa using hk
            go_wp2_with fail
            go_ret
            refine ⟨by rw [HP.out, plainOf, all_stop l i _ (List.getElem?_eq_getElem hlt) hk']; rfl, ?_⟩
            exact HB.out.trans ((hBr.alloc (by have := hBr.size; omega) _).mono HB.out.size)
        · have hd := lss_nat' hlt
          go_wp2_with fail
          go_ret
          refine ⟨?_, HB.out.trans (hBr.mono HB.out.size)⟩
          have hi' : i = l.length := by omega
          have := HA.out
          rw [hi', List.take_length] at this
          rw [HP.out, plainOf, this]; rfl
end Go.Proofs.YtpknbdgmpfhcnaaGreatDoor
