/- The walks of value.Words; of num.Floor, Round, Mul. -/
import Derived.Test.YtpknbdgmpfhcnaaGreatDoorCsJ
namespace Go.Proofs.YtpknbdgmpfhcnaaGreatDoor
set_option linter.unusedVariables false
set_option linter.unusedSimpArgs false
open Go.RowKit

theorem new_cell (w : World) (cs : Array Value) (t : TypeId) (i : Nat) : (w.alloc (.cells cs t)).cell? ⟨w.heap.size, i, none⟩ = cs[i]? := by
  have h := heap_alloc_new w (.cells cs t)
  simp only [World.cell?, h]; simp
theorem kept_cell {w w' : World} {cs : Array Value} {t : TypeId} {B : Nat} (h : Below B (w.alloc (.cells cs t)) w') (hB : w.heap.size < B) (i : Nat) : w'.cell? ⟨w.heap.size, i, none⟩ = cs[i]? := (h.cell hB).trans (new_cell w cs t i)
theorem below_in {w w' : World} {o : Obj} (h : Below (w.alloc o).heap.size (w.alloc o) w') : Below w.heap.size w w' := (below_new w o).trans (h.mono (by simp))
set_option maxRecDepth 100000 in
set_option maxHeartbeats 1000000 in
theorem vcode_num (n : Int) (w : World) : Calls Tryz.prog 38 #[numV n] w fun e w' => e = .returned (.int .i64 (if fitsB n = true then 0 else 2)) ∧ Below w.heap.size w w' := by
  have HC := Lib.hid (vcheck_num n)
  unfold numV at *
  go_enter Tryz.func38, Tryz.ntmps38
  go_wp2_with fail
  refine (HC.out _).mono ?_
  rintro e w1 ⟨rfl, hB⟩
  have c4 := kept_cell hB (by simp) 4
  simp only [List.getElem?_toArray, List.getElem?_cons_succ, List.getElem?_cons_zero] at c4
  cases hf : fitsB n <;>
  · go_wp2_with fail
    all_goals
      go_ret
      exact ⟨rfl, below_in hB⟩
set_option maxRecDepth 100000 in
set_option maxHeartbeats 1000000 in
theorem vcode_text (s : List UInt8) (hl : s.length ≤ 255) (w : World) : Calls Tryz.prog 38 #[textV s] w fun e w' => e = .returned (.int .i64 0) ∧ Below w.heap.size w w' := by
  have HC := Lib.hid (fun w => vcheck_text s w hl)
  unfold textV at *
  go_enter Tryz.func38, Tryz.ntmps38
  go_wp2_with fail
  refine (HC.out _).mono ?_
  rintro e w1 ⟨rfl, hB⟩
  have c4 := kept_cell hB (by simp) 4
  simp only [List.getElem?_toArray, List.getElem?_cons_succ, List.getElem?_cons_zero] at c4
  go_wp2_with fail
  go_ret
  exact ⟨rfl, below_in hB⟩
set_option maxRecDepth 100000 in
set_option maxHeartbeats 1000000 in
theorem words_num (n : Int) (w : World) (hG : G w) (hf : fitsB n = true) : Calls Tryz.prog 24 #[numV n] w fun e w' => (∃ s : List UInt8, e = .returned (.tuple #[.string ⟨s.toArray⟩, .int .i64 0])) ∧ Below w.heap.size w w' := by
  have HC := Lib.hid (vcode_num n)
  have HF := Lib.hid hf; have HG := Lib.hid hG; clear hf hG
  unfold numV at *
  go_enter Tryz.func24, Tryz.ntmps24
  go_wp2_with fail
  refine (HC.out _).mono ?_
  rintro e w1 ⟨rfl, hB⟩
  have c0 := kept_cell hB (by simp) 0
  have c1 := kept_cell hB (by simp) 1
  simp only [List.getElem?_toArray, List.getElem?_cons_succ, List.getElem?_cons_zero] at c0 c1
  rw [HF.out]
  have HB := Lib.hid (below_in hB); clear hB
  go_wp2_with fail
  refine (print_any n _ (HG.out.below' HB.out) HF.out).mono ?_
  rintro e w2 ⟨⟨s, rfl⟩, hB2⟩
  go_wp2_with fail
  refine bodyPost_ret (v := .tuple #[.string ⟨s.toArray⟩, .int .i64 0]) (by simp [results, Tryz.results24, go_sem]) rfl ?_
  exact ⟨⟨s, rfl⟩, HB.out.trans (hB2.mono HB.out.size)⟩
set_option maxRecDepth 100000 in
set_option maxHeartbeats 1000000 in
theorem words_text (s : List UInt8) (hl : s.length ≤ 255) (w : World) : Calls Tryz.prog 24 #[textV s] w fun e w' => e = .returned (.tuple #[.string ⟨s.toArray⟩, .int .i64 0]) ∧ Below w.heap.size w w' := by
  have HC := Lib.hid (vcode_text s hl)
  unfold textV at *
  go_enter Tryz.func24, Tryz.ntmps24
  go_wp2_with fail
  refine (HC.out _).mono ?_
  rintro e w1 ⟨rfl, hB⟩
  have c0 := kept_cell hB (by simp) 0
  have c2 := kept_cell hB (by simp) 2
  simp only [List.getElem?_toArray, List.getElem?_cons_succ, List.getElem?_cons_zero] at c0 c2
  have HB := Lib.hid (below_in hB); clear hB
  go_wp2_with fail
  refine bodyPost_ret (v := .tuple #[.string ⟨s.toArray⟩, .int .i64 0]) (by simp [results, Tryz.results24, go_sem]) rfl ?_
  exact ⟨rfl, HB.out⟩
end Go.Proofs.YtpknbdgmpfhcnaaGreatDoor
