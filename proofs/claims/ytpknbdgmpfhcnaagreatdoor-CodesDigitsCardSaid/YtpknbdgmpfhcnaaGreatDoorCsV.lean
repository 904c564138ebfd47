/- The document's examples: every one lives. -/
import Derived.Test.YtpknbdgmpfhcnaaGreatDoorCsU
namespace Go.Proofs.YtpknbdgmpfhcnaaGreatDoor
set_option linter.unusedVariables false
set_option linter.unusedSimpArgs false
open Go.RowKit
/-- What a call for an example does. -/
def Yes (w : World) (e : Ending) (w' : World) : Prop := e = .returned (.bool true) ∧ Below w.heap.size w w'
set_option maxHeartbeats 1000000 in
theorem is_yes (s : ByteArray) (a b c d f : Value) (want : List UInt8) (h : ∀ w, G w → Calls Tryz.prog 13 #[.string s, .agg #[a, b, c, d, f]] w (NumPost (some want) w)) (w : World) (hG : G w) :
    Calls Tryz.prog 16 #[.string s, .agg #[a, b, c, d, f], .string ⟨want.toArray⟩] w (Yes w) := by
  have H := Lib.hid h; have HG := Lib.hid hG
  clear h hG
  go_enter Tryz.func16, Tryz.ntmps16
  go_wp2_with fail
  refine (H.out _ (HG.out.alloc _)).mono ?_
  rintro e w1 ⟨hB, rfl⟩
  go_wp2_with fail
  go_ret
  exact ⟨rfl, below_in hB⟩
theorem number_mk (n : Int) (w : World) : Calls Tryz.prog 14 #[.int .i64 n] w fun e w' => e = .returned (numV n) ∧ Below w.heap.size w w' := by
  go_enter Tryz.func14, Tryz.ntmps14
  go_wp2_with fail
  have kk := fun i => new_cell w #[.int .i64 1, .int .i64 n, .string ⟨#[]⟩, .bool false, .int .i64 0] 32 i
  have k0 := kk 0; have k1 := kk 1; have k2 := kk 2; have k3 := kk 3; have k4 := kk 4
  simp only [List.getElem?_toArray, List.getElem?_cons_succ, List.getElem?_cons_zero] at k0 k1 k2 k3 k4
  refine bodyPost_ret (v := numV n) (by simp [results, Tryz.results14, go_sem, numV, k0, k1, k2, k3, k4]) rfl ?_
  exact ⟨rfl, below_new _ _⟩
theorem text_mk (t : List UInt8) (w : World) : Calls Tryz.prog 17 #[.string ⟨t.toArray⟩] w fun e w' => e = .returned (textV t) ∧ Below w.heap.size w w' := by
  go_enter Tryz.func17, Tryz.ntmps17
  go_wp2_with fail
  have kk := fun i => new_cell w #[.int .i64 2, .int .i64 0, .string ⟨t.toArray⟩, .bool false, .int .i64 0] 32 i
  have k0 := kk 0; have k1 := kk 1; have k2 := kk 2; have k3 := kk 3; have k4 := kk 4
  simp only [List.getElem?_toArray, List.getElem?_cons_succ, List.getElem?_cons_zero] at k0 k1 k2 k3 k4
  refine bodyPost_ret (v := textV t) (by simp [results, Tryz.results17, go_sem, textV, k0, k1, k2, k3, k4]) rfl ?_
  exact ⟨rfl, below_new _ _⟩
def ex1 : List Sec := [⟨1, [⟨1, [48, 46, 48, 48]⟩], 0⟩]
theorem exr1 : readL (L ⟨#[48, 46, 48, 48]⟩) = (some ex1, 0) := by kernel_rfl
theorem exf1 : ex1.filter (keepB false) = ex1 := by kernel_rfl
theorem exw1 : writeL (sizeBy ⟨1, [⟨1, [48, 46, 48, 48]⟩], 0⟩ 1005000) [] (⟨1, [⟨1, [48, 46, 48, 48]⟩], 0⟩ : Sec).ps = some [49, 46, 48, 48] := by kernel_rfl
theorem exo1 : SecOk ⟨1, [⟨1, [48, 46, 48, 48]⟩], 0⟩ 1005000 := ⟨by decide, by decide, by decide, by decide, by decide⟩
theorem exa1 (w : World) (hG : G w) : Calls Tryz.prog 13 #[.string ⟨#[48, 46, 48, 48]⟩, numV 1005000] w (NumPost (some [49, 46, 48, 48]) w) := by
  refine apply_num _ ex1 exr1 _ (by decide) _ w hG fun v base w1 hf hb hG => ?_
  rw [exf1] at hf
  have := numbered_pos _ _ _ (by simp) v base w1 hf hb hG exo1 (by decide) (by decide) (by decide) (by decide)
  rw [exw1] at this
  exact this
def ex2 : List Sec := [⟨1, [⟨1, [35, 44, 35, 35, 48]⟩], 0⟩]
theorem exr2 : readL (L ⟨#[35, 44, 35, 35, 48]⟩) = (some ex2, 0) := by kernel_rfl
theorem exf2 : ex2.filter (keepB false) = ex2 := by kernel_rfl
theorem exw2 : writeL (sizeBy ⟨1, [⟨1, [35, 44, 35, 35, 48]⟩], 0⟩ 1234567500000) [] (⟨1, [⟨1, [35, 44, 35, 35, 48]⟩], 0⟩ : Sec).ps = some [49, 44, 50, 51, 52, 44, 53, 54, 56] := by kernel_rfl
theorem exo2 : SecOk ⟨1, [⟨1, [35, 44, 35, 35, 48]⟩], 0⟩ 1234567500000 := ⟨by decide, by decide, by decide, by decide, by decide⟩
theorem exa2 (w : World) (hG : G w) : Calls Tryz.prog 13 #[.string ⟨#[35, 44, 35, 35, 48]⟩, numV 1234567500000] w (NumPost (some [49, 44, 50, 51, 52, 44, 53, 54, 56]) w) := by
  refine apply_num _ ex2 exr2 _ (by decide) _ w hG fun v base w1 hf hb hG => ?_
  rw [exf2] at hf
  have := numbered_pos _ _ _ (by simp) v base w1 hf hb hG exo2 (by decide) (by decide) (by decide) (by decide)
  rw [exw2] at this
  exact this
def ex3 : List Sec := [⟨1, [⟨1, [48]⟩, ⟨4, [37]⟩], 1⟩, ⟨1, [⟨0, [40]⟩, ⟨1, [48]⟩, ⟨4, [37]⟩, ⟨0, [41]⟩], 1⟩]
theorem exr3 : readL (L ⟨#[48, 37, 59, 40, 48, 37, 41]⟩) = (some ex3, 0) := by kernel_rfl
theorem exf3 : ex3.filter (keepB false) = ex3 := by kernel_rfl
theorem exw3 : writeL (sizeBy ⟨1, [⟨0, [40]⟩, ⟨1, [48]⟩, ⟨4, [37]⟩, ⟨0, [41]⟩], 1⟩ (-500000)) [] (⟨1, [⟨0, [40]⟩, ⟨1, [48]⟩, ⟨4, [37]⟩, ⟨0, [41]⟩], 1⟩ : Sec).ps = some [40, 53, 48, 37, 41] := by kernel_rfl
theorem exo3 : SecOk ⟨1, [⟨0, [40]⟩, ⟨1, [48]⟩, ⟨4, [37]⟩, ⟨0, [41]⟩], 1⟩ (-500000) := ⟨by decide, by decide, by decide, by decide, by decide⟩
theorem exa3 (w : World) (hG : G w) : Calls Tryz.prog 13 #[.string ⟨#[48, 37, 59, 40, 48, 37, 41]⟩, numV (-500000)] w (NumPost (some [40, 53, 48, 37, 41]) w) := by
  refine apply_num _ ex3 exr3 _ (by decide) _ w hG fun v base w1 hf hb hG => ?_
  rw [exf3] at hf
  have := numbered_neg2 _ _ _ _ (by simp) v base w1 hf hb hG exo3 (by decide) (by decide)
  rw [exw3] at this
  exact this
def ex4 : List Sec := [⟨1, [⟨1, [35, 46, 35, 35]⟩], 0⟩]
theorem exr4 : readL (L ⟨#[35, 46, 35, 35]⟩) = (some ex4, 0) := by kernel_rfl
theorem exf4 : ex4.filter (keepB false) = ex4 := by kernel_rfl
theorem exw4 : writeL (sizeBy ⟨1, [⟨1, [35, 46, 35, 35]⟩], 0⟩ 500000) [] (⟨1, [⟨1, [35, 46, 35, 35]⟩], 0⟩ : Sec).ps = some [46, 53] := by kernel_rfl
theorem exo4 : SecOk ⟨1, [⟨1, [35, 46, 35, 35]⟩], 0⟩ 500000 := ⟨by decide, by decide, by decide, by decide, by decide⟩
theorem exa4 (w : World) (hG : G w) : Calls Tryz.prog 13 #[.string ⟨#[35, 46, 35, 35]⟩, numV 500000] w (NumPost (some [46, 53]) w) := by
  refine apply_num _ ex4 exr4 _ (by decide) _ w hG fun v base w1 hf hb hG => ?_
  rw [exf4] at hf
  have := numbered_pos _ _ _ (by simp) v base w1 hf hb hG exo4 (by decide) (by decide) (by decide) (by decide)
  rw [exw4] at this
  exact this
def ex5 : List Sec := [⟨2, [⟨2, [100]⟩, ⟨0, [47]⟩, ⟨2, [109]⟩, ⟨0, [47]⟩, ⟨2, [121, 121]⟩], 0⟩]
theorem exr5 : readL (L ⟨#[100, 47, 109, 47, 121, 121]⟩) = (some ex5, 0) := by kernel_rfl
theorem exf5 : ex5.filter (keepB false) = ex5 := by kernel_rfl
theorem exw5 : writeL (sizeBy ⟨2, [⟨2, [100]⟩, ⟨0, [47]⟩, ⟨2, [109]⟩, ⟨0, [47]⟩, ⟨2, [121, 121]⟩], 0⟩ 45000000000) [] (⟨2, [⟨2, [100]⟩, ⟨0, [47]⟩, ⟨2, [109]⟩, ⟨0, [47]⟩, ⟨2, [121, 121]⟩], 0⟩ : Sec).ps = some [49, 54, 47, 51, 47, 50, 51] := by kernel_rfl
theorem exo5 : SecOk ⟨2, [⟨2, [100]⟩, ⟨0, [47]⟩, ⟨2, [109]⟩, ⟨0, [47]⟩, ⟨2, [121, 121]⟩], 0⟩ 45000000000 := ⟨by decide, by decide, by decide, by decide, by decide⟩
theorem exa5 (w : World) (hG : G w) : Calls Tryz.prog 13 #[.string ⟨#[100, 47, 109, 47, 121, 121]⟩, numV 45000000000] w (NumPost (some [49, 54, 47, 51, 47, 50, 51]) w) := by
  refine apply_num _ ex5 exr5 _ (by decide) _ w hG fun v base w1 hf hb hG => ?_
  rw [exf5] at hf
  have := numbered_day _ v base w1 hf hb hG exo5 rfl
  rw [exw5] at this
  exact this
def ex7 : List Sec := [⟨1, [⟨1, [48]⟩], 0⟩, ⟨1, [⟨0, [45]⟩, ⟨1, [48]⟩], 0⟩, ⟨0, [⟨0, [122, 101, 114, 111]⟩], 0⟩]
theorem exr7 : readL (L ⟨#[48, 59, 45, 48, 59, 34, 122, 101, 114, 111, 34]⟩) = (some ex7, 0) := by kernel_rfl
theorem exf7 : ex7.filter (keepB false) = ex7 := by kernel_rfl
theorem exw7 : writeL (sizeBy ⟨0, [⟨0, [122, 101, 114, 111]⟩], 0⟩ 0) [] (⟨0, [⟨0, [122, 101, 114, 111]⟩], 0⟩ : Sec).ps = some [122, 101, 114, 111] := by kernel_rfl
theorem exo7 : SecOk ⟨0, [⟨0, [122, 101, 114, 111]⟩], 0⟩ 0 := ⟨by decide, by decide, by decide, by decide, by decide⟩
theorem exa7 (w : World) (hG : G w) : Calls Tryz.prog 13 #[.string ⟨#[48, 59, 45, 48, 59, 34, 122, 101, 114, 111, 34]⟩, numV 0] w (NumPost (some [122, 101, 114, 111]) w) := by
  refine apply_num _ ex7 exr7 _ (by decide) _ w hG fun v base w1 hf hb hG => ?_
  rw [exf7] at hf
  have := numbered_three _ _ _ v base w1 hf hb hG exo7
  rw [exw7] at this
  exact this
def ex6 : List Sec := [⟨3, [⟨0, [110, 58, 32]⟩, ⟨3, [64]⟩], 0⟩]
theorem exr6 : readL (L ⟨#[34, 110, 58, 32, 34, 64]⟩) = (some ex6, 0) := by kernel_rfl
theorem exa6 (w : World) (hG : G w) : Calls Tryz.prog 13 #[.string ⟨#[34, 110, 58, 32, 34, 64]⟩, textV [120]] w (NumPost (some [110, 58, 32, 120]) w) := by
  have h := apply_at ⟨#[34, 110, 58, 32, 34, 64]⟩ ex6 exr6 [120] (by decide) w hG ⟨3, [⟨0, [110, 58, 32]⟩, ⟨3, [64]⟩], 0⟩ [] (by kernel_rfl) rfl (by decide) (by decide) (by decide)
  rw [show writeL 0 [120] [⟨0, [110, 58, 32]⟩, ⟨3, [64]⟩] = some [110, 58, 32, 120] by kernel_rfl] at h
  exact h
theorem exc : (readL (L ⟨#[48, 44]⟩)).2 = 5 := by kernel_rfl
theorem exp : plainL (L ⟨#[34, 120, 34]⟩) = true := by kernel_rfl
end Go.Proofs.YtpknbdgmpfhcnaaGreatDoor
