/- The walk of codes.Apply. -/
import Derived.Test.YtpknbdgmpfhcnaaGreatDoorCsS
namespace Go.Proofs.YtpknbdgmpfhcnaaGreatDoor
set_option linter.unusedVariables false
set_option linter.unusedSimpArgs false
open Go.RowKit

theorem grow_drew {w w' : World} {B : Nat} (h : Below B w w') : Below B w w'.drew := h.drew
set_option maxRecDepth 100000 in
set_option maxHeartbeats 1000000 in
theorem apply_num (s : ByteArray) (l : List Sec) (hr : readL (L s) = (some l, 0)) (n : Int) (hfit : fitsB n = true) (q : Option (List UInt8)) (w : World) (hG : G w)
    (hN : ∀ (v : Value) (base : Nat) (w1 : World), FmtP base v (l.filter (keepB false)) w1 → base ≤ w1.heap.size → G w1 → Calls Tryz.prog 26 #[v, .int .i64 n] w1 (NumPost q w1)) :
    Calls Tryz.prog 13 #[.string s, numV n] w (NumPost q w) := by
  have HR := Lib.hid (fun w hG => read_all s w hG)
  have HRL := Lib.hid hr
  have HC := Lib.hid (vcheck_num n); have HW := Lib.hid (words_num n); have HF := Lib.hid hfit; have HN := Lib.hid hN; have HG := Lib.hid hG
  clear hr hfit hN hG
  unfold numV at *
  go_enter Tryz.func13, Tryz.ntmps13
  go_wp2_with fail
  refine (HR.out _ (HG.out.alloc _)).mono ?_
  rintro e w1 ⟨hB1, v, rfl, hm⟩
  rw [HRL.out] at hm ⊢
  simp only at hm ⊢
  have hG1 := HG.out.below' (below_in hB1)
  have hB := below_in hB1
  have hx : w1.heap[w.heap.size]? = some (.cells #[.int .i64 1, .int .i64 n, .string ⟨#[]⟩, .bool false, .int .i64 0] 32 (0, 0)) := (hB1.block _ (by simp)).trans (heap_alloc_new _ _)
  have box : ∀ W : World, Below w1.heap.size w1 W → W.heap[w.heap.size]? = some (.cells #[.int .i64 1, .int .i64 n, .string ⟨#[]⟩, .bool false, .int .i64 0] 32 (0, 0)) := fun W h => (h.block _ (Array.getElem?_eq_some_iff.1 hx).1).trans hx
  have HBase : Hid ((w.alloc (.cells #[.int .i64 1, .int .i64 n, .string ⟨#[]⟩, .bool false, .int .i64 0] 32)).heap.size ≤ w1.heap.size) := hB1.size
  have HBx := Lib.hid box; have HB := Lib.hid hB; have HG1 := Lib.hid hG1; have Hm := Lib.hid hm
  have c0 : w1.cell? ⟨w.heap.size, 0, none⟩ = some (.int .i64 1) := by simp [World.cell?, hx]
  have c1 : w1.cell? ⟨w.heap.size, 1, none⟩ = some (.int .i64 n) := by simp [World.cell?, hx]
  have c2 : w1.cell? ⟨w.heap.size, 2, none⟩ = some (.string ⟨#[]⟩) := by simp [World.cell?, hx]
  have c3 : w1.cell? ⟨w.heap.size, 3, none⟩ = some (.bool false) := by simp [World.cell?, hx]
  have c4 : w1.cell? ⟨w.heap.size, 4, none⟩ = some (.int .i64 0) := by simp [World.cell?, hx]
  clear hx box hB hB1 hm hG1
  go_wp2_with fail
  refine (HC.out _).mono ?_
  rintro e w2 ⟨rfl, hB2⟩
  rw [HF.out]
  have hx2 := HBx.out w2 hB2
  have HB2 := Lib.hid hB2
  have c0 : w2.cell? ⟨w.heap.size, 0, none⟩ = some (.int .i64 1) := by simp [World.cell?, hx2]
  have c1 : w2.cell? ⟨w.heap.size, 1, none⟩ = some (.int .i64 n) := by simp [World.cell?, hx2]
  have c2 : w2.cell? ⟨w.heap.size, 2, none⟩ = some (.string ⟨#[]⟩) := by simp [World.cell?, hx2]
  have c3 : w2.cell? ⟨w.heap.size, 3, none⟩ = some (.bool false) := by simp [World.cell?, hx2]
  have c4 : w2.cell? ⟨w.heap.size, 4, none⟩ = some (.int .i64 0) := by simp [World.cell?, hx2]
  clear hx2 hB2
  go_wp2_with fail
  refine (HW.out _ (HG1.out.below' HB2.out) HF.out).mono ?_
  rintro e w3 ⟨⟨t, rfl⟩, hB3⟩
  have HB3 := Lib.hid (HB2.out.trans (hB3.mono HB2.out.size))
  have hx3 := HBx.out w3 HB3.out
  have c0 : w3.cell? ⟨w.heap.size, 0, none⟩ = some (.int .i64 1) := by simp [World.cell?, hx3]
  have c1 : w3.cell? ⟨w.heap.size, 1, none⟩ = some (.int .i64 n) := by simp [World.cell?, hx3]
  clear hx3 hB3
  go_wp2_with fail
  have hll : l.length ≤ 60 := by have := readL_len (L s) l (by rw [HRL.out]); omega
  have hF3 : FmtP (w.alloc (.cells #[.int .i64 1, .int .i64 n, .string ⟨#[]⟩, .bool false, .int .i64 0] 32)).heap.size v l w3.drew := Hm.out.below (grow_drew HB3.out)
  have hG3 : G w3.drew := (HG1.out.below' HB3.out).drew
  have hbs : (w.alloc (.cells #[.int .i64 1, .int .i64 n, .string ⟨#[]⟩, .bool false, .int .i64 0] 32)).heap.size ≤ w3.drew.heap.size := Nat.le_trans (HBase.out) (by have := HB3.out.size; simpa using this)
  have hlt3 : w.heap.size < w3.heap.size := by simp at hbs; omega
  generalize (w.alloc (.cells #[.int .i64 1, .int .i64 n, .string ⟨#[]⟩, .bool false, .int .i64 0] 32)).heap.size = base at *
  have HF3 := Lib.hid hF3; have HG3 := Lib.hid hG3; have HBs := Lib.hid hbs; have HB0 : Hid (Below w.heap.size w w3) := HB.out.trans (HB3.out.mono HB.out.size)
  clear hF3 hG3 hbs
  cases q with
  | none =>
    go_region_with (first
      | (go_at_call 25; refine (some_any l v base false _ HF3.out HBs.out hll).mono ?_; rintro e w4 ⟨v4, rfl, hF4, hB4⟩; have c4 := (hB4.cell (p := ⟨w.heap.size, 1, none⟩) hlt3).trans c1)
      | (go_at_call 26; refine (HN.out v4 base _ hF4 (Nat.le_trans HBs.out hB4.size) (HG3.out.below' hB4)).mono ?_; rintro e w5 ⟨hB5, rfl⟩))
    all_goals
      have HBe : Hid (Below w.heap.size w w5) := HB0.out.drew.trans ((hB4.trans (hB5.mono hB4.size)).mono HB0.out.size)
      clear hB4 hB5 hF4
      go_wp2_with fail
      refine bodyPost_ret (v := .tuple #[.string ⟨#[]⟩, .int .i64 5]) (by simp [results, Tryz.results13, go_sem]) rfl ?_
      exact ⟨HBe.out, rfl⟩
  | some t2 =>
    go_region_with (first
      | (go_at_call 25; refine (some_any l v base false _ HF3.out HBs.out hll).mono ?_; rintro e w4 ⟨v4, rfl, hF4, hB4⟩; have c4 := (hB4.cell (p := ⟨w.heap.size, 1, none⟩) hlt3).trans c1)
      | (go_at_call 26; refine (HN.out v4 base _ hF4 (Nat.le_trans HBs.out hB4.size) (HG3.out.below' hB4)).mono ?_; rintro e w5 ⟨hB5, rfl⟩))
    all_goals
      have HBe : Hid (Below w.heap.size w w5) := HB0.out.drew.trans ((hB4.trans (hB5.mono hB4.size)).mono HB0.out.size)
      clear hB4 hB5 hF4
      go_wp2_with fail
      refine bodyPost_ret (v := .tuple #[.string ⟨t2.toArray⟩, .int .i64 0]) (by simp [results, Tryz.results13, go_sem]) rfl ?_
      exact ⟨HBe.out, rfl⟩
/-- A format or a value that is none. -/
def BadPost (w : World) (e : Ending) (w' : World) : Prop := e = .returned (.tuple #[.string ⟨#[]⟩, .int .i64 2]) ∧ Below w.heap.size w w'
set_option maxRecDepth 100000 in
set_option maxHeartbeats 1000000 in
theorem apply_over (s : ByteArray) (l : List Sec) (hr : readL (L s) = (some l, 0)) (n : Int) (hfit : fitsB n = false) (w : World) (hG : G w) :
    Calls Tryz.prog 13 #[.string s, numV n] w (BadPost w) := by
  have HR := Lib.hid (fun w hG => read_all s w hG)
  have HRL := Lib.hid hr
  have HC := Lib.hid (vcheck_num n); have HF := Lib.hid hfit; have HG := Lib.hid hG
  clear hr hfit hG
  unfold numV at *
  go_enter Tryz.func13, Tryz.ntmps13
  go_wp2_with fail
  refine (HR.out _ (HG.out.alloc _)).mono ?_
  rintro e w1 ⟨hB1, v, rfl, hm⟩
  rw [HRL.out] at hm ⊢
  simp only at hm ⊢
  have hB := below_in hB1
  have hx : w1.heap[w.heap.size]? = some (.cells #[.int .i64 1, .int .i64 n, .string ⟨#[]⟩, .bool false, .int .i64 0] 32 (0, 0)) := (hB1.block _ (by simp)).trans (heap_alloc_new _ _)
  have HB := Lib.hid hB
  have c0 : w1.cell? ⟨w.heap.size, 0, none⟩ = some (.int .i64 1) := by simp [World.cell?, hx]
  have c1 : w1.cell? ⟨w.heap.size, 1, none⟩ = some (.int .i64 n) := by simp [World.cell?, hx]
  have c2 : w1.cell? ⟨w.heap.size, 2, none⟩ = some (.string ⟨#[]⟩) := by simp [World.cell?, hx]
  have c3 : w1.cell? ⟨w.heap.size, 3, none⟩ = some (.bool false) := by simp [World.cell?, hx]
  have c4 : w1.cell? ⟨w.heap.size, 4, none⟩ = some (.int .i64 0) := by simp [World.cell?, hx]
  clear hx hB hB1 hm
  go_wp2_with fail
  refine (HC.out _).mono ?_
  rintro e w2 ⟨rfl, hB2⟩
  rw [HF.out]
  have HB2 := Lib.hid hB2
  clear hB2
  go_wp2_with fail
  refine bodyPost_ret (v := .tuple #[.string ⟨#[]⟩, .int .i64 2]) (by simp [results, Tryz.results13, go_sem]) rfl ?_
  exact ⟨rfl, HB.out.trans (HB2.out.mono HB.out.size)⟩
set_option maxRecDepth 100000 in
set_option maxHeartbeats 1000000 in
theorem apply_text (s : ByteArray) (l : List Sec) (hr : readL (L s) = (some l, 0)) (t : List UInt8) (ht : t.length ≤ 255) (w : World) (hG : G w)
    (hl : l.filter (keepB true) = []) :
    Calls Tryz.prog 13 #[.string s, textV t] w (NumPost (some t) w) := by
  have HR := Lib.hid (fun w hG => read_all s w hG)
  have HRL := Lib.hid hr
  have HC := Lib.hid (fun w => vcheck_text t w ht); have HW := Lib.hid (words_text t ht); have HG := Lib.hid hG; have HL := Lib.hid hl
  have hll : l.length ≤ 60 := by have := readL_len (L s) l (by rw [hr]); omega
  clear hr hG hl
  unfold textV at *
  go_enter Tryz.func13, Tryz.ntmps13
  go_wp2_with fail
  refine (HR.out _ (HG.out.alloc _)).mono ?_
  rintro e w1 ⟨hB1, v, rfl, hm⟩
  rw [HRL.out] at hm ⊢
  simp only at hm ⊢
  have hG1 := HG.out.below' (below_in hB1)
  have hB := below_in hB1
  have hx : w1.heap[w.heap.size]? = some (.cells #[.int .i64 2, .int .i64 0, .string ⟨t.toArray⟩, .bool false, .int .i64 0] 32 (0, 0)) := (hB1.block _ (by simp)).trans (heap_alloc_new _ _)
  have box : ∀ W : World, Below w1.heap.size w1 W → W.heap[w.heap.size]? = some (.cells #[.int .i64 2, .int .i64 0, .string ⟨t.toArray⟩, .bool false, .int .i64 0] 32 (0, 0)) := fun W h => (h.block _ (Array.getElem?_eq_some_iff.1 hx).1).trans hx
  have HBase : Hid ((w.alloc (.cells #[.int .i64 2, .int .i64 0, .string ⟨t.toArray⟩, .bool false, .int .i64 0] 32)).heap.size ≤ w1.heap.size) := hB1.size
  have HBx := Lib.hid box; have HB := Lib.hid hB; have HG1 := Lib.hid hG1; have Hm := Lib.hid hm
  have c0 : w1.cell? ⟨w.heap.size, 0, none⟩ = some (.int .i64 2) := by simp [World.cell?, hx]
  have c1 : w1.cell? ⟨w.heap.size, 1, none⟩ = some (.int .i64 0) := by simp [World.cell?, hx]
  have c2 : w1.cell? ⟨w.heap.size, 2, none⟩ = some (.string ⟨t.toArray⟩) := by simp [World.cell?, hx]
  have c3 : w1.cell? ⟨w.heap.size, 3, none⟩ = some (.bool false) := by simp [World.cell?, hx]
  have c4 : w1.cell? ⟨w.heap.size, 4, none⟩ = some (.int .i64 0) := by simp [World.cell?, hx]
  clear hx box hB hB1 hm hG1
  go_wp2_with fail
  refine (HC.out _).mono ?_
  rintro e w2 ⟨rfl, hB2⟩
  have hx2 := HBx.out w2 hB2
  have HB2 := Lib.hid hB2
  have c0 : w2.cell? ⟨w.heap.size, 0, none⟩ = some (.int .i64 2) := by simp [World.cell?, hx2]
  have c1 : w2.cell? ⟨w.heap.size, 1, none⟩ = some (.int .i64 0) := by simp [World.cell?, hx2]
  have c2 : w2.cell? ⟨w.heap.size, 2, none⟩ = some (.string ⟨t.toArray⟩) := by simp [World.cell?, hx2]
  have c3 : w2.cell? ⟨w.heap.size, 3, none⟩ = some (.bool false) := by simp [World.cell?, hx2]
  have c4 : w2.cell? ⟨w.heap.size, 4, none⟩ = some (.int .i64 0) := by simp [World.cell?, hx2]
  clear hx2 hB2
  go_wp2_with fail
  refine (HW.out _).mono ?_
  rintro e w3 ⟨rfl, hB3⟩
  have HB3 := Lib.hid (HB2.out.trans (hB3.mono HB2.out.size))
  have hx3 := HBx.out w3 HB3.out
  have c0 : w3.cell? ⟨w.heap.size, 0, none⟩ = some (.int .i64 2) := by simp [World.cell?, hx3]
  have hF3 : FmtP (w.alloc (.cells #[.int .i64 2, .int .i64 0, .string ⟨t.toArray⟩, .bool false, .int .i64 0] 32)).heap.size v l w3 := Hm.out.below HB3.out
  have hbs : (w.alloc (.cells #[.int .i64 2, .int .i64 0, .string ⟨t.toArray⟩, .bool false, .int .i64 0] 32)).heap.size ≤ w3.heap.size := Nat.le_trans (HBase.out) HB3.out.size
  generalize (w.alloc (.cells #[.int .i64 2, .int .i64 0, .string ⟨t.toArray⟩, .bool false, .int .i64 0] 32)).heap.size = base at *
  have HF3 := Lib.hid hF3; have HBs := Lib.hid hbs; have HB0 : Hid (Below w.heap.size w w3) := HB.out.trans (HB3.out.mono HB.out.size)
  clear hF3 hbs hx3 hB3
  go_wp2_with fail
  refine (some_any l v base true _ HF3.out HBs.out hll).mono ?_
  rintro e w4 ⟨v4, rfl, hF4, hB4⟩
  rw [HL.out] at hF4
  obtain ⟨a4, cap4, rfl⟩ := hF4.form
  have HBe : Hid (Below w.heap.size w w4) := HB0.out.trans (hB4.mono HB0.out.size)
  clear hF4 hB4
  go_wp2_with fail
  refine bodyPost_ret (v := .tuple #[.string ⟨t.toArray⟩, .int .i64 0]) (by simp [results, Tryz.results13, go_sem]) rfl ?_
  exact ⟨HBe.out, rfl⟩
end Go.Proofs.YtpknbdgmpfhcnaaGreatDoor
