/- The walk of codes.Apply at a text, by a format that has a section for texts. -/
import Derived.Test.YtpknbdgmpfhcnaaGreatDoorCsT
namespace Go.Proofs.YtpknbdgmpfhcnaaGreatDoor
set_option linter.unusedVariables false
set_option linter.unusedSimpArgs false
open Go.RowKit
set_option maxRecDepth 100000 in
set_option maxHeartbeats 1000000 in
theorem apply_at (s : ByteArray) (l : List Sec) (hr : readL (L s) = (some l, 0)) (t : List UInt8) (ht : t.length ≤ 255) (w : World) (hG : G w)
    (x : Sec) (r : List Sec) (hl : l.filter (keepB true) = x :: r) (hh : x.hundreds = 0) (hps : x.ps.length ≤ 60) (hpl : ∀ p ∈ x.ps, p.s.length ≤ 60) (hpd : ∀ p ∈ x.ps, p.kind ≠ 2) :
    Calls Tryz.prog 13 #[.string s, textV t] w (NumPost (writeL 0 t x.ps) w) := by
  have HR := Lib.hid (fun w hG => read_all s w hG)
  have HRL := Lib.hid hr
  have HC := Lib.hid (fun w => vcheck_text t w ht); have HW := Lib.hid (words_text t ht); have HG := Lib.hid hG; have HL := Lib.hid hl
  have hll : l.length ≤ 60 := by have := readL_len (L s) l (by rw [hr]); omega
  have HH := Lib.hid hh; have HPl := Lib.hid hpl; have HPd := Lib.hid hpd
  clear hr hG hl hh hpl hpd
  unfold textV at *
  go_enter Tryz.func13, Tryz.ntmps13
  go_wp2_with fail
  refine (HR.out _ (HG.out.alloc _)).mono ?_
  rintro e w1 ⟨hB1, v, rfl, hm⟩
  rw [HRL.out] at hm ⊢
  simp only at hm ⊢
  have hG1 := HG.out.below' (below_in hB1)
  have hB := below_in hB1
  have hx : w1.heap[w.heap.size]? = some (.cells #[.int .i64 2, .int .i64 0, .string ⟨t.toArray⟩, .bool false, .int .i64 0] 32 (0, 0)) := (hB1.block _ (by simp)).trans (heap_alloc_new _ _)
  have box : ∀ W : World, Below w1.heap.size w1 W → W.heap[w.heap.size]? = some (.cells #[.int .i64 2, .int .i64 0, .string ⟨t.toArray⟩, .bool false, .int .i64 0] 32 (0, 0)) := fun W h => (h.block _ (Array.getElem?_eq_some_iff.1 hx).1).trans hx
  have HBase : Hid ((w.alloc (.cells #[.int .i64 2, .int .i64 0, .string ⟨t.toArray⟩, .bool false, .int .i64 0] 32)).heap.size ≤ w1.heap.size) := hB1.size
  have HBx := Lib.hid box; have HB := Lib.hid hB; have HG1 := Lib.hid hG1; have Hm := Lib.hid hm
  have c0 : w1.cell? ⟨w.heap.size, 0, none⟩ = some (.int .i64 2) := by simp [World.cell?, hx]
  have c1 : w1.cell? ⟨w.heap.size, 1, none⟩ = some (.int .i64 0) := by simp [World.cell?, hx]
  have c2 : w1.cell? ⟨w.heap.size, 2, none⟩ = some (.string ⟨t.toArray⟩) := by simp [World.cell?, hx]
  have c3 : w1.cell? ⟨w.heap.size, 3, none⟩ = some (.bool false) := by simp [World.cell?, hx]
  have c4 : w1.cell? ⟨w.heap.size, 4, none⟩ = some (.int .i64 0) := by simp [World.cell?, hx]
  clear hx box hB hB1 hm hG1
  go_wp2_with fail
  refine (HC.out _).mono ?_
  rintro e w2 ⟨rfl, hB2⟩
  have hx2 := HBx.out w2 hB2
  have HB2 := Lib.hid hB2
  have c0 : w2.cell? ⟨w.heap.size, 0, none⟩ = some (.int .i64 2) := by simp [World.cell?, hx2]
  have c1 : w2.cell? ⟨w.heap.size, 1, none⟩ = some (.int .i64 0) := by simp [World.cell?, hx2]
  have c2 : w2.cell? ⟨w.heap.size, 2, none⟩ = some (.string ⟨t.toArray⟩) := by simp [World.cell?, hx2]
  have c3 : w2.cell? ⟨w.heap.size, 3, none⟩ = some (.bool false) := by simp [World.cell?, hx2]
  have c4 : w2.cell? ⟨w.heap.size, 4, none⟩ = some (.int .i64 0) := by simp [World.cell?, hx2]
  clear hx2 hB2
  go_wp2_with fail
  refine (HW.out _).mono ?_
  rintro e w3 ⟨rfl, hB3⟩
  have HB3 := Lib.hid (HB2.out.trans (hB3.mono HB2.out.size))
  have hx3 := HBx.out w3 HB3.out
  have c0 : w3.cell? ⟨w.heap.size, 0, none⟩ = some (.int .i64 2) := by simp [World.cell?, hx3]
  have hF3 : FmtP (w.alloc (.cells #[.int .i64 2, .int .i64 0, .string ⟨t.toArray⟩, .bool false, .int .i64 0] 32)).heap.size v l w3 := Hm.out.below HB3.out
  have hbs : (w.alloc (.cells #[.int .i64 2, .int .i64 0, .string ⟨t.toArray⟩, .bool false, .int .i64 0] 32)).heap.size ≤ w3.heap.size := Nat.le_trans (HBase.out) HB3.out.size
  generalize (w.alloc (.cells #[.int .i64 2, .int .i64 0, .string ⟨t.toArray⟩, .bool false, .int .i64 0] 32)).heap.size = base at *
  have HF3 := Lib.hid hF3; have HBs := Lib.hid hbs; have HB0 : Hid (Below w.heap.size w w3) := HB.out.trans (HB3.out.mono HB.out.size)
  clear hF3 hbs hx3 hB3
  go_wp2_with fail
  refine (some_any l v base true _ HF3.out HBs.out hll).mono ?_
  rintro e w4 ⟨v4, rfl, hF4, hB4⟩
  rw [HL.out] at hF4
  obtain ⟨g, cap, rfl, hcap, hbg, hgs, hc⟩ := hF4.cells (by simp)
  obtain ⟨u, a1, a2, a3, a4⟩ := hc 0 x rfl
  obtain ⟨ua, un, uc, rfl⟩ := own_slice a4
  simp only [Nat.zero_mul, Nat.zero_add] at a1 a2 a3
  rw [HH.out] at a3
  have hB04 : Below w.heap.size w w4 := HB0.out.trans (hB4.mono HB0.out.size)
  have hG4 : G w4 := HG.out.below' hB04
  obtain ⟨k, hk⟩ : ∃ k, r.length + 1 = k := ⟨_, rfl⟩
  have hk3 : (x :: r).length = k := by simp [← hk]
  rw [hk3] at *
  have h0k : 0 < k := by omega
  have hw5 : (w4.alloc (.cells (WV 0 0 0 t) 61)).heap[w4.heap.size]? = some (.cells (WV (0 : Nat) 0 0 t) 61 (0, 0)) := heap_alloc_new _ _
  have HWr := Lib.hid (write_any x.ps (.slice ua un uc) base 0 x.kind 0 0 0 t w4.heap.size (w4.alloc (.cells (WV 0 0 0 t) 61)) (by omega) (.inl ⟨rfl, rfl⟩) (a4.alloc _) hw5 (by have := hG4.size; omega) (hG4.alloc _) hps HPl.out ht (fun p hp hk => absurd hk (HPd.out p hp)))
  have HB4 := Lib.hid hB04
  clear hF4 hc hB4 hB04 hG4 hw5 a4 hk hk3
  go_wp2_with fail
  refine HWr.out.mono ?_
  rintro e w5 ⟨hgr, hq⟩
  have HB5 : Hid (Below w.heap.size w w5) := (HB4.out.alloc HB4.out.size _).grown hgr (by have := HB4.out.size; simp; omega) (by intro k hk; injection hk with hk; have := HB4.out.size; omega)
  obtain ⟨q, hqq⟩ : ∃ q, writeL 0 t x.ps = q := ⟨_, rfl⟩
  have HQ := Lib.hid hqq
  rw [hqq] at hq
  clear hqq hgr HWr
  cases q with
  | none =>
    simp only at hq
    subst hq
    go_wp2_with fail
    refine bodyPost_ret (v := .tuple #[.string ⟨#[]⟩, .int .i64 5]) (by simp [results, Tryz.results13, go_sem]) rfl ?_
    refine ⟨HB5.out, ?_⟩
    (rw [HQ.out] <;> rfl)
  | some t2 =>
    simp only at hq
    subst hq
    go_wp2_with fail
    refine bodyPost_ret (v := .tuple #[.string ⟨t2.toArray⟩, .int .i64 0]) (by simp [results, Tryz.results13, go_sem]) rfl ?_
    refine ⟨HB5.out, ?_⟩
    (rw [HQ.out] <;> rfl)
end Go.Proofs.YtpknbdgmpfhcnaaGreatDoor
