/- The walk of the reader's method next. -/
import Derived.Test.YtpknbdgmpfhcnaaGreatDoorCs5
namespace Go.Proofs.YtpknbdgmpfhcnaaGreatDoor
set_option linter.unusedVariables false
set_option linter.unusedSimpArgs false
open Go.RowKit

def wordSet : List UInt8 := [32, 36, 40, 41, 43, 45, 47, 58, 33, 61]
def numSet : List UInt8 := [48, 35, 44, 46]
def backL : List UInt8 → Option (Pc × List UInt8)
  | [] => none
  | x :: t => some (⟨0, [x]⟩, t)
def numL (q : List UInt8) : Option (Pc × List UInt8) := if placeL (rowL numSet q) = true then some (⟨1, rowL numSet q⟩, cutL numSet q) else none
/-- The piece at the front of a text, and what is left. -/
def nextL : List UInt8 → Option (Pc × List UInt8)
  | [] => none
  | c :: r =>
    if c = 34 then (quoteL r).map fun q => (⟨0, q.1⟩, q.2)
    else if c = 92 then backL r
    else if c ∈ wordSet then some (⟨0, [c]⟩, r)
    else if c ∈ numSet then numL (c :: r)
    else if c = 37 then some (⟨4, [37]⟩, r)
    else if c = 121 ∨ c = 109 ∨ c = 100 then partL c (c :: r)
    else if c = 64 then some (⟨3, [64]⟩, r)
    else none

theorem nextL_cons (c : UInt8) (r : List UInt8) : nextL (c :: r) =
    if c = 34 then (quoteL r).map fun q => (⟨0, q.1⟩, q.2)
    else if c = 92 then backL r
    else if c ∈ wordSet then some (⟨0, [c]⟩, r)
    else if c ∈ numSet then numL (c :: r)
    else if c = 37 then some (⟨4, [37]⟩, r)
    else if c = 121 ∨ c = 109 ∨ c = 100 then partL c (c :: r)
    else if c = 64 then some (⟨3, [64]⟩, r)
    else none := rfl
theorem idx_yes {s : List UInt8} {c : UInt8} (h : c ∈ s) : 0 ≤ Lib.indexByte s c := by
  obtain ⟨a, t, rfl, ha⟩ := mem_split s c h
  rw [indexByte_some _ _ _ ha]; omega
theorem idx_no {s : List UInt8} {c : UInt8} (h : c ∉ s) : Lib.indexByte s c = -1 := indexByte_none s c h
theorem ne_test {c : UInt8} {k : UInt8} (h : c ≠ k) : ((c.toNat : Int) == (k.toNat : Int)) = false := by
  rw [beq_eq_false_iff_ne]
  intro e
  exact h (UInt8.toNat_inj.1 (by exact_mod_cast e))

/-- The zero piece in the result's block. -/
def ZP (w : World) (g : Nat) : Prop := w.heap[g]? = some (.cells #[.int .i64 0, .string ⟨#[]⟩] 98 (0, 0))
theorem ZP.c0 {w : World} {g : Nat} (h : ZP w g) : w.cell? ⟨g, 0, none⟩ = some (.int .i64 0) := by unfold ZP at h; simp [World.cell?, h]
theorem ZP.c1 {w : World} {g : Nat} (h : ZP w g) : w.cell? ⟨g, 1, none⟩ = some (.string ⟨#[]⟩) := by unfold ZP at h; simp [World.cell?, h]
theorem ZP.f0 {w : World} {g : Nat} (h : ZP w g) : w.frozen? ⟨g, 0, none⟩ = false := by unfold ZP at h; simp [World.frozen?, h]
theorem ZP.f1 {w : World} {g : Nat} (h : ZP w g) : w.frozen? ⟨g, 1, none⟩ = false := by unfold ZP at h; simp [World.frozen?, h]
theorem ZP.lt {w : World} {g : Nat} (h : ZP w g) : g < w.heap.size := (Array.getElem?_eq_some_iff.1 h).1
theorem ZP.new (w : World) : ZP (w.alloc (.cells #[.int .i64 0, .string ⟨#[]⟩] 98)) w.heap.size := heap_alloc_new _ _
theorem ZP.grown {w w' : World} {g : Nat} {r : Option Nat} (h : ZP w g) (hg : w.grownBy w' r) (hr : some g ≠ r) : ZP w' g := (hg.block g h.lt hr).trans h
/-- The way out of next: the piece is stored into the result's block. -/
theorem next_out {W w5 : World} {b : Nat} {p : Pc} {t : List UInt8} (hg : W.grownBy w5 (some b)) (hb : b < W.heap.size) (hR : RD w5 b t) :
    PcPost b (some (p, t)) W (.returned (pcV p)) ((w5.setCell ⟨W.heap.size, 0, none⟩ (.int .i64 p.kind)).setCell ⟨W.heap.size, 1, none⟩ (.string ⟨p.s.toArray⟩)) :=
  ⟨grown_setNew (grown_setNew hg (Nat.le_refl _) _) (Nat.le_refl _) _, rfl, (hR.far (by simp; omega) _).far (by simp; omega) _⟩

set_option maxHeartbeats 1600000 in
theorem next_quote (w : World) (b : Nat) (r : List UInt8) (hl : (34 :: r).length ≤ 60) (hr : RD w b (34 :: r)) :
    Calls Tryz.prog 88 #[.pointer (some ⟨b, 0, none⟩)] w (PcPost b (nextL (34 :: r)) w) := by
  have e0 : nextL (34 :: r) = (quoteL r).map fun q => (⟨0, q.1⟩, q.2) := rfl
  rw [e0]
  obtain ⟨x, hx⟩ : ∃ x, ((quoteL r).map fun q => ((⟨0, q.1⟩ : Pc), q.2)) = x := ⟨_, rfl⟩
  rw [hx]
  have hlt := hr.lt
  have hcell := hr.cell
  have HR := Lib.hid hr; clear hr
  have HX := Lib.hid hx; clear hx
  have c0 : (w.alloc (.cells #[.int .i64 0, .string ⟨#[]⟩] 98)).cell? ⟨b, 0, none⟩ = some (.string ⟨(34 :: r).toArray⟩) := (HR.out.below ((Below.refl _ _).alloc (Nat.le_refl _) _)).cell
  go_enter Tryz.func88, Tryz.ntmps88
  go_wp2_with fail
  have HQ : Hid (∀ w, RD w b (34 :: r) → Calls Tryz.prog 112 #[.pointer (some ⟨b, 0, none⟩)] w (PcPost b x w)) := by
    intro w hw
    rw [← HX.out]
    by_cases h : (34 : UInt8) ∈ r
    · obtain ⟨a, t, rfl, ha⟩ := mem_split r 34 h
      rw [quoteL_some a t ha]; exact quoted_some w b a t ha hw
    · exact quoted_none w b r h hw
  refine (HQ.out _ (HR.out.below ((Below.refl _ _).alloc (Nat.le_refl _) _))).mono ?_
  rintro e w1 ⟨hg1, hp⟩
  have HG1 : Hid (w.grownBy w1 (some b)) := grown_trans (World.grownBy_alloc _ _ _) hg1
  cases x with
  | none =>
    obtain rfl := hp
    go_wp2_with fail
    exact ⟨rfl, HG1.out, rfl⟩
  | some pt =>
    obtain ⟨p, t⟩ := pt
    obtain ⟨rfl, hR1⟩ := hp
    have HR1 := Lib.hid hR1; clear hR1
    have hz := (ZP.new w).grown hg1 (by simp; omega)
    have k2 := hz.c0; have k3 := hz.c1; have f2 := hz.f0; have f3 := hz.f1
    have HZ := Lib.hid hz; clear hz
    unfold pcV
    go_wp2_with fail
    refine bodyPost_ret (v := pcV p) (by simp [results, Tryz.results88, go_sem, pcV, k2, k3]) rfl ?_
    exact next_out HG1.out hlt HR1.out

/-- What next knows when it begins. -/
structure NextAt (w : World) (b : Nat) (c : UInt8) (r q : List UInt8) : Prop where
  eq : q = c :: r
  len : q.length ≤ 60
  rd : RD w b q
  g : G w
  b : gN ≤ b
theorem NextAt.rd1 {w : World} {b : Nat} {c : UInt8} {r q : List UInt8} (h : NextAt w b c r q) (o : Obj) : RD (w.alloc o) b q := h.rd.below ((Below.refl _ _).alloc (Nat.le_refl _) _)
theorem NextAt.c0 {w : World} {b : Nat} {c : UInt8} {r q : List UInt8} (h : NextAt w b c r q) : (w.alloc (.cells #[.int .i64 0, .string ⟨#[]⟩] 98)).cell? ⟨b, 0, none⟩ = some (.string ⟨q.toArray⟩) := (h.rd1 _).cell
theorem NextAt.l0 {w : World} {b : Nat} {c : UInt8} {r q : List UInt8} (h : NextAt w b c r q) : (0 : Int) < (q.length : Int) := by rw [h.eq]; simp
theorem NextAt.x0 {w : World} {b : Nat} {c : UInt8} {r q : List UInt8} (h : NextAt w b c r q) : ∀ hh, (⟨q.toArray⟩ : ByteArray)[0]'hh = c := by
  have := h.eq; subst this; intro hh; rfl
theorem NextAt.drop1 {w : World} {b : Nat} {c : UInt8} {r q : List UInt8} (h : NextAt w b c r q) : q.drop 1 = r := by rw [h.eq]; rfl
theorem NextAt.take1 {w : World} {b : Nat} {c : UInt8} {r q : List UInt8} (h : NextAt w b c r q) : q.take 1 = [c] := by rw [h.eq]; rfl

set_option maxHeartbeats 3200000 in
theorem next_word (w : World) (b : Nat) (c : UInt8) (r q : List UInt8) (h : NextAt w b c r q) (h1 : c ≠ 34) (h2 : c ≠ 92) (h3 : c ∈ wordSet) :
    Calls Tryz.prog 88 #[.pointer (some ⟨b, 0, none⟩)] w (PcPost b (some (⟨0, [c]⟩, r)) w) := by
  have hlt := h.rd.lt
  have hcell := h.rd.cell
  have c0 := h.c0
  have l0 := h.l0
  have x0 := h.x0
  have t1 : ((c.toNat : Int) == 34) = false := ne_test h1; clear h1
  have t2 : ((c.toNat : Int) == 92) = false := ne_test h2; clear h2
  have yi : 0 ≤ Lib.indexByte wordSet c := idx_yes h3; clear h3
  obtain ⟨i, hii⟩ : ∃ i, Lib.indexByte wordSet c = i := ⟨_, rfl⟩
  rw [hii] at yi
  have HIi := Lib.hid hii; clear hii
  have H := Lib.hid h; clear h
  go_enter Tryz.func88, Tryz.ntmps88
  go_wp2_with fail
  refine (c_IndexByte wordSet c i HIi.out _).mono ?_
  rintro e w1 ⟨rfl, rfl⟩
  go_wp2_with fail
  refine (cut_any _ b 1 q (by have := H.out.l0; omega) (H.out.rd1 _)).mono ?_
  rintro e wx ⟨rfl, hR2, hg2⟩
  rw [H.out.drop1] at hR2
  rw [H.out.take1]
  have HR2 := Lib.hid hR2; clear hR2
  have HG : Hid (w.grownBy wx (some b)) := grown_trans (World.grownBy_alloc _ _ _) hg2
  have HZ : Hid (ZP wx w.heap.size) := (ZP.new w).grown hg2 (by simp; omega)
  have k2 := HZ.out.c0; have k3 := HZ.out.c1; have f2 := HZ.out.f0; have f3 := HZ.out.f1
  go_wp2_with fail
  refine bodyPost_ret (v := pcV ⟨0, [c]⟩) (by simp [results, Tryz.results88, go_sem, pcV, k2, k3]) rfl ?_
  exact next_out (p := ⟨0, [c]⟩) HG.out hlt HR2.out

set_option maxHeartbeats 3200000 in
theorem next_pct (w : World) (b : Nat) (c : UInt8) (r q : List UInt8) (h : NextAt w b c r q) (h0 : c = 37) :
    Calls Tryz.prog 88 #[.pointer (some ⟨b, 0, none⟩)] w (PcPost b (some (⟨4, [37]⟩, r)) w) := by
  have hlt := h.rd.lt
  have hcell := h.rd.cell
  have c0 := h.c0
  have l0 := h.l0
  have x0 := h.x0
  have h1 : c ≠ 34 := by rw [h0]; decide
  have h2 : c ≠ 92 := by rw [h0]; decide
  have h3 : c ∉ wordSet := by rw [h0]; decide
  have h4 : c ∉ numSet := by rw [h0]; decide
  have t1 : ((c.toNat : Int) == 34) = false := ne_test h1; clear h1
  have t2 : ((c.toNat : Int) == 92) = false := ne_test h2; clear h2
  have HIi := Lib.hid (idx_no h3); clear h3
  have HIj := Lib.hid (idx_no h4); clear h4
  have t5 : ((c.toNat : Int) == 37) = true := by rw [h0]; rfl
  have HC := Lib.hid h0; clear h0
  have H := Lib.hid h; clear h
  go_enter Tryz.func88, Tryz.ntmps88
  go_wp2_with fail
  refine (c_IndexByte wordSet c (-1) HIi.out _).mono ?_
  rintro e w1 ⟨rfl, rfl⟩
  go_wp2_with fail
  refine (c_IndexByte numSet c (-1) HIj.out _).mono ?_
  rintro e w1 ⟨rfl, rfl⟩
  go_wp2_with fail
  refine (cut_any _ b 1 q (by have := H.out.l0; omega) (H.out.rd1 _)).mono ?_
  rintro e wx ⟨rfl, hR2, hg2⟩
  rw [H.out.drop1] at hR2
  rw [H.out.take1]
  have HR2 := Lib.hid hR2; clear hR2
  have HG : Hid (w.grownBy wx (some b)) := grown_trans (World.grownBy_alloc _ _ _) hg2
  have HZ : Hid (ZP wx w.heap.size) := (ZP.new w).grown hg2 (by simp; omega)
  have k2 := HZ.out.c0; have k3 := HZ.out.c1; have f2 := HZ.out.f0; have f3 := HZ.out.f1
  rw [HC.out]
  go_wp2_with fail
  refine bodyPost_ret (v := pcV ⟨4, [37]⟩) (by simp [results, Tryz.results88, go_sem, pcV, k2, k3]) rfl ?_
  exact next_out (p := ⟨4, [37]⟩) HG.out hlt HR2.out

set_option maxHeartbeats 3200000 in
theorem next_at (w : World) (b : Nat) (c : UInt8) (r q : List UInt8) (h : NextAt w b c r q) (h0 : c = 64) :
    Calls Tryz.prog 88 #[.pointer (some ⟨b, 0, none⟩)] w (PcPost b (some (⟨3, [64]⟩, r)) w) := by
  have hlt := h.rd.lt
  have hcell := h.rd.cell
  have c0 := h.c0
  have l0 := h.l0
  have x0 := h.x0
  have h1 : c ≠ 34 := by rw [h0]; decide
  have h2 : c ≠ 92 := by rw [h0]; decide
  have h3 : c ∉ wordSet := by rw [h0]; decide
  have h4 : c ∉ numSet := by rw [h0]; decide
  have h5 : c ≠ 37 := by rw [h0]; decide
  have h6 : c ≠ 121 := by rw [h0]; decide
  have h7 : c ≠ 109 := by rw [h0]; decide
  have h8 : c ≠ 100 := by rw [h0]; decide
  have t1 : ((c.toNat : Int) == 34) = false := ne_test h1; clear h1
  have t2 : ((c.toNat : Int) == 92) = false := ne_test h2; clear h2
  have HIi := Lib.hid (idx_no h3); clear h3
  have HIj := Lib.hid (idx_no h4); clear h4
  have t5 : ((c.toNat : Int) == 37) = false := ne_test h5; clear h5
  have t6 : ((c.toNat : Int) == 121) = false := ne_test h6; clear h6
  have t7 : ((c.toNat : Int) == 109) = false := ne_test h7; clear h7
  have t8 : ((c.toNat : Int) == 100) = false := ne_test h8; clear h8
  have t9 : ((c.toNat : Int) == 64) = true := by rw [h0]; rfl
  have HC := Lib.hid h0; clear h0
  have H := Lib.hid h; clear h
  go_enter Tryz.func88, Tryz.ntmps88
  go_wp2_with fail
  refine (c_IndexByte wordSet c (-1) HIi.out _).mono ?_
  rintro e w1 ⟨rfl, rfl⟩
  go_wp2_with fail
  refine (c_IndexByte numSet c (-1) HIj.out _).mono ?_
  rintro e w1 ⟨rfl, rfl⟩
  go_wp2_with fail
  refine (cut_any _ b 1 q (by have := H.out.l0; omega) (H.out.rd1 _)).mono ?_
  rintro e wx ⟨rfl, hR2, hg2⟩
  rw [H.out.drop1] at hR2
  rw [H.out.take1]
  have HR2 := Lib.hid hR2; clear hR2
  have HG : Hid (w.grownBy wx (some b)) := grown_trans (World.grownBy_alloc _ _ _) hg2
  have HZ : Hid (ZP wx w.heap.size) := (ZP.new w).grown hg2 (by simp; omega)
  have k2 := HZ.out.c0; have k3 := HZ.out.c1; have f2 := HZ.out.f0; have f3 := HZ.out.f1
  rw [HC.out]
  go_wp2_with fail
  refine bodyPost_ret (v := pcV ⟨3, [64]⟩) (by simp [results, Tryz.results88, go_sem, pcV, k2, k3]) rfl ?_
  exact next_out (p := ⟨3, [64]⟩) HG.out hlt HR2.out

set_option maxHeartbeats 3200000 in
theorem next_bad (w : World) (b : Nat) (c : UInt8) (r q : List UInt8) (h : NextAt w b c r q) (h1 : c ≠ 34) (h2 : c ≠ 92) (h3 : c ∉ wordSet) (h4 : c ∉ numSet) (h5 : c ≠ 37) (h6 : c ≠ 121) (h7 : c ≠ 109) (h8 : c ≠ 100) (h9 : c ≠ 64) :
    Calls Tryz.prog 88 #[.pointer (some ⟨b, 0, none⟩)] w (PcPost b (none) w) := by
  have hlt := h.rd.lt
  have hcell := h.rd.cell
  have c0 := h.c0
  have l0 := h.l0
  have x0 := h.x0
  have t1 : ((c.toNat : Int) == 34) = false := ne_test h1; clear h1
  have t2 : ((c.toNat : Int) == 92) = false := ne_test h2; clear h2
  have HIi := Lib.hid (idx_no h3); clear h3
  have HIj := Lib.hid (idx_no h4); clear h4
  have t5 : ((c.toNat : Int) == 37) = false := ne_test h5; clear h5
  have t6 : ((c.toNat : Int) == 121) = false := ne_test h6; clear h6
  have t7 : ((c.toNat : Int) == 109) = false := ne_test h7; clear h7
  have t8 : ((c.toNat : Int) == 100) = false := ne_test h8; clear h8
  have t9 : ((c.toNat : Int) == 64) = false := ne_test h9; clear h9
  have H := Lib.hid h; clear h
  go_enter Tryz.func88, Tryz.ntmps88
  go_wp2_with fail
  refine (c_IndexByte wordSet c (-1) HIi.out _).mono ?_
  rintro e w1 ⟨rfl, rfl⟩
  go_wp2_with fail
  refine (c_IndexByte numSet c (-1) HIj.out _).mono ?_
  rintro e w1 ⟨rfl, rfl⟩
  go_wp2_with fail
  refine (must_false _).mono ?_
  rintro e w2 ⟨rfl, rfl⟩
  go_wp2_with fail
  exact ⟨rfl, World.grownBy_alloc _ _ _, rfl⟩

set_option maxHeartbeats 3200000 in
theorem next_day_y (w : World) (b : Nat) (c : UInt8) (r q : List UInt8) (h : NextAt w b c r q) (h0 : c = 121) :
    Calls Tryz.prog 88 #[.pointer (some ⟨b, 0, none⟩)] w (PcPost b (partL c q) w) := by
  have hlt := h.rd.lt
  have hcell := h.rd.cell
  have c0 := h.c0
  have l0 := h.l0
  have x0 := h.x0
  have h1 : c ≠ 34 := by rw [h0]; decide
  have h2 : c ≠ 92 := by rw [h0]; decide
  have h5 : c ≠ 37 := by rw [h0]; decide
  have h3 : c ∉ wordSet := by rw [h0]; decide
  have h4 : c ∉ numSet := by rw [h0]; decide
  have t1 : ((c.toNat : Int) == 34) = false := ne_test h1; clear h1
  have t2 : ((c.toNat : Int) == 92) = false := ne_test h2; clear h2
  have HIi := Lib.hid (idx_no h3); clear h3
  have HIj := Lib.hid (idx_no h4); clear h4
  have t5 : ((c.toNat : Int) == 37) = false := ne_test h5; clear h5
  have t9 : ((c.toNat : Int) == 121) = true := by rw [h0]; rfl
  have HC : Hid (c = 121 ∨ c = 109 ∨ c = 100) := by show c = 121 ∨ c = 109 ∨ c = 100; rw [h0]; decide
  clear h0
  obtain ⟨x, hx⟩ : ∃ x, partL c q = x := ⟨_, rfl⟩
  rw [hx]
  have HPX := Lib.hid hx; clear hx
  have H := Lib.hid h; clear h
  go_enter Tryz.func88, Tryz.ntmps88
  go_wp2_with fail
  refine (c_IndexByte wordSet c (-1) HIi.out _).mono ?_
  rintro e w1 ⟨rfl, rfl⟩
  go_wp2_with fail
  refine (c_IndexByte numSet c (-1) HIj.out _).mono ?_
  rintro e w1 ⟨rfl, rfl⟩
  go_wp2_with fail
  have HX : Hid (∀ w, RD w b q → G w → Calls Tryz.prog 116 #[.pointer (some ⟨b, 0, none⟩)] w (PcPost b x w)) := by
    intro w hw hG
    rw [← HPX.out]
    have he := H.out.eq
    subst he
    exact part_any w b c r (by rcases HC.out with h | h | h <;> rw [h] <;> decide) H.out.len hw hG H.out.b
  refine (HX.out _ (H.out.rd1 _) (H.out.g.alloc _)).mono ?_
  rintro e w1 ⟨hg1, hp⟩
  have HG1 : Hid (w.grownBy w1 (some b)) := grown_trans (World.grownBy_alloc _ _ _) hg1
  cases x with
  | none =>
    obtain rfl := hp
    go_wp2_with fail
    exact ⟨rfl, HG1.out, rfl⟩
  | some pt =>
    obtain ⟨p, t⟩ := pt
    obtain ⟨rfl, hR1⟩ := hp
    have HR1 := Lib.hid hR1; clear hR1
    have HZ : Hid (ZP w1 w.heap.size) := (ZP.new w).grown hg1 (by simp; omega)
    have k2 := HZ.out.c0; have k3 := HZ.out.c1; have f2 := HZ.out.f0; have f3 := HZ.out.f1
    unfold pcV
    go_wp2_with fail
    refine bodyPost_ret (v := pcV p) (by simp [results, Tryz.results88, go_sem, pcV, k2, k3]) rfl ?_
    exact next_out HG1.out hlt HR1.out

set_option maxHeartbeats 3200000 in
theorem next_day_m (w : World) (b : Nat) (c : UInt8) (r q : List UInt8) (h : NextAt w b c r q) (h0 : c = 109) :
    Calls Tryz.prog 88 #[.pointer (some ⟨b, 0, none⟩)] w (PcPost b (partL c q) w) := by
  have hlt := h.rd.lt
  have hcell := h.rd.cell
  have c0 := h.c0
  have l0 := h.l0
  have x0 := h.x0
  have h1 : c ≠ 34 := by rw [h0]; decide
  have h2 : c ≠ 92 := by rw [h0]; decide
  have h5 : c ≠ 37 := by rw [h0]; decide
  have h6 : c ≠ 121 := by rw [h0]; decide
  have h3 : c ∉ wordSet := by rw [h0]; decide
  have h4 : c ∉ numSet := by rw [h0]; decide
  have t1 : ((c.toNat : Int) == 34) = false := ne_test h1; clear h1
  have t2 : ((c.toNat : Int) == 92) = false := ne_test h2; clear h2
  have HIi := Lib.hid (idx_no h3); clear h3
  have HIj := Lib.hid (idx_no h4); clear h4
  have t5 : ((c.toNat : Int) == 37) = false := ne_test h5; clear h5
  have t6 : ((c.toNat : Int) == 121) = false := ne_test h6; clear h6
  have t9 : ((c.toNat : Int) == 109) = true := by rw [h0]; rfl
  have HC : Hid (c = 121 ∨ c = 109 ∨ c = 100) := by show c = 121 ∨ c = 109 ∨ c = 100; rw [h0]; decide
  clear h0
  obtain ⟨x, hx⟩ : ∃ x, partL c q = x := ⟨_, rfl⟩
  rw [hx]
  have HPX := Lib.hid hx; clear hx
  have H := Lib.hid h; clear h
  go_enter Tryz.func88, Tryz.ntmps88
  go_wp2_with fail
  refine (c_IndexByte wordSet c (-1) HIi.out _).mono ?_
  rintro e w1 ⟨rfl, rfl⟩
  go_wp2_with fail
  refine (c_IndexByte numSet c (-1) HIj.out _).mono ?_
  rintro e w1 ⟨rfl, rfl⟩
  go_wp2_with fail
  have HX : Hid (∀ w, RD w b q → G w → Calls Tryz.prog 116 #[.pointer (some ⟨b, 0, none⟩)] w (PcPost b x w)) := by
    intro w hw hG
    rw [← HPX.out]
    have he := H.out.eq
    subst he
    exact part_any w b c r (by rcases HC.out with h | h | h <;> rw [h] <;> decide) H.out.len hw hG H.out.b
  refine (HX.out _ (H.out.rd1 _) (H.out.g.alloc _)).mono ?_
  rintro e w1 ⟨hg1, hp⟩
  have HG1 : Hid (w.grownBy w1 (some b)) := grown_trans (World.grownBy_alloc _ _ _) hg1
  cases x with
  | none =>
    obtain rfl := hp
    go_wp2_with fail
    exact ⟨rfl, HG1.out, rfl⟩
  | some pt =>
    obtain ⟨p, t⟩ := pt
    obtain ⟨rfl, hR1⟩ := hp
    have HR1 := Lib.hid hR1; clear hR1
    have HZ : Hid (ZP w1 w.heap.size) := (ZP.new w).grown hg1 (by simp; omega)
    have k2 := HZ.out.c0; have k3 := HZ.out.c1; have f2 := HZ.out.f0; have f3 := HZ.out.f1
    unfold pcV
    go_wp2_with fail
    refine bodyPost_ret (v := pcV p) (by simp [results, Tryz.results88, go_sem, pcV, k2, k3]) rfl ?_
    exact next_out HG1.out hlt HR1.out

set_option maxHeartbeats 3200000 in
theorem next_day_d (w : World) (b : Nat) (c : UInt8) (r q : List UInt8) (h : NextAt w b c r q) (h0 : c = 100) :
    Calls Tryz.prog 88 #[.pointer (some ⟨b, 0, none⟩)] w (PcPost b (partL c q) w) := by
  have hlt := h.rd.lt
  have hcell := h.rd.cell
  have c0 := h.c0
  have l0 := h.l0
  have x0 := h.x0
  have h1 : c ≠ 34 := by rw [h0]; decide
  have h2 : c ≠ 92 := by rw [h0]; decide
  have h5 : c ≠ 37 := by rw [h0]; decide
  have h6 : c ≠ 121 := by rw [h0]; decide
  have h7 : c ≠ 109 := by rw [h0]; decide
  have h3 : c ∉ wordSet := by rw [h0]; decide
  have h4 : c ∉ numSet := by rw [h0]; decide
  have t1 : ((c.toNat : Int) == 34) = false := ne_test h1; clear h1
  have t2 : ((c.toNat : Int) == 92) = false := ne_test h2; clear h2
  have HIi := Lib.hid (idx_no h3); clear h3
  have HIj := Lib.hid (idx_no h4); clear h4
  have t5 : ((c.toNat : Int) == 37) = false := ne_test h5; clear h5
  have t6 : ((c.toNat : Int) == 121) = false := ne_test h6; clear h6
  have t7 : ((c.toNat : Int) == 109) = false := ne_test h7; clear h7
  have t9 : ((c.toNat : Int) == 100) = true := by rw [h0]; rfl
  have HC : Hid (c = 121 ∨ c = 109 ∨ c = 100) := by show c = 121 ∨ c = 109 ∨ c = 100; rw [h0]; decide
  clear h0
  obtain ⟨x, hx⟩ : ∃ x, partL c q = x := ⟨_, rfl⟩
  rw [hx]
  have HPX := Lib.hid hx; clear hx
  have H := Lib.hid h; clear h
  go_enter Tryz.func88, Tryz.ntmps88
  go_wp2_with fail
  refine (c_IndexByte wordSet c (-1) HIi.out _).mono ?_
  rintro e w1 ⟨rfl, rfl⟩
  go_wp2_with fail
  refine (c_IndexByte numSet c (-1) HIj.out _).mono ?_
  rintro e w1 ⟨rfl, rfl⟩
  go_wp2_with fail
  have HX : Hid (∀ w, RD w b q → G w → Calls Tryz.prog 116 #[.pointer (some ⟨b, 0, none⟩)] w (PcPost b x w)) := by
    intro w hw hG
    rw [← HPX.out]
    have he := H.out.eq
    subst he
    exact part_any w b c r (by rcases HC.out with h | h | h <;> rw [h] <;> decide) H.out.len hw hG H.out.b
  refine (HX.out _ (H.out.rd1 _) (H.out.g.alloc _)).mono ?_
  rintro e w1 ⟨hg1, hp⟩
  have HG1 : Hid (w.grownBy w1 (some b)) := grown_trans (World.grownBy_alloc _ _ _) hg1
  cases x with
  | none =>
    obtain rfl := hp
    go_wp2_with fail
    exact ⟨rfl, HG1.out, rfl⟩
  | some pt =>
    obtain ⟨p, t⟩ := pt
    obtain ⟨rfl, hR1⟩ := hp
    have HR1 := Lib.hid hR1; clear hR1
    have HZ : Hid (ZP w1 w.heap.size) := (ZP.new w).grown hg1 (by simp; omega)
    have k2 := HZ.out.c0; have k3 := HZ.out.c1; have f2 := HZ.out.f0; have f3 := HZ.out.f1
    unfold pcV
    go_wp2_with fail
    refine bodyPost_ret (v := pcV p) (by simp [results, Tryz.results88, go_sem, pcV, k2, k3]) rfl ?_
    exact next_out HG1.out hlt HR1.out

set_option maxHeartbeats 3200000 in
theorem next_num (w : World) (b : Nat) (c : UInt8) (r q : List UInt8) (h : NextAt w b c r q) (h0 : c ∈ numSet) :
    Calls Tryz.prog 88 #[.pointer (some ⟨b, 0, none⟩)] w (PcPost b (numL q) w) := by
  have hlt := h.rd.lt
  have hcell := h.rd.cell
  have c0 := h.c0
  have l0 := h.l0
  have x0 := h.x0
  have h1 : c ≠ 34 := by rintro rfl; exact absurd h0 (by decide)
  have h2 : c ≠ 92 := by rintro rfl; exact absurd h0 (by decide)
  have h3 : c ∉ wordSet := by
    intro hw
    simp [numSet] at h0
    rcases h0 with rfl | rfl | rfl | rfl <;> exact absurd hw (by decide)
  have t1 : ((c.toNat : Int) == 34) = false := ne_test h1; clear h1
  have t2 : ((c.toNat : Int) == 92) = false := ne_test h2; clear h2
  have HIi := Lib.hid (idx_no h3); clear h3
  have yj : 0 ≤ Lib.indexByte numSet c := idx_yes h0; clear h0
  obtain ⟨j, hij⟩ : ∃ i, Lib.indexByte numSet c = i := ⟨_, rfl⟩
  rw [hij] at yj
  have HIj := Lib.hid hij; clear hij
  obtain ⟨s, hs⟩ : ∃ s, rowL numSet q = s := ⟨_, rfl⟩
  have hsl : s.length ≤ q.length ∧ s.length ≤ 60 := by have := row_len numSet q; have := h.len; have := congrArg List.length hs; omega
  obtain ⟨x, hx⟩ : ∃ x, numL q = x := ⟨_, rfl⟩
  rw [hx]
  have HPX := Lib.hid hx; clear hx
  have HS := Lib.hid hs; clear hs
  have H := Lib.hid h; clear h
  go_enter Tryz.func88, Tryz.ntmps88
  go_wp2_with fail
  refine (c_IndexByte wordSet c (-1) HIi.out _).mono ?_
  rintro e w1 ⟨rfl, rfl⟩
  go_wp2_with fail
  refine (c_IndexByte numSet c j HIj.out _).mono ?_
  rintro e w1 ⟨rfl, rfl⟩
  go_wp2_with fail
  refine (row_any _ b q numSet (H.out.rd1 _) (by decide) (by have := H.out.len; omega)).mono ?_
  rintro e w1 ⟨rfl, hB1⟩
  rw [HS.out]
  have hB1' : Below w.heap.size w w1 := ((Below.refl _ _).alloc (Nat.le_refl _) _).trans (hB1.mono (by simp))
  have HR1 : Hid (RD w1 b q) := H.out.rd.below hB1'
  have HZ1 : Hid (ZP w1 w.heap.size) := (hB1.block _ (by simp)).trans (ZP.new w)
  go_wp2_with fail
  refine (cut_any _ b s.length q (by omega) HR1.out).mono ?_
  rintro e w2 ⟨rfl, hR2, hg2⟩
  have e1 : q.take s.length = s := by rw [← HS.out]; exact take_row _ _
  have e2 : q.drop s.length = cutL numSet q := by rw [← HS.out]; exact drop_row _ _
  rw [e2] at hR2
  rw [e1]
  clear e1 e2
  have HR2 := Lib.hid hR2; clear hR2
  have HZ2 : Hid (ZP w2 w.heap.size) := HZ1.out.grown hg2 (by simp; omega)
  have hs2 := hg2.size
  have hs1 := hB1'.size
  have hG2 : G w2 := H.out.g.of_blocks (by omega) (fun k hk => by
    have := H.out.g.size
    have := H.out.b
    rw [hg2.block k (by omega) (by simp; omega), hB1'.block k (by omega)])
  go_wp2_with fail
  obtain ⟨ok, hok⟩ : ∃ ok, placeL s = ok := ⟨_, rfl⟩
  refine (place_any ⟨s.toArray⟩ _ (by show s.length ≤ _; omega) hG2).mono ?_
  rintro e wx ⟨rfl, hB3⟩
  rw [L_mk, hok]
  have HOK := Lib.hid hok; clear hok
  have HZ : Hid (ZP wx w.heap.size) := HZ2.out.grown (r := none) (grown_below hB3 _) (by simp)
  have HRx : Hid (RD wx b (cutL numSet q)) := HR2.out.below hB3
  have HG : Hid (w.grownBy wx (some b)) := grown_trans (grown_trans (grown_below hB1' _) hg2) (grown_below hB3 _)
  have k2 := HZ.out.c0; have k3 := HZ.out.c1; have f2 := HZ.out.f0; have f3 := HZ.out.f1
  cases ok with
  | false =>
    go_wp2_with fail
    refine (must_false _).mono ?_
    rintro e w4 ⟨rfl, rfl⟩
    go_wp2_with fail
    have hx : x = none := by rw [← HPX.out]; unfold numL; rw [HS.out, if_neg (by rw [HOK.out]; simp)]
    rw [hx]
    exact ⟨rfl, HG.out, rfl⟩
  | true =>
    have hx : x = some (⟨1, s⟩, cutL numSet q) := by rw [← HPX.out]; unfold numL; rw [HS.out, if_pos HOK.out]
    have HX := Lib.hid hx; clear hx
    go_wp2_with fail
    refine (must_true _).mono ?_
    rintro e w4 ⟨rfl, rfl⟩
    go_wp2_with fail
    refine bodyPost_ret (v := pcV ⟨1, s⟩) (by simp [results, Tryz.results88, go_sem, pcV, k2, k3]) rfl ?_
    rw [HX.out]
    exact next_out (p := ⟨1, s⟩) HG.out hlt HRx.out

set_option maxHeartbeats 3200000 in
theorem next_back (w : World) (b : Nat) (r q : List UInt8) (h : NextAt w b 92 r q) :
    Calls Tryz.prog 88 #[.pointer (some ⟨b, 0, none⟩)] w (PcPost b (backL r) w) := by
  have hlt := h.rd.lt
  have hcell := h.rd.cell
  have c0 := h.c0
  have l0 := h.l0
  have x0 := h.x0
  have hql := congrArg List.length h.eq
  simp at hql
  have H := Lib.hid h; clear h
  cases r with
  | nil =>
    simp at hql
    have hd : decide ((1 : Int) < (q.length : Int)) = false := by simp; omega
    clear hql
    go_enter Tryz.func88, Tryz.ntmps88
    go_wp2_with fail
    refine (must_false _).mono ?_
    rintro e w2 ⟨rfl, rfl⟩
    go_wp2_with fail
    exact ⟨rfl, World.grownBy_alloc _ _ _, rfl⟩
  | cons x t =>
    simp at hql
    have hge : 2 ≤ q.length := by omega
    clear hql
    have hd : decide ((1 : Int) < (q.length : Int)) = true := by simp; omega
    go_enter Tryz.func88, Tryz.ntmps88
    go_wp2_with fail
    refine (must_true _).mono ?_
    rintro e w2 ⟨rfl, rfl⟩
    go_wp2_with fail
    refine (cut_any _ b 2 q (by omega) (H.out.rd1 _)).mono ?_
    rintro e wx ⟨rfl, hR2, hg2⟩
    have e1 : q.take 2 = [92, x] := by rw [H.out.eq]; rfl
    have e2 : q.drop 2 = t := by rw [H.out.eq]; rfl
    rw [e2] at hR2
    rw [e1]
    have HR2 := Lib.hid hR2; clear hR2 e1 e2
    have HG : Hid (w.grownBy wx (some b)) := grown_trans (World.grownBy_alloc _ _ _) hg2
    have HZ : Hid (ZP wx w.heap.size) := (ZP.new w).grown hg2 (by simp; omega)
    have k2 := HZ.out.c0; have k3 := HZ.out.c1; have f2 := HZ.out.f0; have f3 := HZ.out.f1
    have hxx : (⟨#[92, x]⟩ : ByteArray).extract 1 2 = ⟨#[x]⟩ := by apply L_inj; rw [L_extract]; rfl
    go_wp2_with fail
    refine bodyPost_ret (v := pcV ⟨0, [x]⟩) (by simp [results, Tryz.results88, go_sem, pcV, k2, k3]) rfl ?_
    exact next_out (p := ⟨0, [x]⟩) HG.out hlt HR2.out

/-- The reader's method next, whatever stands at the front. -/
theorem next_any (w : World) (b : Nat) (c : UInt8) (r q : List UInt8) (h : NextAt w b c r q) :
    Calls Tryz.prog 88 #[.pointer (some ⟨b, 0, none⟩)] w (PcPost b (nextL q) w) := by
  have he := h.eq
  rw [he]
  rw [nextL_cons]
  by_cases h1 : c = 34
  · subst h1; subst he
    exact next_quote w b r h.len h.rd
  rw [if_neg h1]
  by_cases h2 : c = 92
  · subst h2; rw [if_pos rfl]; exact next_back w b r q h
  rw [if_neg h2]
  by_cases h3 : c ∈ wordSet
  · rw [if_pos h3]; exact next_word w b c r q h h1 h2 h3
  rw [if_neg h3]
  by_cases h4 : c ∈ numSet
  · rw [if_pos h4, ← he]; exact next_num w b c r q h h4
  rw [if_neg h4]
  by_cases h5 : c = 37
  · rw [if_pos h5]; exact next_pct w b c r q h h5
  rw [if_neg h5]
  by_cases h6 : c = 121
  · rw [if_pos (.inl h6), ← he]; exact next_day_y w b c r q h h6
  by_cases h7 : c = 109
  · rw [if_pos (.inr (.inl h7)), ← he]; exact next_day_m w b c r q h h7
  by_cases h8 : c = 100
  · rw [if_pos (.inr (.inr h8)), ← he]; exact next_day_d w b c r q h h8
  rw [if_neg (by simp [h6, h7, h8])]
  by_cases h9 : c = 64
  · rw [if_pos h9]; exact next_at w b c r q h h9
  rw [if_neg h9]
  exact next_bad w b c r q h h1 h2 h3 h4 h5 h6 h7 h8 h9
end Go.Proofs.YtpknbdgmpfhcnaaGreatDoor
