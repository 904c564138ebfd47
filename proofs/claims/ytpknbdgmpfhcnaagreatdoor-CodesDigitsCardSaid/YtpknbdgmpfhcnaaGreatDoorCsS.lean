/- The walk of codes' numbered. -/
import Derived.Test.YtpknbdgmpfhcnaaGreatDoorCsR
namespace Go.Proofs.YtpknbdgmpfhcnaaGreatDoor
set_option linter.unusedVariables false
set_option linter.unusedSimpArgs false
open Go.RowKit

/-- The section that writes a number, and what stands ahead. -/
def pickL : List Sec → Int → Option (Sec × List UInt8)
  | [], _ => none
  | [s0], n => if n < 0 ∧ s0.kind ≠ 2 then some (s0, [45]) else some (s0, [])
  | [s0, s1], n => if n < 0 then some (s1, []) else some (s0, [])
  | s0 :: s1 :: s2 :: r, n => if n = 0 ∧ r = [] then some (s2, []) else if n < 0 then some (s1, []) else some (s0, [])
/-- Is a section one that these walks can write a number by? -/
structure SecOk (s : Sec) (n : Int) : Prop where
  len : s.ps.length ≤ 60
  plen : ∀ p ∈ s.ps, p.s.length ≤ 60
  day : s.kind = 2 → n = 45000000000
  parts : ∀ p ∈ s.ps, p.kind = 2 → s.kind = 2 ∧ 0 < p.s.length ∧ p.s.length ≤ 4
  hundreds : s.hundreds = 0 ∨ (s.hundreds = 1 ∧ n.natAbs ≤ 100000000000)
def sizeBy (s : Sec) (n : Int) : Nat := if s.hundreds = 1 then n.natAbs * 100 else n.natAbs
def numberedL (l : List Sec) (n : Int) : Option (List UInt8) := (pickL l n).bind fun x => (writeL (sizeBy x.1 n) [] x.1.ps).map (x.2 ++ ·)
def NumPost (q : Option (List UInt8)) (w : World) (e : Ending) (w' : World) : Prop := Below w.heap.size w w' ∧ match q with
  | some t => e = .returned (.tuple #[.string ⟨t.toArray⟩, .int .i64 0])
  | none => e = .returned (.tuple #[.string ⟨#[]⟩, .int .i64 5])
theorem write_sec (s : Sec) (u : Value) (base : Nat) (n : Int) (day : Int) (b : Nat) (w : World) (hn : n.natAbs ≤ 1000000000000000000) (hs : SecOk s n) (hd : s.kind = 2 → day = 45000) (hv : w.ownsRow base 98 2 u s.ps.length (flatPs s.ps))
    (hw : w.heap[b]? = some (.cells (WV n.natAbs day 0 []) 61 (0, 0))) (hgb : gN ≤ b) (hG : G w) :
    Calls Tryz.prog 27 #[.agg #[.int .i64 s.kind, u, .int .i64 s.hundreds], .pointer (some ⟨b, 0, none⟩)] w (WPost (sizeBy s n) day [] b (writeL (sizeBy s n) [] s.ps) w) := by
  have hh : ∃ h : Nat, s.hundreds = (h : Int) ∧ ((h = 0 ∧ sizeBy s n = n.natAbs) ∨ (h = 1 ∧ n.natAbs ≤ 100000000000 ∧ sizeBy s n = n.natAbs * 100)) := by
    rcases hs.hundreds with h | ⟨h, h2⟩
    · exact ⟨0, h, .inl ⟨rfl, by unfold sizeBy; rw [if_neg (by omega)]⟩⟩
    · exact ⟨1, h, .inr ⟨rfl, h2, by unfold sizeBy; rw [if_pos h]⟩⟩
  obtain ⟨h, h1, h2⟩ := hh
  rw [h1]
  exact write_any s.ps u base h s.kind n.natAbs (sizeBy s n) day [] b w hn h2 hv hw hgb hG hs.len hs.plen (by simp) (fun p hp hk => by
    have := hs.parts p hp hk
    exact ⟨hd this.1, this.2⟩)
theorem writeL_len (n : Nat) (text : List UInt8) (htl : text.length ≤ 255) : ∀ (ps : List Pc) (t : List UInt8), (∀ p ∈ ps, p.s.length ≤ 60) → (∀ p ∈ ps, p.kind = 2 → p.s.length ≤ 4) → writeL n text ps = some t → t.length ≤ 300 * ps.length
  | [], t, _, _, h => by simp [writeL] at h; subst h; simp
  | p :: r, t, h1, h2, h => by
    simp only [writeL] at h
    split at h
    · rename_i a b ha hb
      cases h
      have := pieceW_len n text a p (h1 p (by simp)) htl (h2 p (by simp)) ha
      have := writeL_len n text htl r b (fun p hp => h1 p (by simp [hp])) (fun p hp => h2 p (by simp [hp])) hb
      simp; omega
    · cases h
set_option maxRecDepth 100000 in
set_option maxHeartbeats 1000000 in
theorem numbered_three (s0 s1 s2 : Sec) (v : Value) (base : Nat) (w : World) (hf : FmtP base v [s0, s1, s2] w) (hb : base ≤ w.heap.size) (hG : G w) (hs : SecOk s2 0) :
    Calls Tryz.prog 26 #[v, .int .i64 0] w (NumPost (writeL (sizeBy s2 0) [] s2.ps) w) := by
  obtain ⟨g, cap, rfl, hcap, hbg, hgs, hc⟩ := hf.cells (by simp)
  obtain ⟨u0, a1, a2, a3, a4⟩ := hc 0 s0 rfl
  obtain ⟨u2, b1, b2, b3, b4⟩ := hc 2 s2 rfl
  obtain ⟨ua, un, uc, rfl⟩ := own_slice a4
  obtain ⟨va, vn, vc, rfl⟩ := own_slice b4
  simp only [Nat.zero_mul, Nat.zero_add, Nat.reduceMul, Nat.reduceAdd] at a1 a2 a3 b1 b2 b3
  have B1 := fun o => (cell_old (o := o) b1); have B2 := fun o => (cell_old (o := o) b2); have B3 := fun o => (cell_old (o := o) b3)
  have HG := Lib.hid hG; have HS := Lib.hid hs; have HU := Lib.hid b4
  have hk2 : (s2.kind == 2) = false := by
    have := hs.day; simp; intro h; have := this h; omega
  have HK2 : Hid (s2.kind = 2 → (0 : Int) = 45000) := by intro h; have := hs.day h; omega
  clear hc hf a4 b4 hG hs
  go_enter Tryz.func26, Tryz.ntmps26
  go_wp2_with fail
  (
    have hw1 : ((w.alloc (.cells #[.int .i64 (s2).kind, (.slice va vn vc), .int .i64 (s2).hundreds] 51)).alloc (.cells (WV ((0 : Int)).natAbs 0 0 []) 61)).heap[w.heap.size + 1]? = some (.cells (WV ((0 : Int)).natAbs 0 0 []) 61 (0, 0)) := get_new (by simp)
    have hU1 := (HU.out.alloc (.cells #[.int .i64 (s2).kind, (.slice va vn vc), .int .i64 (s2).hundreds] 51)).alloc (.cells (WV ((0 : Int)).natAbs 0 0 []) 61)
    have hG1 := (HG.out.alloc (.cells #[.int .i64 (s2).kind, (.slice va vn vc), .int .i64 (s2).hundreds] 51)).alloc (.cells (WV ((0 : Int)).natAbs 0 0 []) 61)
    refine (write_sec s2 (.slice va vn vc) base (0 : Int) 0 (w.heap.size + 1) _ (by omega) HS.out HK2.out hU1 hw1 (by have := HG.out.size; omega) hG1).mono ?_
    rintro e w1 ⟨hgr, hm⟩
    have HB : Hid (Below w.heap.size w w1) := ((below_new w _).alloc (by simp) _).grown hgr (by simp; omega) (by intro k hk; injection hk; omega)
    have HLen := Lib.hid (fun t => writeL_len (sizeBy s2 (0 : Int)) [] (by simp) (s2).ps t HS.out.plen (fun p hp hk => (HS.out.parts p hp hk).2.2))
    have hlen := HS.out.len
    obtain ⟨q, hq⟩ : ∃ q, writeL (sizeBy s2 (0 : Int)) [] (s2).ps = q := ⟨_, rfl⟩
    rw [hq] at hm HLen
    have HQ := Lib.hid hq
    clear hq hgr hw1 hU1 hG1
    cases q with
    | none =>
      simp only at hm
      subst hm
      go_wp2_with fail
      refine bodyPost_ret (v := .tuple #[.string ⟨#[]⟩, .int .i64 5]) (by simp [results, Tryz.results26, go_sem]) rfl ?_
      refine ⟨HB.out, ?_⟩
      (rw [HQ.out] <;> rfl)
    | some t =>
      have htl : t.length ≤ 18000 := by have := HLen.out t rfl; omega
      simp only at hm
      subst hm
      clear HLen
      have hcat : (⟨#[45]⟩ : ByteArray) ++ ⟨t.toArray⟩ = ⟨(45 :: t).toArray⟩ := cat_B [45] t
      have hcat0 : (⟨#[]⟩ : ByteArray) ++ ⟨t.toArray⟩ = ⟨t.toArray⟩ := cat_B [] t
      have h1l : 1 + t.length ≤ 18001 := by omega
      go_wp2_with fail
      refine bodyPost_ret (v := .tuple #[.string ⟨(t : List UInt8).toArray⟩, .int .i64 0]) (by simp [results, Tryz.results26, go_sem]) rfl ?_
      refine ⟨HB.out, ?_⟩
      (rw [HQ.out] <;> rfl))
theorem size_neg (n : Int) (h : n < 0) (hf : fitsB n = true) : wrap64 (-n) = -n ∧ max n (-n) = (n.natAbs : Int) ∧ n.natAbs ≤ 1000000000000000000 := by
  unfold fitsB at hf
  simp at hf
  have : wrap64 (-n) = -n := by unfold wrap64; omega
  omega
theorem size_pos (n : Int) (h : 0 ≤ n) (hf : fitsB n = true) : wrap64 (-n) = -n ∧ max n (-n) = (n.natAbs : Int) ∧ n.natAbs ≤ 1000000000000000000 := by
  unfold fitsB at hf
  simp at hf
  have : wrap64 (-n) = -n := by unfold wrap64; omega
  omega
set_option maxRecDepth 100000 in
set_option maxHeartbeats 1000000 in
theorem numbered_neg2 (s0 s1 : Sec) (r : List Sec) (n : Int) (hr : r.length ≤ 1) (v : Value) (base : Nat) (w : World) (hf : FmtP base v (s0 :: s1 :: r) w) (hb : base ≤ w.heap.size) (hG : G w) (hs : SecOk s1 n) (hn : n < 0) (hfit : fitsB n = true) :
    Calls Tryz.prog 26 #[v, .int .i64 n] w (NumPost (writeL (sizeBy s1 n) [] s1.ps) w) := by
  obtain ⟨hz1, hz2, hz3⟩ := size_neg n hn hfit
  (
    obtain ⟨g, cap, rfl, hcap, hbg, hgs, hc⟩ := hf.cells (by simp)
    obtain ⟨u0, a1, a2, a3, a4⟩ := hc 0 s0 rfl
    obtain ⟨u2, b1, b2, b3, b4⟩ := hc 1 s1 rfl
    obtain ⟨ua, un, uc, rfl⟩ := own_slice a4
    obtain ⟨va, vn, vc, rfl⟩ := own_slice b4
    simp only [Nat.zero_mul, Nat.zero_add, Nat.reduceMul, Nat.reduceAdd] at a1 a2 a3 b1 b2 b3
    have B1 := fun o => (cell_old (o := o) b1); have B2 := fun o => (cell_old (o := o) b2); have B3 := fun o => (cell_old (o := o) b3)
    have HG := Lib.hid hG; have HS := Lib.hid hs; have HU := Lib.hid b4)
  have hk2 : (s1.kind == 2) = false := by
    have := hs.day; simp; intro h; have := this h; omega
  have HK2 : Hid (s1.kind = 2 → (0 : Int) = 45000) := by intro h; have := hs.day h; omega
  have t0 : (n == 0) = false := by simp; omega
  have t1 : decide (n < 0) = true := by simpa using hn
  obtain ⟨k, hk⟩ : ∃ k, r.length + 2 = k := ⟨_, rfl⟩
  have hk3 : (s0 :: s1 :: r).length = k := by simp [← hk]
  rw [hk3] at *
  have t3 : decide ((1 : Int) < (k : Int)) = true := by simp; omega
  have t4 : ((k : Int) == 0) = false := by simp; omega
  have h1k : 1 < k := by omega
  clear hc hf a4 b4 hG hs hfit hk hk3
  go_enter Tryz.func26, Tryz.ntmps26
  go_wp2_with fail
  (
    have hw1 : ((w.alloc (.cells #[.int .i64 (s1).kind, (.slice va vn vc), .int .i64 (s1).hundreds] 51)).alloc (.cells (WV (n).natAbs 0 0 []) 61)).heap[w.heap.size + 1]? = some (.cells (WV (n).natAbs 0 0 []) 61 (0, 0)) := get_new (by simp)
    have hU1 := (HU.out.alloc (.cells #[.int .i64 (s1).kind, (.slice va vn vc), .int .i64 (s1).hundreds] 51)).alloc (.cells (WV (n).natAbs 0 0 []) 61)
    have hG1 := (HG.out.alloc (.cells #[.int .i64 (s1).kind, (.slice va vn vc), .int .i64 (s1).hundreds] 51)).alloc (.cells (WV (n).natAbs 0 0 []) 61)
    refine (write_sec s1 (.slice va vn vc) base n 0 (w.heap.size + 1) _ (by omega) HS.out HK2.out hU1 hw1 (by have := HG.out.size; omega) hG1).mono ?_
    rintro e w1 ⟨hgr, hm⟩
    have HB : Hid (Below w.heap.size w w1) := ((below_new w _).alloc (by simp) _).grown hgr (by simp; omega) (by intro k hk; injection hk; omega)
    have HLen := Lib.hid (fun t => writeL_len (sizeBy s1 n) [] (by simp) (s1).ps t HS.out.plen (fun p hp hk => (HS.out.parts p hp hk).2.2))
    have hlen := HS.out.len
    obtain ⟨q, hq⟩ : ∃ q, writeL (sizeBy s1 n) [] (s1).ps = q := ⟨_, rfl⟩
    rw [hq] at hm HLen
    have HQ := Lib.hid hq
    clear hq hgr hw1 hU1 hG1
    cases q with
    | none =>
      simp only at hm
      subst hm
      go_wp2_with fail
      refine bodyPost_ret (v := .tuple #[.string ⟨#[]⟩, .int .i64 5]) (by simp [results, Tryz.results26, go_sem]) rfl ?_
      refine ⟨HB.out, ?_⟩
      (rw [HQ.out] <;> rfl)
    | some t =>
      have htl : t.length ≤ 18000 := by have := HLen.out t rfl; omega
      simp only at hm
      subst hm
      clear HLen
      have hcat : (⟨#[45]⟩ : ByteArray) ++ ⟨t.toArray⟩ = ⟨(45 :: t).toArray⟩ := cat_B [45] t
      have hcat0 : (⟨#[]⟩ : ByteArray) ++ ⟨t.toArray⟩ = ⟨t.toArray⟩ := cat_B [] t
      have h1l : 1 + t.length ≤ 18001 := by omega
      go_wp2_with fail
      refine bodyPost_ret (v := .tuple #[.string ⟨(t : List UInt8).toArray⟩, .int .i64 0]) (by simp [results, Tryz.results26, go_sem]) rfl ?_
      refine ⟨HB.out, ?_⟩
      (rw [HQ.out] <;> rfl))
set_option maxRecDepth 100000 in
set_option maxHeartbeats 1000000 in
theorem numbered_neg1 (s0 : Sec) (n : Int) (v : Value) (base : Nat) (w : World) (hf : FmtP base v [s0] w) (hb : base ≤ w.heap.size) (hG : G w) (hs : SecOk s0 n) (hn : n < 0) (hfit : fitsB n = true) :
    Calls Tryz.prog 26 #[v, .int .i64 n] w (NumPost ((writeL (sizeBy s0 n) [] s0.ps).map ([45] ++ ·)) w) := by
  obtain ⟨hz1, hz2, hz3⟩ := size_neg n hn hfit
  obtain ⟨g, cap, rfl, hcap, hbg, hgs, hc⟩ := hf.cells (by simp)
  obtain ⟨u0, a1, a2, a3, a4⟩ := hc 0 s0 rfl
  obtain ⟨ua, un, uc, rfl⟩ := own_slice a4
  simp only [Nat.zero_mul, Nat.zero_add, Nat.reduceMul, Nat.reduceAdd] at a1 a2 a3
  have HG := Lib.hid hG; have HS := Lib.hid hs; have HU := Lib.hid a4
  have hk2 : (s0.kind == 2) = false := by
    have := hs.day; simp; intro h; have := this h; omega
  have hk2' : (s0.kind != 2) = true := by
    have := hs.day; simp; intro h; have := this h; omega
  have HK2 : Hid (s0.kind = 2 → (0 : Int) = 45000) := by intro h; have := hs.day h; omega
  have t0 : (n == 0) = false := by simp; omega
  have t1 : decide (n < 0) = true := by simpa using hn
  clear hc hf a4 hG hs hfit
  go_enter Tryz.func26, Tryz.ntmps26
  go_wp2_with fail
  (
    have hw1 : ((w.alloc (.cells #[.int .i64 (s0).kind, (.slice ua un uc), .int .i64 (s0).hundreds] 51)).alloc (.cells (WV (n).natAbs 0 0 []) 61)).heap[w.heap.size + 1]? = some (.cells (WV (n).natAbs 0 0 []) 61 (0, 0)) := get_new (by simp)
    have hU1 := (HU.out.alloc (.cells #[.int .i64 (s0).kind, (.slice ua un uc), .int .i64 (s0).hundreds] 51)).alloc (.cells (WV (n).natAbs 0 0 []) 61)
    have hG1 := (HG.out.alloc (.cells #[.int .i64 (s0).kind, (.slice ua un uc), .int .i64 (s0).hundreds] 51)).alloc (.cells (WV (n).natAbs 0 0 []) 61)
    refine (write_sec s0 (.slice ua un uc) base n 0 (w.heap.size + 1) _ (by omega) HS.out HK2.out hU1 hw1 (by have := HG.out.size; omega) hG1).mono ?_
    rintro e w1 ⟨hgr, hm⟩
    have HB : Hid (Below w.heap.size w w1) := ((below_new w _).alloc (by simp) _).grown hgr (by simp; omega) (by intro k hk; injection hk; omega)
    have HLen := Lib.hid (fun t => writeL_len (sizeBy s0 n) [] (by simp) (s0).ps t HS.out.plen (fun p hp hk => (HS.out.parts p hp hk).2.2))
    have hlen := HS.out.len
    obtain ⟨q, hq⟩ : ∃ q, writeL (sizeBy s0 n) [] (s0).ps = q := ⟨_, rfl⟩
    rw [hq] at hm HLen
    have HQ := Lib.hid hq
    clear hq hgr hw1 hU1 hG1
    cases q with
    | none =>
      simp only at hm
      subst hm
      go_wp2_with fail
      refine bodyPost_ret (v := .tuple #[.string ⟨#[]⟩, .int .i64 5]) (by simp [results, Tryz.results26, go_sem]) rfl ?_
      refine ⟨HB.out, ?_⟩
      (rw [HQ.out] <;> rfl)
    | some t =>
      have htl : t.length ≤ 18000 := by have := HLen.out t rfl; omega
      simp only at hm
      subst hm
      clear HLen
      have hcat : (⟨#[45]⟩ : ByteArray) ++ ⟨t.toArray⟩ = ⟨(45 :: t).toArray⟩ := cat_B [45] t
      have hcat0 : (⟨#[]⟩ : ByteArray) ++ ⟨t.toArray⟩ = ⟨t.toArray⟩ := cat_B [] t
      have h1l : 1 + t.length ≤ 18001 := by omega
      go_wp2_with fail
      refine bodyPost_ret (v := .tuple #[.string ⟨((45 :: t) : List UInt8).toArray⟩, .int .i64 0]) (by simp [results, Tryz.results26, go_sem]) rfl ?_
      refine ⟨HB.out, ?_⟩
      (rw [HQ.out] <;> rfl))
set_option maxRecDepth 100000 in
set_option maxHeartbeats 1000000 in
theorem numbered_pos (s0 : Sec) (r : List Sec) (n : Int) (hr : r.length ≤ 2) (v : Value) (base : Nat) (w : World) (hf : FmtP base v (s0 :: r) w) (hb : base ≤ w.heap.size) (hG : G w) (hs : SecOk s0 n) (hn : 0 ≤ n) (hnz : n = 0 → r.length < 2) (hfit : fitsB n = true) (hkk : s0.kind ≠ 2) :
    Calls Tryz.prog 26 #[v, .int .i64 n] w (NumPost (writeL (sizeBy s0 n) [] s0.ps) w) := by
  obtain ⟨hz1, hz2, hz3⟩ := size_pos n hn hfit
  obtain ⟨g, cap, rfl, hcap, hbg, hgs, hc⟩ := hf.cells (by simp)
  obtain ⟨u0, a1, a2, a3, a4⟩ := hc 0 s0 rfl
  obtain ⟨ua, un, uc, rfl⟩ := own_slice a4
  simp only [Nat.zero_mul, Nat.zero_add, Nat.reduceMul, Nat.reduceAdd] at a1 a2 a3
  have HG := Lib.hid hG; have HS := Lib.hid hs; have HU := Lib.hid a4
  have hk2 : (s0.kind == 2) = false := by simpa using hkk
  have HK2 : Hid (s0.kind = 2 → (0 : Int) = 45000) := by intro h; exact absurd h hkk
  have t1 : decide (n < 0) = false := by simp; omega
  obtain ⟨k, hk⟩ : ∃ k, r.length + 1 = k := ⟨_, rfl⟩
  have hk3 : (s0 :: r).length = k := by simp [← hk]
  rw [hk3] at *
  have t4 : ((k : Int) == 0) = false := by simp; omega
  have h0k : 0 < k := by omega
  by_cases h0 : n = 0
  · have t0 : (n == 0) = true := by simpa using h0
    have t3 : ((k : Int) == 3) = false := by have := hnz h0; simp; omega
    clear hc hf a4 hG hs hfit hk hk3 h0 hkk hnz
    go_enter Tryz.func26, Tryz.ntmps26
    go_wp2_with fail
    (
      have hw1 : ((w.alloc (.cells #[.int .i64 (s0).kind, (.slice ua un uc), .int .i64 (s0).hundreds] 51)).alloc (.cells (WV (n).natAbs 0 0 []) 61)).heap[w.heap.size + 1]? = some (.cells (WV (n).natAbs 0 0 []) 61 (0, 0)) := get_new (by simp)
      have hU1 := (HU.out.alloc (.cells #[.int .i64 (s0).kind, (.slice ua un uc), .int .i64 (s0).hundreds] 51)).alloc (.cells (WV (n).natAbs 0 0 []) 61)
      have hG1 := (HG.out.alloc (.cells #[.int .i64 (s0).kind, (.slice ua un uc), .int .i64 (s0).hundreds] 51)).alloc (.cells (WV (n).natAbs 0 0 []) 61)
      refine (write_sec s0 (.slice ua un uc) base n 0 (w.heap.size + 1) _ (by omega) HS.out HK2.out hU1 hw1 (by have := HG.out.size; omega) hG1).mono ?_
      rintro e w1 ⟨hgr, hm⟩
      have HB : Hid (Below w.heap.size w w1) := ((below_new w _).alloc (by simp) _).grown hgr (by simp; omega) (by intro k hk; injection hk; omega)
      have HLen := Lib.hid (fun t => writeL_len (sizeBy s0 n) [] (by simp) (s0).ps t HS.out.plen (fun p hp hk => (HS.out.parts p hp hk).2.2))
      have hlen := HS.out.len
      obtain ⟨q, hq⟩ : ∃ q, writeL (sizeBy s0 n) [] (s0).ps = q := ⟨_, rfl⟩
      rw [hq] at hm HLen
      have HQ := Lib.hid hq
      clear hq hgr hw1 hU1 hG1
      cases q with
      | none =>
        simp only at hm
        subst hm
        go_wp2_with fail
        refine bodyPost_ret (v := .tuple #[.string ⟨#[]⟩, .int .i64 5]) (by simp [results, Tryz.results26, go_sem]) rfl ?_
        refine ⟨HB.out, ?_⟩
        (rw [HQ.out] <;> rfl)
      | some t =>
        have htl : t.length ≤ 18000 := by have := HLen.out t rfl; omega
        simp only at hm
        subst hm
        clear HLen
        have hcat : (⟨#[45]⟩ : ByteArray) ++ ⟨t.toArray⟩ = ⟨(45 :: t).toArray⟩ := cat_B [45] t
        have hcat0 : (⟨#[]⟩ : ByteArray) ++ ⟨t.toArray⟩ = ⟨t.toArray⟩ := cat_B [] t
        have h1l : 1 + t.length ≤ 18001 := by omega
        go_wp2_with fail
        refine bodyPost_ret (v := .tuple #[.string ⟨(t : List UInt8).toArray⟩, .int .i64 0]) (by simp [results, Tryz.results26, go_sem]) rfl ?_
        refine ⟨HB.out, ?_⟩
        (rw [HQ.out] <;> rfl))
  · have t0 : (n == 0) = false := by simpa using h0
    clear hc hf a4 hG hs hfit hk hk3 h0 hkk hnz
    go_enter Tryz.func26, Tryz.ntmps26
    go_wp2_with fail
    (
      have hw1 : ((w.alloc (.cells #[.int .i64 (s0).kind, (.slice ua un uc), .int .i64 (s0).hundreds] 51)).alloc (.cells (WV (n).natAbs 0 0 []) 61)).heap[w.heap.size + 1]? = some (.cells (WV (n).natAbs 0 0 []) 61 (0, 0)) := get_new (by simp)
      have hU1 := (HU.out.alloc (.cells #[.int .i64 (s0).kind, (.slice ua un uc), .int .i64 (s0).hundreds] 51)).alloc (.cells (WV (n).natAbs 0 0 []) 61)
      have hG1 := (HG.out.alloc (.cells #[.int .i64 (s0).kind, (.slice ua un uc), .int .i64 (s0).hundreds] 51)).alloc (.cells (WV (n).natAbs 0 0 []) 61)
      refine (write_sec s0 (.slice ua un uc) base n 0 (w.heap.size + 1) _ (by omega) HS.out HK2.out hU1 hw1 (by have := HG.out.size; omega) hG1).mono ?_
      rintro e w1 ⟨hgr, hm⟩
      have HB : Hid (Below w.heap.size w w1) := ((below_new w _).alloc (by simp) _).grown hgr (by simp; omega) (by intro k hk; injection hk; omega)
      have HLen := Lib.hid (fun t => writeL_len (sizeBy s0 n) [] (by simp) (s0).ps t HS.out.plen (fun p hp hk => (HS.out.parts p hp hk).2.2))
      have hlen := HS.out.len
      obtain ⟨q, hq⟩ : ∃ q, writeL (sizeBy s0 n) [] (s0).ps = q := ⟨_, rfl⟩
      rw [hq] at hm HLen
      have HQ := Lib.hid hq
      clear hq hgr hw1 hU1 hG1
      cases q with
      | none =>
        simp only at hm
        subst hm
        go_wp2_with fail
        refine bodyPost_ret (v := .tuple #[.string ⟨#[]⟩, .int .i64 5]) (by simp [results, Tryz.results26, go_sem]) rfl ?_
        refine ⟨HB.out, ?_⟩
        (rw [HQ.out] <;> rfl)
      | some t =>
        have htl : t.length ≤ 18000 := by have := HLen.out t rfl; omega
        simp only at hm
        subst hm
        clear HLen
        have hcat : (⟨#[45]⟩ : ByteArray) ++ ⟨t.toArray⟩ = ⟨(45 :: t).toArray⟩ := cat_B [45] t
        have hcat0 : (⟨#[]⟩ : ByteArray) ++ ⟨t.toArray⟩ = ⟨t.toArray⟩ := cat_B [] t
        have h1l : 1 + t.length ≤ 18001 := by omega
        go_wp2_with fail
        refine bodyPost_ret (v := .tuple #[.string ⟨(t : List UInt8).toArray⟩, .int .i64 0]) (by simp [results, Tryz.results26, go_sem]) rfl ?_
        refine ⟨HB.out, ?_⟩
        (rw [HQ.out] <;> rfl))
set_option maxRecDepth 100000 in
set_option maxHeartbeats 1000000 in
theorem numbered_day (s0 : Sec) (v : Value) (base : Nat) (w : World) (hf : FmtP base v [s0] w) (hb : base ≤ w.heap.size) (hG : G w) (hs : SecOk s0 45000000000) (hkk : s0.kind = 2) :
    Calls Tryz.prog 26 #[v, .int .i64 45000000000] w (NumPost (writeL (sizeBy s0 45000000000) [] s0.ps) w) := by
  obtain ⟨g, cap, rfl, hcap, hbg, hgs, hc⟩ := hf.cells (by simp)
  obtain ⟨u0, a1, a2, a3, a4⟩ := hc 0 s0 rfl
  obtain ⟨ua, un, uc, rfl⟩ := own_slice a4
  simp only [Nat.zero_mul, Nat.zero_add, Nat.reduceMul, Nat.reduceAdd] at a1 a2 a3
  have HG := Lib.hid hG; have HS := Lib.hid hs; have HU := Lib.hid a4
  have hk2 : (s0.kind == 2) = true := by simpa using hkk
  clear hc hf a4 hG hs hkk
  go_enter Tryz.func26, Tryz.ntmps26
  go_wp2_with fail
  refine (floor_day _).mono ?_
  rintro e w1 ⟨rfl, rfl⟩
  go_wp2_with fail
  refine (parts_day _).mono ?_
  rintro e w1 ⟨rfl, hB1⟩
  have hx0 : w1.heap[w.heap.size]? = some (.cells #[.int .i64 s0.kind, .slice ua un uc, .int .i64 s0.hundreds] 51 (0, 0)) :=
    (hB1.block _ (by simp; omega)).trans ((get_old (by simp)).trans (heap_alloc_new _ _))
  have hw1 : w1.heap[w.heap.size + 1]? = some (.cells (WV (Int.natAbs 45000000000) 45000 0 []) 61 (0, 0)) :=
    (hB1.block _ (by simp)).trans (get_new (by simp))
  have x0 : w1.cell? ⟨w.heap.size, 0, none⟩ = some (.int .i64 s0.kind) := by simp [World.cell?, hx0]
  have x1 : w1.cell? ⟨w.heap.size, 1, none⟩ = some (.slice ua un uc) := by simp [World.cell?, hx0]
  have x2 : w1.cell? ⟨w.heap.size, 2, none⟩ = some (.int .i64 s0.hundreds) := by simp [World.cell?, hx0]
  have hB : Below w.heap.size w w1 := ((below_new w _).alloc (by simp) _).trans (hB1.mono (by simp; omega))
  have hU1 : w1.ownsRow base 98 2 (.slice ua un uc) s0.ps.length (flatPs s0.ps) := HU.out.kept (grown_below hB none) (by cases Value.ownBlock (.slice ua un uc) <;> simp)
  have hG1 : G w1 := HG.out.below' hB
  have HW := Lib.hid (write_sec s0 (.slice ua un uc) base 45000000000 45000 (w.heap.size + 1) w1 (by decide) HS.out (fun _ => rfl) hU1 hw1 (by have := HG.out.size; omega) hG1)
  have HBo := Lib.hid hB
  clear hx0 hw1 hU1 hG1 hB1 hB
  go_wp2_with fail
  refine HW.out.mono ?_
  rintro e w2 ⟨hgr, hm⟩
  have HB : Hid (Below w.heap.size w w2) := HBo.out.grown hgr HBo.out.size (by intro k hk; injection hk; omega)
  have HLen := Lib.hid (fun t => writeL_len (sizeBy s0 45000000000) [] (by simp) s0.ps t HS.out.plen (fun p hp hk => (HS.out.parts p hp hk).2.2))
  have hlen := HS.out.len
  obtain ⟨q, hq⟩ : ∃ q, writeL (sizeBy s0 45000000000) [] s0.ps = q := ⟨_, rfl⟩
  rw [hq] at hm HLen
  have HQ := Lib.hid hq
  clear hq hgr HW x0 x1 x2
  cases q with
  | none =>
    simp only at hm
    subst hm
    go_wp2_with fail
    refine bodyPost_ret (v := .tuple #[.string ⟨#[]⟩, .int .i64 5]) (by simp [results, Tryz.results26, go_sem]) rfl ?_
    refine ⟨HB.out, ?_⟩
    (rw [HQ.out] <;> rfl)
  | some t =>
    have htl : t.length ≤ 18000 := by have := HLen.out t rfl; omega
    simp only at hm
    subst hm
    clear HLen
    have hcat0 : (⟨#[]⟩ : ByteArray) ++ ⟨t.toArray⟩ = ⟨t.toArray⟩ := cat_B [] t
    go_wp2_with fail
    refine bodyPost_ret (v := .tuple #[.string ⟨t.toArray⟩, .int .i64 0]) (by simp [results, Tryz.results26, go_sem]) rfl ?_
    refine ⟨HB.out, ?_⟩
    (rw [HQ.out] <;> rfl)
end Go.Proofs.YtpknbdgmpfhcnaaGreatDoor
