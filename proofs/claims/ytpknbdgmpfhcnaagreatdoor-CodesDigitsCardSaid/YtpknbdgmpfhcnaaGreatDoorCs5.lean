/- The walks of the reader's methods quoted, part, next. -/
import Derived.Test.YtpknbdgmpfhcnaaGreatDoorCs4
namespace Go.Proofs.YtpknbdgmpfhcnaaGreatDoor
set_option linter.unusedVariables false
set_option linter.unusedSimpArgs false
open Go.RowKit

/-- A piece as a value. -/
def pcV (p : Pc) : Value := .agg #[.int .i64 p.kind, .string ⟨p.s.toArray⟩]
/-- Words in quotes, behind the first quote: the words, and what is left. -/
def quoteL (r : List UInt8) : Option (List UInt8 × List UInt8) :=
  match r.dropWhile (· != 34) with
  | [] => none
  | _ :: t => some (r.takeWhile (· != 34), t)
theorem quoteL_none (r : List UInt8) (h : (34 : UInt8) ∉ r) : quoteL r = none := by
  unfold quoteL
  have : r.dropWhile (· != 34) = [] := by
    induction r with
    | nil => rfl
    | cons x r ih =>
      simp only [List.mem_cons, not_or] at h
      rw [List.dropWhile_cons, if_pos (by simp; exact fun e => h.1 e.symm), ih h.2]
  rw [this]
theorem quoteL_some (a t : List UInt8) (h : (34 : UInt8) ∉ a) : quoteL (a ++ 34 :: t) = some (a, t) := by
  have ha : ∀ x ∈ a, (x != 34) = true := by
    intro x hx
    simp only [bne_iff_ne, ne_eq]
    rintro rfl; exact h hx
  unfold quoteL
  rw [List.dropWhile_append_of_pos ha, List.takeWhile_append_of_pos ha]
  simp
theorem indexByte_none (r : List UInt8) (c : UInt8) (h : c ∉ r) : Lib.indexByte r c = -1 := by
  induction r with
  | nil => rfl
  | cons x r ih =>
    simp only [List.mem_cons, not_or] at h
    unfold Lib.indexByte
    rw [if_neg (by simp; exact fun e => h.1 e.symm), ih h.2]; rfl
theorem indexByte_some (a t : List UInt8) (c : UInt8) (h : c ∉ a) : Lib.indexByte (a ++ c :: t) c = a.length := by
  induction a with
  | nil => simp [Lib.indexByte]
  | cons x a ih =>
    simp only [List.mem_cons, not_or] at h
    rw [List.cons_append]
    unfold Lib.indexByte
    rw [if_neg (by simp; exact fun e => h.1 e.symm), ih h.2]
    rw [if_neg (by simp)]
    simp
theorem mem_split (r : List UInt8) (c : UInt8) (h : c ∈ r) : ∃ a t, r = a ++ c :: t ∧ c ∉ a := by
  have h1 : Lib.index r [c] ≠ -1 := fun e => (index1_none r c).1 e h
  have := Lib.index_ge r [c]
  obtain ⟨a, b, e, ha, _⟩ := index1_some r c (Lib.index r [c]).toNat (by omega)
  exact ⟨a, b, e, ha⟩
theorem c_IndexByte (l : List UInt8) (c : UInt8) (i : Int) (h : Lib.indexByte l c = i) (w : World) :
    Calls Tryz.prog 113 #[.string ⟨l.toArray⟩, .int .u8 c.toNat] w fun e w' => e = .returned (.int .i64 i) ∧ w' = w := by
  subst h
  have := Tryz.strings_IndexByte ⟨l.toArray⟩ c.toNat w
  simpa using this

theorem grown_trans {a b c : World} {r : Option Nat} (h : a.grownBy b r) (k : b.grownBy c r) : a.grownBy c r :=
  ⟨k.os.trans h.os, k.tape.trans h.tape, k.output.trans h.output, Nat.le_trans h.size k.size, fun i hi hr => (k.block i (Nat.lt_of_lt_of_le hi h.size) hr).trans (h.block i hi hr)⟩
theorem grown_alloc {a b : World} {r : Option Nat} (h : a.grownBy b r) (o : Obj) : a.grownBy (b.alloc o) r := grown_trans h (World.grownBy_alloc b o r)
theorem grown_drew {a b : World} {r : Option Nat} (h : a.grownBy b r) : a.grownBy b.drew r := ⟨h.os, h.tape, h.output, h.size, h.block⟩
theorem grown_drewN {a b : World} {r : Option Nat} (h : a.grownBy b r) (n : Nat) : a.grownBy (b.drewN n) r := ⟨h.os, h.tape, h.output, h.size, h.block⟩
/-- A store into a block that a did not have. -/
theorem grown_setNew {a b : World} {r : Option Nat} (h : a.grownBy b r) {p : Addr} (hp : a.heap.size ≤ p.block) (v : Value) : a.grownBy (b.setCell p v) r :=
  ⟨h.os, h.tape, h.output, by simpa [World.setCell] using h.size, fun k hk hr => by rw [Below.heap_setCell _ _ _ _ (by omega)]; exact h.block k hk hr⟩

theorem RD.far {w : World} {b : Nat} {l : List UInt8} (h : RD w b l) {p : Addr} (hp : b ≠ p.block) (v : Value) : RD (w.setCell p v) b l := by
  unfold RD; rw [Below.heap_setCell _ _ _ _ hp]; exact h

/-- A method of the reader at b comes to a piece, with a rest, or breaks off. -/
def PcPost (b : Nat) (x : Option (Pc × List UInt8)) (w : World) (e : Ending) (w' : World) : Prop :=
  w.grownBy w' (some b) ∧ match x with
    | some (p, t) => e = .returned (pcV p) ∧ RD w' b t
    | none => Broke e

set_option maxHeartbeats 800000 in
theorem quoted_none (w : World) (b : Nat) (r : List UInt8) (hn : (34 : UInt8) ∉ r) (hr : RD w b (34 :: r)) :
    Calls Tryz.prog 112 #[.pointer (some ⟨b, 0, none⟩)] w (PcPost b ((quoteL r).map fun q => (⟨0, q.1⟩, q.2)) w) := by
  rw [quoteL_none _ hn]
  have HR := Lib.hid hr; clear hr
  have HI := Lib.hid (indexByte_none r 34 hn); clear hn
  have hz := HR.out.lt
  go_enter Tryz.func112, Tryz.ntmps112
  go_wp2_with fail
  refine (cut_any _ b 1 _ (by simp) (HR.out.below ((Below.refl _ _).alloc (Nat.le_refl _) _))).mono ?_
  rintro e w1 ⟨rfl, hR1, hg1⟩
  have hc1 := hR1.cell
  have HR1 := Lib.hid hR1; clear hR1
  go_wp2_with fail
  refine (c_IndexByte r 34 _ HI.out _).mono ?_
  rintro e w2 ⟨rfl, rfl⟩
  go_wp2_with fail
  refine (must_false _).mono ?_
  rintro e w2 ⟨rfl, rfl⟩
  go_wp2_with fail
  exact ⟨rfl, grown_trans (World.grownBy_alloc _ _ _) hg1, rfl⟩

set_option maxHeartbeats 1600000 in
theorem quoted_some (w : World) (b : Nat) (a t : List UInt8) (hn : (34 : UInt8) ∉ a) (hr : RD w b (34 :: (a ++ 34 :: t))) :
    Calls Tryz.prog 112 #[.pointer (some ⟨b, 0, none⟩)] w (PcPost b (some (⟨0, a⟩, t)) w) := by
  have HR := Lib.hid hr; clear hr
  have HI := Lib.hid (indexByte_some a t 34 hn); clear hn
  have hz := HR.out.lt
  go_enter Tryz.func112, Tryz.ntmps112
  go_wp2_with fail
  refine (cut_any _ b 1 _ (by simp) (HR.out.below ((Below.refl _ _).alloc (Nat.le_refl _) _))).mono ?_
  rintro e w1 ⟨rfl, hR1, hg1⟩
  simp only [List.drop_succ_cons, List.drop_zero] at hR1
  have hc1 := hR1.cell
  have HR1 := Lib.hid hR1; clear hR1
  have hp1 : Hid (w1.heap[w.heap.size]? = some (.cells #[.int .i64 0, .string ⟨#[]⟩] 98 (0, 0))) := by
    show _ = _
    rw [hg1.block _ (by simp) (by simp; omega)]; exact heap_alloc_new _ _
  obtain ⟨q, hq⟩ : ∃ q, a ++ 34 :: t = q := ⟨_, rfl⟩
  rw [hq] at hc1 
  have HQ := Lib.hid hq; clear hq
  have HI' : Hid (Lib.indexByte q 34 = a.length) := by show _ = _; rw [← HQ.out]; exact HI.out
  go_wp2_with fail
  refine (c_IndexByte q 34 _ HI'.out _).mono ?_
  rintro e w2 ⟨rfl, rfl⟩
  go_wp2_with fail
  refine (must_true _).mono ?_
  rintro e w2 ⟨rfl, rfl⟩
  go_wp2_with fail
  refine (cut_any _ b a.length q (by rw [← HQ.out]; simp) (by rw [← HQ.out]; exact HR1.out)).mono ?_
  rintro e w3 ⟨rfl, hR3, hg3⟩
  have e3 : q.drop a.length = 34 :: t := by rw [← HQ.out]; simp
  have e4 : q.take a.length = a := by rw [← HQ.out]; simp
  rw [e3] at hR3
  rw [e4]
  clear e3 e4 hc1
  have HR3 := Lib.hid hR3; clear hR3
  go_wp2_with fail
  have hs1 := hg1.size
  have hs3 := hg3.size
  simp at hs1
  refine (cut_any _ b 1 (34 :: t) (by simp) (HR3.out.below ((Below.refl _ _).alloc (Nat.le_refl _) _))).mono ?_
  rintro e w5 ⟨rfl, hR5, hg5⟩
  simp only [List.drop_succ_cons, List.drop_zero] at hR5
  have hs5 := hg5.size
  simp at hs5
  have hq5 : w5.heap[w3.heap.size]? = some (.cells #[.int .i64 0, .string ⟨a.toArray⟩] 98 (0, 0)) := by
    rw [hg5.block _ (by simp) (by simp; omega)]; exact heap_alloc_new _ _
  have hp5 : w5.heap[w.heap.size]? = some (.cells #[.int .i64 0, .string ⟨#[]⟩] 98 (0, 0)) := by
    rw [hg5.block _ (by simp; omega) (by simp; omega), Below.heap_alloc _ _ _ (by omega), hg3.block _ (by omega) (by simp; omega)]; exact hp1.out
  have k0 : w5.cell? ⟨w3.heap.size, 0, none⟩ = some (.int .i64 0) := by simp [World.cell?, hq5]
  have k1 : w5.cell? ⟨w3.heap.size, 1, none⟩ = some (.string ⟨a.toArray⟩) := by simp [World.cell?, hq5]
  have k2 : w5.cell? ⟨w.heap.size, 0, none⟩ = some (.int .i64 0) := by simp [World.cell?, hp5]
  have k3 : w5.cell? ⟨w.heap.size, 1, none⟩ = some (.string ⟨#[]⟩) := by simp [World.cell?, hp5]
  have f2 : w5.frozen? ⟨w.heap.size, 0, none⟩ = false := by simp [World.frozen?, hp5]
  have f3 : w5.frozen? ⟨w.heap.size, 1, none⟩ = false := by simp [World.frozen?, hp5]
  have HP5 := Lib.hid hp5; clear hp5 hq5
  have HR5 := Lib.hid hR5; clear hR5
  go_wp2
  refine bodyPost_ret (v := pcV ⟨0, a⟩) (by simp [results, Tryz.results112, go_sem, pcV, k2, k3]) rfl ?_
  have hg := grown_trans (grown_alloc (grown_trans (grown_trans (World.grownBy_alloc _ _ _) hg1) hg3) _) hg5
  have hb := HR.out.lt
  exact ⟨grown_setNew (grown_setNew hg (Nat.le_refl _) _) (Nat.le_refl _) _, rfl, (HR5.out.far (by simp; omega) _).far (by simp; omega) _⟩
/-- Is a row of a letter a part of a day? -/
def daySet : List UInt8 := [32, 121, 121, 121, 121, 32, 121, 121, 32, 109, 109, 32, 109, 32, 100, 100, 32, 100, 32]
def dayOk (s : List UInt8) : Bool := Lib.contains daySet ([32] ++ s ++ [32])
def partL (c : UInt8) (l : List UInt8) : Option (Pc × List UInt8) := if dayOk (rowL [c] l) = true then some (⟨2, rowL [c] l⟩, cutL [c] l) else none

set_option maxHeartbeats 1600000 in
theorem part_any (w : World) (b : Nat) (c : UInt8) (r : List UInt8) (hc : c.toNat < 128) (hl : (c :: r).length ≤ 60) (hr : RD w b (c :: r)) (hG : G w) (hb : gN ≤ b) :
    Calls Tryz.prog 116 #[.pointer (some ⟨b, 0, none⟩)] w (PcPost b (partL c (c :: r)) w) := by
  obtain ⟨q, hq⟩ : ∃ q, q = c :: r := ⟨_, rfl⟩
  have hx1 : (⟨q.toArray⟩ : ByteArray).extract 0 1 = ⟨#[c]⟩ := by rw [hq, extract_front]; rfl
  have hx2 : (1 : Int) ≤ (q.length : Int) := by rw [hq]; simp; omega
  rw [← hq] at hr hl ⊢
  have hcell := hr.cell
  have hlt := hr.lt
  have HR := Lib.hid hr; clear hr
  have HL := Lib.hid hl; clear hl
  have HQ := Lib.hid hq; clear hq
  obtain ⟨s, hs⟩ : ∃ s, rowL [c] q = s := ⟨_, rfl⟩
  have HS := Lib.hid hs; clear hs
  have hsl : s.length ≤ 60 := by have := row_len [c] q; have := HL.out; have := congrArg List.length HS.out; omega
  have HSL : Hid (s.length ≤ q.length) := by show _ ≤ _; rw [← HS.out]; have := row_len [c] q; omega
  have c0 : (w.alloc (.cells #[.int .i64 0, .string ⟨#[]⟩] 98)).cell? ⟨b, 0, none⟩ = some (.string ⟨q.toArray⟩) := (HR.out.below ((Below.refl _ _).alloc (Nat.le_refl _) _)).cell
  go_enter Tryz.func116, Tryz.ntmps116
  go_wp2_with fail
  refine (row_any _ b q [c] (HR.out.below ((Below.refl _ _).alloc (Nat.le_refl _) _)) (by simpa using hc) (by have := HL.out; omega)).mono ?_
  rintro e w1 ⟨rfl, hB1⟩
  rw [HS.out]
  have hB1' : Below w.heap.size w w1 := ((Below.refl _ _).alloc (Nat.le_refl _) _).trans (hB1.mono (by simp))
  have HR1 : Hid (RD w1 b q) := HR.out.below hB1'
  have hp1 : Hid (w1.heap[w.heap.size]? = some (.cells #[.int .i64 0, .string ⟨#[]⟩] 98 (0, 0))) := by
    show _ = _
    rw [hB1.block _ (by simp)]; exact heap_alloc_new _ _
  have hs1 := hB1.size
  simp at hs1
  go_wp2_with fail
  refine (cut_any _ b s.length q HSL.out HR1.out).mono ?_
  rintro e w2 ⟨rfl, hR2, hg2⟩
  have e1 : q.take s.length = s := by rw [← HS.out]; exact take_row _ _
  have e2 : q.drop s.length = cutL [c] q := by rw [← HS.out]; exact drop_row _ _
  rw [e2] at hR2
  rw [e1]
  clear e1 e2
  have HR2 := Lib.hid hR2; clear hR2
  have hp2 : Hid (w2.heap[w.heap.size]? = some (.cells #[.int .i64 0, .string ⟨#[]⟩] 98 (0, 0))) := by
    show _ = _
    rw [hg2.block _ (by omega) (by simp; omega)]; exact hp1.out
  have hs2 := hg2.size
  have hG2 : G w2 := hG.of_blocks (by omega) (fun k hk => by
    have := hG.size
    rw [hg2.block k (by omega) (by simp; omega), hB1'.block k (by omega)])
  go_wp2_with fail
  have hcat : (⟨#[32]⟩ ++ ⟨s.toArray⟩ ++ ⟨#[32]⟩ : ByteArray) = ⟨([32] ++ s ++ [32]).toArray⟩ := by
    apply ByteArray.ext
    simp
  have HCAT := Lib.hid hcat; clear hcat
  rw [HCAT.out]
  obtain ⟨ok, hok⟩ : ∃ ok, dayOk s = ok := ⟨_, rfl⟩
  have HOK := Lib.hid hok
  refine (c_Contains daySet ([32] ++ s ++ [32]) ok hok _ (by decide) hG2).mono ?_
  clear hok
  rintro e w3 ⟨rfl, rfl⟩
  have k2 : w3.cell? ⟨w.heap.size, 0, none⟩ = some (.int .i64 0) := by simp [World.cell?, hp2.out]
  have k3 : w3.cell? ⟨w.heap.size, 1, none⟩ = some (.string ⟨#[]⟩) := by simp [World.cell?, hp2.out]
  have f2 : w3.frozen? ⟨w.heap.size, 0, none⟩ = false := by simp [World.frozen?, hp2.out]
  have f3 : w3.frozen? ⟨w.heap.size, 1, none⟩ = false := by simp [World.frozen?, hp2.out]
  have HGR : Hid (w.grownBy w3 (some b)) := grown_trans (grown_below hB1' _) hg2
  cases ok with
  | false =>
    go_wp2_with fail
    refine (must_false _).mono ?_
    rintro e w4 ⟨rfl, rfl⟩
    go_wp2_with fail
    have : partL c q = none := by unfold partL; rw [HS.out, HOK.out]; rfl
    rw [this]
    exact ⟨rfl, HGR.out, rfl⟩
  | true =>
    go_wp2_with fail
    refine (must_true _).mono ?_
    rintro e w4 ⟨rfl, rfl⟩
    go_wp2_with fail
    have hbl := HR.out.lt
    refine bodyPost_ret (v := pcV ⟨2, s⟩) (by simp [results, Tryz.results116, go_sem, pcV, k2, k3]) rfl ?_
    have : partL c q = some (⟨2, s⟩, cutL [c] q) := by unfold partL; rw [HS.out, HOK.out]; rfl
    rw [this]
    exact ⟨grown_setNew (grown_setNew HGR.out (Nat.le_refl _) _) (Nat.le_refl _) _, rfl, (HR2.out.far (by simp; omega) _).far (by simp; omega) _⟩
end Go.Proofs.YtpknbdgmpfhcnaaGreatDoor
