/- The walks of codes.must and of the reader's methods cut, row. -/
import Derived.Test.YtpknbdgmpfhcnaaGreatDoorCs3
import Derived.WalkLawsBesides
import Derived.Deep.RegionHeld3
import Derived.StillTactics
import Derived.IntWalk
namespace Go.Proofs.YtpknbdgmpfhcnaaGreatDoor
set_option linter.unusedVariables false
set_option linter.unusedSimpArgs false
open Go.RowKit

theorem ret_int {k : IntKind} {a b : Int} (h : a = b) : Ending.returned (.int k a) = .returned (.int k b) := by rw [h]
/-- What must panics with. -/
def brokenV : Value := .iface 74 (.agg #[])
def Broke (e : Ending) : Prop := e = .panicked [{ v := brokenV, recovered := false }]

set_option maxHeartbeats 400000 in
theorem must_true (w : World) : Calls Tryz.prog 36 #[.bool true] w fun e w' => e = .returned (.tuple #[]) ∧ w = w' := by
  go_enter Tryz.func36, Tryz.ntmps36
  go_wp2
  go_end0
  exact ⟨rfl, rfl⟩

set_option maxHeartbeats 400000 in
theorem must_false (w : World) : Calls Tryz.prog 36 #[.bool false] w fun e w' => Broke e ∧ w = w' := by
  go_enter Tryz.func36, Tryz.ntmps36
  go_wp2
  exact ⟨rfl, rfl, rfl⟩

/-- The reader at block b holds the text l. -/
def RD (w : World) (b : Nat) (l : List UInt8) : Prop := w.heap[b]? = some (.cells #[.string ⟨l.toArray⟩] 78 (0, 0))
theorem RD.cell {w : World} {b : Nat} {l : List UInt8} (h : RD w b l) : w.cell? ⟨b, 0, none⟩ = some (.string ⟨l.toArray⟩) := by simp [World.cell?, RD] at *; simp [h]
theorem RD.free {w : World} {b : Nat} {l : List UInt8} (h : RD w b l) : w.frozen? ⟨b, 0, none⟩ = false := by simp [World.frozen?, RD] at *; simp [h]
theorem RD.lt {w : World} {b : Nat} {l : List UInt8} (h : RD w b l) : b < w.heap.size := (Array.getElem?_eq_some_iff.1 h).1
theorem RD.set {w : World} {b : Nat} {l : List UInt8} (h : RD w b l) (r : List UInt8) : RD (w.setCell ⟨b, 0, none⟩ (.string ⟨r.toArray⟩)) b r := by
  unfold RD at *
  simp [World.setCell, Array.getElem?_modify, h]
theorem RD.below {w w' : World} {b : Nat} {l : List UInt8} (h : RD w b l) (hb : Below w.heap.size w w') : RD w' b l := (hb.block b h.lt).trans h
theorem grown_set (w : World) (b : Nat) (v : Value) : w.grownBy (w.setCell ⟨b, 0, none⟩ v) (some b) :=
  ⟨rfl, rfl, rfl, by simp [World.setCell], fun k _ hk => Below.heap_setCell _ _ _ _ (fun e => hk (by rw [e]))⟩
theorem grown_below {w w' : World} (h : Below w.heap.size w w') (r : Option Nat) : w.grownBy w' r := ⟨h.os, h.tape, h.output, h.size, fun k hk _ => h.block k hk⟩

set_option maxHeartbeats 400000 in
theorem cut_any (w : World) (b n : Nat) (l : List UInt8) (hn : n ≤ l.length) (hr : RD w b l) :
    Calls Tryz.prog 35 #[.pointer (some ⟨b, 0, none⟩), .int .i64 n] w fun e w' => e = .returned (.string ⟨(l.take n).toArray⟩) ∧ RD w' b (l.drop n) ∧ w.grownBy w' (some b) := by
  have hc := hr.cell
  have hf := hr.free
  have h0 : (0 : Int) ≤ (n : Int) := by omega
  have h1 : (n : Int) ≤ (l.length : Int) := by omega
  have HR := Lib.hid hr; clear hr
  go_enter Tryz.func35, Tryz.ntmps35
  go_wp2
  go_ret
  have e1 : (⟨l.toArray⟩ : ByteArray).extract 0 n = ⟨(l.take n).toArray⟩ := extract_front _ _
  have e2 : (⟨l.toArray⟩ : ByteArray).extract n l.length = ⟨(l.drop n).toArray⟩ := extract_end ⟨l.toArray⟩ _
  rw [e2]
  exact ⟨by rw [← e1]; rfl, HR.out.set _, grown_set _ _ _⟩

set_option maxHeartbeats 400000 in
theorem row_any (w : World) (b : Nat) (l set : List UInt8) (hr : RD w b l) (ha : ∀ x ∈ set, x.toNat < 128) (hl : l.length ≤ 1000) :
    Calls Tryz.prog 114 #[.pointer (some ⟨b, 0, none⟩), .string ⟨set.toArray⟩] w fun e w' => e = .returned (.int .i64 (rowL set l).length) ∧ Below w.heap.size w w' := by
  have hc := hr.cell
  have hlt := hr.lt
  have HR := Lib.hid hr; clear hr
  have HA := Lib.hid ha; clear ha
  obtain ⟨r, hrr⟩ : ∃ r, cutL set l = r := ⟨_, rfl⟩
  have HC : ∀ w : World, Calls Tryz.prog 129 #[.string ⟨l.toArray⟩, .string ⟨set.toArray⟩] w fun e w' => e = .returned (.string ⟨r.toArray⟩) ∧ Below w.heap.size w w' := fun w => by
    have := cutLeft_any ⟨l.toArray⟩ ⟨set.toArray⟩ w (by show l.length ≤ _; omega) HA.out
    rw [L_mk, L_mk, hrr] at this
    exact this
  have HC' := Lib.hid HC; clear HC
  go_enter Tryz.func114, Tryz.ntmps114
  go_wp2_with fail
  go_region_held3 (fun w' => w'.cell? ⟨b, 0, none⟩ = some (.string ⟨l.toArray⟩))
    (first | go_keep | exact (hB1.cell (by simpa using hlt)).trans (by simpa using hc))
    ((go_at_call 129; refine (HC'.out _).mono ?_; rintro e w1 ⟨rfl, hB1⟩))
  go_wp2
  go_ret
  have hr1 := row_len set l
  rw [hrr] at hr1
  have e1 : IntKind.i64.wrap ((l.length : Int) - (r.length : Int)) = ((rowL set l).length : Int) := by
    rw [IntWalk.i64_in _ (by omega)]; omega
  exact ⟨ret_int e1, (Below.refl _ _).drew.trans hB1⟩
end Go.Proofs.YtpknbdgmpfhcnaaGreatDoor
