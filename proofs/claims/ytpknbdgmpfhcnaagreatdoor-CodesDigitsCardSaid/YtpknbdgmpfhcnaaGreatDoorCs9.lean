/- The walk of codes.read: the deferred closure, the sections one behind the other. -/
import Derived.Test.YtpknbdgmpfhcnaaGreatDoorCs8
import Derived.Defers
import Derived.Recover
import Derived.RegionCalls
import Derived.Deep.RegionWith
namespace Go.Proofs.YtpknbdgmpfhcnaaGreatDoor
set_option linter.unusedVariables false
set_option linter.unusedSimpArgs false
open Go.RowKit

theorem catch_idle (p q : Value) (w : World) :
    CallsD Tryz.prog 33 #[p, q] .returning w fun e u' w' => e = .returned (.tuple #[]) ∧ u' = .returning ∧ w' = w := by
  refine callsD_of_wpS Tryz.func33 rfl fun c₀ cs hu => ?_
  apply wpS_seq
  apply wpS_region
  simp [wpOpsS, go_sem, recoverD, hu, Tryz.ntmps33, Exit.thenS]
  refine wpS_of_wp ?_
  go_wp2
  cases c₀
  simp_all [bodyPostS, results, Tryz.results33]

set_option maxRecDepth 100000 in
set_option maxHeartbeats 1600000 in
theorem catch_broken (bf be : Nat) (v : Value) (x : Int) (w : World) (hf : w.heap[bf]? = some (.cells #[v] 42 (0, 0))) (he : w.heap[be]? = some (.cells #[.int .i64 x] 22 (0, 0))) (hne : be ≠ bf) :
    CallsD Tryz.prog 33 #[.pointer (some ⟨bf, 0, none⟩), .pointer (some ⟨be, 0, none⟩)] (.panicking [{ v := brokenV, recovered := false }]) w fun e u' w' =>
      e = .returned (.tuple #[]) ∧ u' = .panicking [{ v := brokenV, recovered := true }] ∧ w' = ((w.alloc (.cells #[] 74)).setCell ⟨bf, 0, none⟩ (.slice none 0 0)).setCell ⟨be, 0, none⟩ (.int .i64 5) := by
  refine callsD_of_wpS Tryz.func33 rfl fun c₀ cs hu => ?_
  apply wpS_seq
  apply wpS_region
  simp [wpOpsS, go_sem, recoverD, hu, Tryz.ntmps33, Exit.thenS, brokenV]
  have hfA : (w.alloc (.cells #[] 74)).heap[bf]? = some (.cells #[v] 42 (0, 0)) := (get_old (Array.getElem?_eq_some_iff.1 hf).1).trans hf
  have heA : (w.alloc (.cells #[] 74)).heap[be]? = some (.cells #[.int .i64 x] 22 (0, 0)) := (get_old (Array.getElem?_eq_some_iff.1 he).1).trans he
  have c0 : (w.alloc (.cells #[] 74)).cell? ⟨bf, 0, none⟩ = some v := by simp only [World.cell?, hfA]; rfl
  have c1 : (w.alloc (.cells #[] 74)).cell? ⟨be, 0, none⟩ = some (.int .i64 x) := by simp only [World.cell?, heA]; rfl
  have f0 : (w.alloc (.cells #[] 74)).frozen? ⟨bf, 0, none⟩ = false := by simp only [World.frozen?, hfA]; rfl
  have f1 : (w.alloc (.cells #[] 74)).frozen? ⟨be, 0, none⟩ = false := by simp only [World.frozen?, heA]; rfl
  clear hfA heA
  have hne1 : ¬ be = bf := hne
  have hne2 : ¬ bf = be := fun e => hne e.symm
  refine wpS_of_wp ?_
  have ht : (#[Value.pointer (some ⟨bf, 0, none⟩), Value.pointer (some ⟨be, 0, none⟩)] ++ (((Array.replicate 14 undef).setIfInBounds 3 (.iface 74 (.agg #[]))).setIfInBounds 0 (.iface 74 (.agg #[])))) = #[Value.pointer (some ⟨bf, 0, none⟩), Value.pointer (some ⟨be, 0, none⟩), (.iface 74 (.agg #[])), undef, undef, (.iface 74 (.agg #[])), undef, undef, undef, undef, undef, undef, undef, undef, undef, undef] := by rfl
  rw [ht]
  clear ht
  have hta : ∀ w, (Instr.typeAssert (.iface 74 (.agg #[])) 20 74 true).run Tryz.prog w = .ok (.tuple #[.agg #[], .bool true]) w := fun w => by kernel_rfl
  have HF := Lib.hid hf; have HE := Lib.hid he; have HU := Lib.hid hu; clear hf he hu
  go_wp2
  have hu := HU.out
  cases c₀
  simp_all [bodyPostS, results, Tryz.results33]
end Go.Proofs.YtpknbdgmpfhcnaaGreatDoor
