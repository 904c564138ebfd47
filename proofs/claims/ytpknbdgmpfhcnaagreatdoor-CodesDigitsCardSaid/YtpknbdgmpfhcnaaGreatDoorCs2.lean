/- The world's word for these walks: the package-level variables that the library reads; plain words of the package codes. -/
import Derived.Test.YtpknbdgmpfhcnaaGreatDoorChecked
import Derived.Test.YtpknbdgmpfhcnaaGreatDoorCs0
import Derived.Test.YtpknbdgmpfhcnaaGreatDoorShelf
import Derived.WalkKit
import Derived.Lib.Hide
namespace Go.Proofs.YtpknbdgmpfhcnaaGreatDoor
set_option linter.unusedVariables false
set_option linter.unusedSimpArgs false
open Go.RowKit

/-- How many blocks the package-level variables take. -/
abbrev gN : Nat := 10
/-- What the walks know of package-level variables. -/
structure G (w : World) : Prop where
  maxLen : ∃ m, w.cell? ⟨0, 0, none⟩ = some (.int .i64 m)
  pow : Lib.TabIs Tryz.prog w "internal/strconv.uint64pow10" .u64 Lib.pow10Tab
  size : gN ≤ w.heap.size
theorem G.of_blocks {w w' : World} (h : G w) (hs : w.heap.size ≤ w'.heap.size) (hb : ∀ k, k < gN → w'.heap[k]? = w.heap[k]?) : G w' := by
  obtain ⟨⟨m, hm⟩, hp, hz⟩ := h
  have hg : Tryz.prog.globalNamed "internal/strconv.uint64pow10" = some 7 := by kernel_rfl
  refine ⟨⟨m, ?_⟩, ?_, Nat.le_trans hz hs⟩
  · rw [World.cell?_of_block (hb 0 (by decide))]; exact hm
  · unfold Lib.TabIs World.var? at hp ⊢
    rw [hg] at hp ⊢
    simp only [Option.bind_some] at hp ⊢
    rw [hb _ (by decide)]; exact hp
theorem G.below {B : Nat} {w w' : World} (h : G w) (hb : Below B w w') (hB : gN ≤ B) : G w' := h.of_blocks hb.size fun k hk => hb.block k (Nat.lt_of_lt_of_le hk hB)
theorem G.below' {w w' : World} (h : G w) (hb : Below w.heap.size w w') : G w' := h.below hb h.size
theorem G.drewN {w : World} (h : G w) (n : Nat) : G (w.drewN n) := h.of_blocks (by simp) fun _ _ => rfl
theorem G.drew {w : World} (h : G w) : G w.drew := h.of_blocks (Nat.le_refl _) fun _ _ => rfl
theorem G.alloc {w : World} (h : G w) (o : Obj) : G (w.alloc o) := h.below ((Below.refl w.heap.size w).alloc (Nat.le_refl _) o) h.size
theorem G.setCell {w : World} (h : G w) {p : Addr} (hp : gN ≤ p.block) (u : Value) : G (w.setCell p u) := h.below ((Below.refl gN w).setCell hp u) (Nat.le_refl _)

/-- A piece of a section. -/
structure Pc where
  kind : Int
  s : List UInt8
  deriving DecidableEq

/-- Is a text a number's place, as the program asks it? -/
def placeL (s : List UInt8) : Bool :=
  !(Lib.replaceAll (Lib.cut s [46]).1 [44] []).isEmpty
  && (Lib.trimB (Lib.trimLeftB (Lib.replaceAll (Lib.cut s [46]).1 [44] []) 35) 48).isEmpty
  && (Lib.trimLeftB (Lib.trimLeftB (Lib.cut s [46]).2.1 48) 35).isEmpty
  && !Lib.hasPrefix (Lib.cut s [46]).1 [44]
  && !Lib.hasSuffix (Lib.cut s [46]).1 [44]
  && !Lib.contains (Lib.cut s [46]).1 [44, 44]
end Go.Proofs.YtpknbdgmpfhcnaaGreatDoor
