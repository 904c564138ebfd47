/- A region that draws its order: all its orders, each walked as a plain list of operations. -/
import Derived.Orders
import Derived.Tactics
import Derived.Test.YtpknbdgmpfhcnaaGreatDoorProg
namespace Go.Proofs.YtpknbdgmpfhcnaaGreatDoor
set_option linter.unusedVariables false
open Go
variable {P : Program} {ops : Array Oper} {Q : Exit → Act → World → Prop} {a : Act} {w : World}

/-- All orders that a region's edges allow. -/
def ordersOf (md : Region.Mode) (ops : Array Oper) : Nat → Array Bool → List (List Nat)
  | 0, _ => [[]]
  | f + 1, listed => match Region.ready md ops listed with
    | [] => [[]]
    | r => r.flatMap fun i => (ordersOf md ops f (listed.setIfInBounds i true)).map (i :: ·)

theorem linearise_mem (md : Region.Mode) (ops : Array Oper) : ∀ (f t : Nat) (listed : Array Bool), Region.linearise.go md ops f t listed [] ∈ ordersOf md ops f listed := by
  intro f
  induction f with
  | zero => intro t listed; simp [Region.linearise.go, ordersOf]
  | succ f ih =>
    intro t listed
    simp only [Region.linearise.go]
    change (match (Region.ready md ops listed)[t % (Region.ready md ops listed).length]? with
      | some i => Region.linearise.go md ops f (t / (Region.ready md ops listed).length) (listed.setIfInBounds i true) [i]
      | none => [].reverse) ∈ _
    cases hr : Region.ready md ops listed with
    | nil => simp [ordersOf, hr]
    | cons x xs =>
      have hlt : t % (x :: xs).length < (x :: xs).length := Nat.mod_lt _ (by simp)
      rw [List.getElem?_eq_getElem hlt]
      simp only []
      rw [linearise_go_acc]
      simp only [ordersOf, hr]
      rw [List.mem_flatMap]
      exact ⟨_, List.getElem_mem hlt, List.mem_map.2 ⟨_, ih _ _, rfl⟩⟩

theorem wp_region_orders {id : Nat} (hm : P.follows .mixedOrders = true) (L : List (List Nat)) (hL : ordersOf .any ops ops.size (Array.replicate ops.size false) = L)
    (h : ∀ l ∈ L, wpOps P ops Q l a { w with drawn := w.drawn + 1 }) : (Code.region id ops true).wp P Q a w :=
  wp_region_draw fun t => by
    simp only [Region.schedule, hm, Bool.true_or, if_true]
    refine h _ ?_
    rw [← hL]
    exact linearise_mem .any ops ops.size t _

theorem wpOps_to : ∀ (l : List Nat) (os : List Oper), l.map (ops[·]?) = os.map some → ∀ (a : Act) (w : World), wpList P ops Q os a w → wpOps P ops Q l a w := by
  intro l
  induction l with
  | nil =>
    intro os h a w hw
    cases os with
    | nil => exact hw
    | cons o os => simp at h
  | cons i l ih =>
    intro os h a w hw
    cases os with
    | nil => simp at h
    | cons o os =>
      simp only [List.map_cons, List.cons.injEq] at h
      obtain ⟨h1, h2⟩ := h
      rw [wpOps_cons]
      unfold wpOp
      simp only [h1]
      simp only [wpList] at hw
      split
      · rename_i hwant
        rw [if_pos hwant] at hw
        exact hw.imp (Oper.wp_mono (fun a w => ih os h2 a w)) id
      · rename_i hwant
        rw [if_neg hwant] at hw
        exact ih os h2 _ _ hw
end Go.Proofs.YtpknbdgmpfhcnaaGreatDoor
