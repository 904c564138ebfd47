/- The walk of num.Mul at a small number and a hundred. -/
import Derived.Test.YtpknbdgmpfhcnaaGreatDoorCsM
namespace Go.Proofs.YtpknbdgmpfhcnaaGreatDoor
set_option linter.unusedVariables false
set_option linter.unusedSimpArgs false
open Go.RowKit

theorem c_Mul64 (x y : Nat) (h : x * y < 18446744073709551616) (hx : x < 18446744073709551616) (hy : y < 18446744073709551616) (w : World) : Calls Tryz.prog 95 #[.int .u64 x, .int .u64 y] w fun e w' => e = .returned (.tuple #[.int .u64 0, .int .u64 (x * y : Nat)]) ∧ w' = w := by
  refine (Tryz.bits_Mul64 x y hx hy w).mono ?_
  rintro e w' ⟨rfl, rfl⟩
  rw [Nat.div_eq_of_lt h, Nat.mod_eq_of_lt h]
  exact ⟨rfl, rfl⟩
set_option maxHeartbeats 1000000 in
theorem times_any (x y : Nat) (h : x * y < 18446744073709551616) (hx : x < 18446744073709551616) (hy : y < 18446744073709551616) (w : World) : Calls Tryz.prog 66 #[.int .u64 x, .int .u64 y] w fun e w' => e = .returned (.agg #[.int .u64 0, .int .u64 (x * y : Nat)]) ∧ Below w.heap.size w w' := by
  have HM := Lib.hid (c_Mul64 x y h hx hy)
  obtain ⟨p, hp⟩ : ∃ p, x * y = p := ⟨_, rfl⟩
  rw [hp] at HM ⊢
  clear hp
  go_enter Tryz.func66, Tryz.ntmps66
  go_wp2_with fail
  refine (HM.out _).mono ?_
  rintro e w1 ⟨rfl, rfl⟩
  go_wp2_with fail
  have k0 := new_cell w #[.int .u64 0, .int .u64 (p : Nat)] 124 0
  have k1 := new_cell w #[.int .u64 0, .int .u64 (p : Nat)] 124 1
  simp only [List.getElem?_toArray, List.getElem?_cons_succ, List.getElem?_cons_zero] at k0 k1
  refine bodyPost_ret (v := .agg #[.int .u64 0, .int .u64 (p : Nat)]) (by simp [results, Tryz.results66, go_sem, k0, k1]) rfl ?_
  exact ⟨rfl, below_new _ _⟩
set_option maxRecDepth 100000 in
set_option maxHeartbeats 1000000 in
theorem mul_hundred (n : Nat) (hn : n ≤ 100000000000) (w : World) : Calls Tryz.prog 42 #[.int .i64 n, .int .i64 100000000] w fun e w' => e = .returned (.tuple #[.int .i64 (n * 100 : Nat), .int .i64 0]) ∧ Below w.heap.size w w' := by
  have hf : fitsB n = true := by unfold fitsB; simp; omega
  have hf2 : fitsB 100000000 = true := by decide
  have HF := Lib.hid (fits_any n); have HF2 := Lib.hid (fits_any 100000000)
  rw [hf] at HF; rw [hf2] at HF2
  clear hf hf2
  go_enter Tryz.func42, Tryz.ntmps42
  go_wp2_with fail
  refine (HF.out _).mono ?_
  rintro e w1 ⟨rfl, rfl⟩
  go_wp2_with fail
  refine (HF2.out _).mono ?_
  rintro e w1 ⟨rfl, rfl⟩
  go_wp2_with fail
  refine (bare_any n 100000000 (by omega) (by omega) _).mono ?_
  rintro e w2 ⟨rfl, rfl⟩
  go_wp2_with fail
  refine (times_any n 100000000 (by omega) (by omega) (by omega) _).mono ?_
  rintro e w3 ⟨rfl, hB3⟩
  go_wp2_with fail
  have ho : divR (n * 100000000) 1000000 = n * 100 := by unfold divR; rw [if_neg (by omega)]; omega
  have HO := Lib.hid (over_any (n * 100000000) 1000000 (by omega) (by omega) (by omega) (by omega))
  rw [ho] at HO
  have hd : decide (n * 100 ≤ 1000000000000000000) = true := by simp; omega
  rw [hd] at HO
  refine (HO.out _).mono ?_
  rintro e w4 ⟨rfl, hB4⟩
  clear ho hd HO
  go_wp2_with fail
  have hcell := (hB4.cell (p := ⟨w1.heap.size, 0, none⟩) (by have := hB3.size; simp at this; show w1.heap.size < _; omega)).trans ((hB3.cell (p := ⟨w1.heap.size, 0, none⟩) (by simp)).trans (new_cell w1 #[.bool false] 4 0))
  have HB := Lib.hid ((below_in hB3).trans (hB4.mono (below_in hB3).size)); clear hB3 hB4
  refine (signed_any _ _ _ hcell).mono ?_
  rintro e w5 ⟨rfl, rfl⟩
  go_wp2_with fail
  refine bodyPost_ret (v := .tuple #[.int .i64 (n * 100 : Nat), .int .i64 0]) (by simp [results, Tryz.results42, go_sem]) rfl ?_
  exact ⟨rfl, HB.out⟩
end Go.Proofs.YtpknbdgmpfhcnaaGreatDoor
