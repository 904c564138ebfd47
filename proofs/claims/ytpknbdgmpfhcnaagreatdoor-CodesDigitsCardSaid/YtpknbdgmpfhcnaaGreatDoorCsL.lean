/- The walks of num.told, bare, over, Round, Mul, Floor. -/
import Derived.Test.YtpknbdgmpfhcnaaGreatDoorCsK
import Derived.WalkSmall
namespace Go.Proofs.YtpknbdgmpfhcnaaGreatDoor
set_option linter.unusedVariables false
set_option linter.unusedSimpArgs false
open Go.RowKit

def toldL (n : Int) : Int × Int := if fitsB n = true then (n, 0) else (0, 3)
set_option maxHeartbeats 1000000 in
theorem told_any (n : Int) (w : World) : Calls Tryz.prog 62 #[.int .i64 n] w fun e w' => e = .returned (.tuple #[.int .i64 (toldL n).1, .int .i64 (toldL n).2]) ∧ w' = w := by
  have HF := Lib.hid (fits_any n)
  obtain ⟨b, hb⟩ : ∃ b, fitsB n = b := ⟨_, rfl⟩
  have HT : Hid (toldL n = if b = true then (n, 0) else (0, 3)) := by show _ = _; rw [← hb]; rfl
  rw [hb] at HF
  clear hb
  go_enter Tryz.func62, Tryz.ntmps62
  go_wp2_with fail
  refine (HF.out _).mono ?_
  rintro e w1 ⟨rfl, rfl⟩
  cases b
  · go_wp2_with fail
    refine bodyPost_ret (v := .tuple #[.int .i64 0, .int .i64 3]) (by simp [results, Tryz.results62, go_sem]) rfl ?_
    exact ⟨by rw [HT.out]; rfl, rfl⟩
  · go_wp2_with fail
    refine bodyPost_ret (v := .tuple #[.int .i64 n, .int .i64 0]) (by simp [results, Tryz.results62, go_sem]) rfl ?_
    exact ⟨by rw [HT.out]; rfl, rfl⟩
set_option maxHeartbeats 1000000 in
theorem bare_any (a b : Nat) (ha : a ≤ 1000000000000000000) (hb : b ≤ 1000000000000000000) (w : World) : Calls Tryz.prog 65 #[.int .i64 a, .int .i64 b] w fun e w' =>
    e = .returned (.tuple #[.int .u64 a, .int .u64 b, .func (.func 94) #[] #[.pointer (some ⟨w.heap.size, 0, none⟩)]]) ∧ w' = w.alloc (.cells #[.bool false] 4) := by
  have m1 : max (a : Int) (-(a : Int)) = a := by omega
  have m2 : max (b : Int) (-(b : Int)) = b := by omega
  have d1 : decide ((a : Int) < 0) = false := by simp
  have d2 : decide ((b : Int) < 0) = false := by simp
  go_enter Tryz.func65, Tryz.ntmps65
  go_wp2_with fail
  refine bodyPost_ret (v := .tuple #[.int .u64 a, .int .u64 b, .func (.func 94) #[] #[.pointer (some ⟨w.heap.size, 0, none⟩)]]) (by simp [results, Tryz.results65, go_sem]) rfl ?_
  exact ⟨rfl, rfl⟩
set_option maxHeartbeats 1000000 in
theorem signed_any (n : Int) (b : Nat) (w : World) (hc : w.cell? ⟨b, 0, none⟩ = some (.bool false)) : Calls Tryz.prog 94 #[.int .i64 n, .pointer (some ⟨b, 0, none⟩)] w fun e w' => e = .returned (.int .i64 n) ∧ w' = w := by
  go_enter Tryz.func94, Tryz.ntmps94
  go_wp2_with fail
  go_ret
  exact ⟨rfl, rfl⟩
set_option maxHeartbeats 1000000 in
theorem div64_any (lo y : Nat) (hl : lo < 18446744073709551616) (hy : 0 < y) (hy2 : y < 18446744073709551616) (w : World) : Calls Tryz.prog 96 #[.int .u64 0, .int .u64 lo, .int .u64 y] w fun e w' => e = .returned (.tuple #[.int .u64 (lo / y : Nat), .int .u64 (lo % y : Nat)]) ∧ Below w.heap.size w w' := by
  have hy0 : ((y : Int) == 0) = false := by simp; omega
  have hy1 : ¬ (y : Int) = 0 := by omega
  have hyn : ¬ y = 0 := by omega
  go_enter Tryz.func96, Tryz.ntmps96
  go_wp2_with fail
  go_region
  all_goals
    go_wp2_with fail
    refine bodyPost_ret (v := .tuple #[.int .u64 (IntKind.u64.wrap ((lo : Int) / (y : Int))), .int .u64 ((lo : Int) % (y : Int))]) (by simp [results, Tryz.results96, go_sem]) rfl ?_
    refine ⟨?_, by (repeat' (first | exact Below.refl _ _ | assumption | refine Below.drew ?_ | refine Below.alloc ?_ ?_ _ | refine Below.setCell ?_ ?_ _ | (simp; done) | (simp; omega) | omega))⟩
    have hq : IntKind.u64.wrap ((lo : Int) / (y : Int)) = ((lo / y : Nat) : Int) := by
      rw [← Int.natCast_ediv]
      have : lo / y ≤ lo := Nat.div_le_self _ _
      generalize lo / y = q at *
      exact IntWalk.u64_in _ (by omega)
    rw [hq, ← Int.natCast_emod]
/-- A division that rounds to the nearest, a half to the even one. -/
def divR (lo y : Nat) : Nat := if y - lo % y < lo % y ∨ (lo % y = y - lo % y ∧ lo / y % 2 = 1) then lo / y + 1 else lo / y
set_option maxRecDepth 100000 in
set_option maxHeartbeats 1000000 in
theorem over_any (lo y : Nat) (hl : lo < 18446744073709551616) (hy : 0 < y) (hy2 : y < 18446744073709551616) (hq : lo / y ≤ 1000000000000000000) (w : World) : Calls Tryz.prog 67 #[.agg #[.int .u64 0, .int .u64 lo], .int .u64 y] w fun e w' => e = .returned (.tuple #[.int .i64 (divR lo y : Nat), .bool (decide (divR lo y ≤ 1000000000000000000))]) ∧ Below w.heap.size w w' := by
  have HD := Lib.hid (div64_any lo y hl hy hy2)
  go_enter Tryz.func67, Tryz.ntmps67
  go_wp2_with fail
  refine (HD.out _).mono ?_
  rintro e w1 ⟨rfl, hB⟩
  have HB := Lib.hid (below_in hB); clear hB
  obtain ⟨q, hqq⟩ : ∃ q, lo / y = q := ⟨_, rfl⟩
  obtain ⟨r, hr⟩ : ∃ r, lo % y = r := ⟨_, rfl⟩
  have hry : r < y := by rw [← hr]; exact Nat.mod_lt _ hy
  have HV : Hid (divR lo y = if y - r < r ∨ (r = y - r ∧ q % 2 = 1) then q + 1 else q) := by show _ = _; unfold divR; rw [hqq, hr]
  rw [hqq] at hq
  rw [hqq, hr]
  clear hqq hr HD
  have hq1 : decide ((1000000000000000000 : Int) < (q : Int)) = false := by simp; omega
  have HQ := Lib.hid hq
  have HRY := Lib.hid hry
  have hand : bits BinOp.and IntKind.u64 (q : Int) 1 = (q : Int) % 2 := and_one_u64 _ (by omega) (by omega)
  obtain ⟨d, hdd⟩ : ∃ d, y - r = d := ⟨_, rfl⟩
  have hsub : IntKind.u64.wrap ((y : Int) - (r : Int)) = (d : Int) := by rw [← hdd, IntWalk.u64_in _ (by omega)]; omega
  rw [hdd] at HV
  have HQ := Lib.hid hq
  clear hq hry hl hy hy2 hdd
  have w1' : IntKind.u64.wrap ((q : Int) + 1) = (q : Int) + 1 := IntWalk.u64_in _ (by have := HQ.out; omega)
  have w2' : wrap64 ((q : Int) + 1) = (q : Int) + 1 := by have := HQ.out; unfold wrap64; omega
  have w3' : wrap64 (q : Int) = (q : Int) := by have := HQ.out; unfold wrap64; omega
  have d1 : decide ((q : Int) ≤ 1000000000000000000) = true := by have := HQ.out; simp; omega
  obtain ⟨b2, d2⟩ : ∃ b2, decide ((q : Int) + 1 ≤ 1000000000000000000) = b2 := ⟨_, rfl⟩
  have HB2 : Hid (decide (q + 1 ≤ 1000000000000000000) = b2) := by show _ = _; rw [← d2, Bool.eq_iff_iff, decide_eq_true_iff, decide_eq_true_iff]; omega
  have HB3 : Hid (decide (q ≤ 1000000000000000000) = true) := by show _ = _; have := HQ.out; simpa using this
  by_cases g1 : d < r
  · have t1 := lss_nat g1
    have p1 : (d : Int) < (r : Int) := by omega
    have HW : Hid (divR lo y = q + 1) := by show _ = _; rw [HV.out, if_pos (.inl g1)]
    go_wp2_with fail
    refine bodyPost_ret (v := .tuple #[.int .i64 ((q : Int) + 1), .bool b2]) (by simp [results, Tryz.results67, go_sem, w2', w3']) rfl ?_
    exact ⟨by rw [HW.out, HB2.out]; rfl, HB.out⟩
  · have t1 := lss_nat' g1
    have p1 : ¬ (d : Int) < (r : Int) := by omega
    by_cases g2 : r = d
    · have t2 : ((r : Int) == (d : Int)) = true := by simp [g2]
      by_cases g3 : q % 2 = 1
      · have t3 : ((q : Int) % 2 == 1) = true := by simp; omega
        have HW : Hid (divR lo y = q + 1) := by show _ = _; rw [HV.out, if_pos (.inr ⟨g2, g3⟩)]
        have g3' : (q : Int) % 2 = 1 := by omega
        clear g3
        subst g2
        go_wp2_with fail
        refine bodyPost_ret (v := .tuple #[.int .i64 ((q : Int) + 1), .bool b2]) (by simp [results, Tryz.results67, go_sem, w2', w3']) rfl ?_
        exact ⟨by rw [HW.out, HB2.out]; rfl, HB.out⟩
      · have t3 : ((q : Int) % 2 == 1) = false := by simp; omega
        have HW : Hid (divR lo y = q) := by show _ = _; rw [HV.out, if_neg (by omega)]
        have g3' : ¬ (q : Int) % 2 = 1 := by omega
        clear g3
        subst g2
        go_wp2_with fail
        refine bodyPost_ret (v := .tuple #[.int .i64 (q : Int), .bool true]) (by simp [results, Tryz.results67, go_sem, w2', w3']) rfl ?_
        exact ⟨by rw [HW.out, HB3.out], HB.out⟩
    · have t2 : ((r : Int) == (d : Int)) = false := by simp; omega
      have p2 : ¬ (r : Int) = (d : Int) := by omega
      have HW : Hid (divR lo y = q) := by show _ = _; rw [HV.out, if_neg (by omega)]
      go_wp2_with fail
      refine bodyPost_ret (v := .tuple #[.int .i64 (q : Int), .bool true]) (by simp [results, Tryz.results67, go_sem, w2', w3']) rfl ?_
      exact ⟨by rw [HW.out, HB3.out], HB.out⟩
theorem pow_le6 {j : Nat} (h : j ≤ 6) : 10 ^ j ≤ 1000000 := by
  have : (10 : Nat) ^ j ≤ 10 ^ 6 := Nat.pow_le_pow_right (by decide) h
  simpa using this
theorem divR_le (lo y : Nat) : divR lo y ≤ lo / y + 1 := by unfold divR; split <;> omega
/-- Ten to a number. -/
def roundL (n places : Nat) : Int × Int := toldL (divR n (10 ^ (6 - places)) * 10 ^ (6 - places) : Nat)
set_option maxRecDepth 100000 in
set_option maxHeartbeats 1000000 in
theorem round_any (n p : Nat) (hn : n ≤ 1000000000000000000) (hp : p ≤ 6) (w : World) : Calls Tryz.prog 98 #[.int .i64 n, .int .i64 p] w fun e w' => e = .returned (.tuple #[.int .i64 (roundL n p).1, .int .i64 (roundL n p).2]) ∧ Below w.heap.size w w' := by
  have hf : fitsB n = true := by unfold fitsB; simp; omega
  have HF := Lib.hid (fits_any n)
  rw [hf] at HF
  clear hf
  have hp1 : ¬ (p : Int) < -12 := by omega
  have hp2 : ¬ 6 < (p : Int) := by omega
  go_enter Tryz.func98, Tryz.ntmps98
  go_wp2_with fail
  refine (HF.out _).mono ?_
  rintro e w1 ⟨rfl, rfl⟩
  clear hp1 hp2
  obtain ⟨e6, he6⟩ : ∃ e6, 6 - p = e6 := ⟨_, rfl⟩
  have he : (6 : Int) - (p : Int) = (e6 : Int) := by omega
  have h6 : e6 ≤ 6 := by omega
  have HV : Hid (roundL n p = toldL (divR n (10 ^ e6) * 10 ^ e6 : Nat)) := by show _ = _; unfold roundL; rw [he6]
  clear he6
  go_wp2_with fail
  go_loopw [6, 25] (fun t k wr => ∃ j : Nat, j ≤ e6 ∧ k = .int .i64 j ∧ t = .int .i64 (10 ^ j : Nat) ∧ wr = w1) (fun _ k _ => e6 - (intOf k).toNat)
  case atStart => exact ⟨0, by omega, rfl, rfl, rfl⟩
  case round =>
    obtain ⟨j, hj, rfl, rfl, rfl⟩ := hrel
    obtain ⟨x, hx⟩ : ∃ x, 10 ^ j = x := ⟨_, rfl⟩
    have hxl : x ≤ 1000000 := by rw [← hx]; exact pow_le6 (by omega)
    have HX := Lib.hid hx
    rw [hx]
    clear hx
    by_cases hlt : j < e6
    · have hd := lss_nat hlt
      have hm : IntKind.i64.wrap ((x : Int) * 10) = (x : Int) * 10 := IntWalk.i64_in _ (by omega)
      go_wp2_with fail
      refine ⟨⟨j + 1, by omega, by simp, ?_, by simp⟩, by simp only [intOf]; omega⟩
      rw [Nat.pow_succ, HX.out]; simp
    · have hd := lss_nat' hlt
      have hje : j = e6 := by omega
      subst hje
      go_wp2_with fail
      have hxp : 0 < x := by rw [← HX.out]; exact Nat.pow_pos (by decide)
      refine (bare_any n x hn (by omega) _).mono ?_
      rintro e w2 ⟨rfl, rfl⟩
      have HO := Lib.hid (over_any n x (by omega) hxp (by omega) (Nat.le_trans (Nat.div_le_self _ _) hn))
      have hdv := divR_le n x
      have hdv2 : n / x ≤ n := Nat.div_le_self _ _
      have hdm : n / x * x ≤ n := Nat.div_mul_le_self n x
      have HV2 : Hid (roundL n p = toldL (divR n x * x : Nat)) := by show _ = _; rw [HV.out, HX.out]
      have hdx : divR n x * x ≤ n + x := by
        have := Nat.mul_le_mul_right x hdv
        rw [Nat.add_mul, Nat.one_mul] at this; omega
      generalize hdd : divR n x = d at *
      have hd1 : d ≤ 1000000000000000001 := by omega
      clear hdv hdv2 hdm hxp hdd HV
      go_wp2_with fail
      refine (HO.out _).mono ?_
      rintro e w3 ⟨rfl, hB⟩
      go_wp2_with fail
      have hcell := (hB.cell (p := ⟨wr.heap.size, 0, none⟩) (by simp)).trans (new_cell wr #[.bool false] 4 0)
      have HB := Lib.hid (below_in hB); clear hB
      refine (signed_any _ _ _ hcell).mono ?_
      rintro e w4 ⟨rfl, rfl⟩
      have hm : IntKind.i64.wrap ((d : Int) * (x : Int)) = ((d * x : Nat) : Int) := by
        rw [← Int.natCast_mul]
        generalize d * x = y at *
        exact IntWalk.i64_in _ (by omega)
      go_wp2_with fail
      rw [show (d : Int) * (x : Int) = ((d * x : Nat) : Int) by simp]
      refine (told_any _ _).mono ?_
      rintro e w5 ⟨rfl, rfl⟩
      obtain ⟨a, b, hab⟩ : ∃ a b, toldL ((d * x : Nat) : Int) = (a, b) := ⟨_, _, rfl⟩
      rw [hab]
      have HAB : Hid (roundL n p = (a, b)) := by show _ = _; rw [HV2.out, hab]
      clear hab
      go_wp2_with fail
      refine bodyPost_ret (v := .tuple #[.int .i64 a, .int .i64 b]) (by simp [results, Tryz.results98, go_sem]) rfl ?_
      exact ⟨by rw [HAB.out], HB.out⟩

set_option maxHeartbeats 1000000 in
theorem floor_day (w : World) : Calls Tryz.prog 40 #[.int .i64 45000000000] w fun e w' => e = .returned (.tuple #[.int .i64 45000000000, .int .i64 0]) ∧ w' = w := by
  have hf : fitsB 45000000000 = true := by decide
  have HF := Lib.hid (fits_any 45000000000)
  rw [hf] at HF
  have ht : toldL 45000000000 = (45000000000, 0) := by decide
  have HT := Lib.hid (told_any 45000000000)
  rw [ht] at HT
  clear ht hf
  go_enter Tryz.func40, Tryz.ntmps40
  go_wp2_with fail
  refine (HF.out _).mono ?_
  rintro e w1 ⟨rfl, rfl⟩
  go_wp2_with fail
  refine (HT.out _).mono ?_
  rintro e w1 ⟨rfl, rfl⟩
  go_wp2_with fail
  refine bodyPost_ret (v := .tuple #[.int .i64 45000000000, .int .i64 0]) (by simp [results, Tryz.results40, go_sem]) rfl ?_
  exact ⟨rfl, rfl⟩
set_option maxHeartbeats 1000000 in
theorem is_day (w : World) : Calls Tryz.prog 63 #[.int .i64 45000] w fun e w' => e = .returned (.bool true) ∧ w' = w := by
  go_enter Tryz.func63, Tryz.ntmps63
  go_wp2_with fail
  go_ret
  exact ⟨rfl, rfl⟩
set_option maxRecDepth 100000 in
set_option maxHeartbeats 1000000 in
theorem dparts_day (w : World) : Calls Tryz.prog 64 #[.int .i64 45000] w fun e w' => e = .returned (.agg #[.int .i64 2023, .int .i64 3, .int .i64 16]) ∧ Below w.heap.size w w' := by
  have m0 : min (0 : Int) 3 = 0 := by decide
  have m3 : min (3 : Int) 3 = 3 := by decide
  go_enter Tryz.func64, Tryz.ntmps64
  go_wp2_with fail
  have kk : ∀ i o, i < 3 → ((w.alloc (.cells #[.int .i64 2023, .int .i64 3, .int .i64 16] 117)).alloc o).cell? ⟨w.heap.size, i, none⟩ = (#[.int .i64 2023, .int .i64 3, .int .i64 16] : Array Value)[i]? := fun i o _ => ((below_new _ o).cell (p := ⟨w.heap.size, i, none⟩) (by simp)).trans (new_cell w _ _ i)
  have k0 := kk 0 (.cells #[.int .i64 2023, .int .i64 3, .int .i64 16] 117) (by decide)
  have k1 := kk 1 (.cells #[.int .i64 2023, .int .i64 3, .int .i64 16] 117) (by decide)
  have k2 := kk 2 (.cells #[.int .i64 2023, .int .i64 3, .int .i64 16] 117) (by decide)
  simp only [List.getElem?_toArray, List.getElem?_cons_succ, List.getElem?_cons_zero] at k0 k1 k2
  refine bodyPost_ret (v := .agg #[.int .i64 2023, .int .i64 3, .int .i64 16]) (by simp [results, Tryz.results64, go_sem, k0, k1, k2]) rfl ?_
  refine ⟨rfl, ?_⟩
  (repeat' (first | exact Below.refl _ _ | assumption | refine Below.drew ?_ | refine Below.alloc ?_ ?_ _ | refine Below.setCell ?_ ?_ _ | (simp; done) | (simp; omega) | omega))
set_option maxRecDepth 100000 in
set_option maxHeartbeats 1000000 in
theorem parts_day (w : World) : Calls Tryz.prog 41 #[.int .i64 45000] w fun e w' => e = .returned (.tuple #[.int .i64 2023, .int .i64 3, .int .i64 16, .int .i64 0]) ∧ Below w.heap.size w w' := by
  have HD := Lib.hid dparts_day
  go_enter Tryz.func41, Tryz.ntmps41
  go_wp2_with fail
  refine (is_day _).mono ?_
  rintro e w1 ⟨rfl, rfl⟩
  go_wp2_with fail
  refine (HD.out _).mono ?_
  rintro e w2 ⟨rfl, hB⟩
  go_wp2_with fail
  go_region
  all_goals
    go_wp2_with fail
    refine bodyPost_ret (v := .tuple #[.int .i64 2023, .int .i64 3, .int .i64 16, .int .i64 0]) (by simp [results, Tryz.results41, go_sem]) rfl ?_
    exact ⟨rfl, ((hB.alloc hB.size _).drew)⟩
end Go.Proofs.YtpknbdgmpfhcnaaGreatDoor
