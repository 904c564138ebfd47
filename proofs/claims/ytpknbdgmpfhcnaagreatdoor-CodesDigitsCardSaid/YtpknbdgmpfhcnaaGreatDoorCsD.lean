/- The walks of the reference's in, row, Place. -/
import Derived.Test.YtpknbdgmpfhcnaaGreatDoorCsC
namespace Go.Proofs.YtpknbdgmpfhcnaaGreatDoor
set_option linter.unusedVariables false
set_option linter.unusedSimpArgs false
open Go.RowKit

/-- The byte at a place. -/
theorem get_B {q : List UInt8} {i : Nat} {c : UInt8} (h : q[i]? = some c) : ∀ hh, (⟨q.toArray⟩ : ByteArray)[i]'hh = c := by
  intro hh
  obtain ⟨h1, rfl⟩ := List.getElem?_eq_some_iff.1 h
  rfl
theorem i64_nat {i n : Nat} (h : i < n) (hn : n ≤ 1000000000) : wrap64 ((i : Int) + 1) = ((i + 1 : Nat) : Int) := by unfold wrap64; omega

set_option maxHeartbeats 400000 in
theorem rin_any (c : UInt8) (s : List UInt8) (w : World) (hl : s.length ≤ 1000000) : Calls Tryz.prog 56 #[.int .u8 c.toNat, .string ⟨s.toArray⟩] w fun e w' => e = .returned (.bool (s.contains c)) ∧ w' = w := by
  go_enter Tryz.func56, Tryz.ntmps56
  go_wp2_with fail
  go_loopw [5] (fun k wr => ∃ i : Nat, k = .int .i64 i ∧ i ≤ s.length ∧ wr = w ∧ Hid ((s.drop i).contains c = s.contains c)) (fun k _ => s.length - (intOf k).toNat)
  case atStart => exact ⟨0, rfl, by omega, rfl, rfl⟩
  case round =>
    obtain ⟨i, rfl, hi, rfl, HA⟩ := hrel
    by_cases hlt : i < s.length
    · have hd := lss_nat hlt
      have hx := get_B (List.getElem?_eq_getElem hlt)
      have hs : s.drop i = s[i] :: s.drop (i + 1) := List.drop_eq_getElem_cons hlt
      have HS := Lib.hid hs; clear hs
      by_cases hk : s[i] = c
      · have hk' : ((s[i].toNat : Int) == (c.toNat : Int)) = true := by simp [hk]
        have hyes : s.contains c = true := by rw [← HA.out, HS.out]; simp [hk]
        have HY := Lib.hid hyes; clear hyes hk
        go_wp2_with fail
        go_ret
        rw [HY.out]
        exact ⟨rfl, rfl⟩
      · have hk' := ne_test hk
        have hno : (s.drop (i + 1)).contains c = s.contains c := by rw [← HA.out, HS.out, List.contains_cons]; simp [Ne.symm hk]
        have HN := Lib.hid hno; clear hno hk
        go_wp2_with fail
        refine ⟨⟨i + 1, by simp, by omega, by simp, HN.out⟩, ?_⟩
        simp only [intOf]; omega
    · have hd := lss_nat' hlt
      have hno : s.contains c = false := by
        rw [← HA.out, List.drop_of_length_le (by omega)]; rfl
      have HN := Lib.hid hno; clear hno
      go_wp2_with fail
      go_ret
      rw [HN.out]
      exact ⟨rfl, rfl⟩

set_option maxHeartbeats 400000 in
theorem rrow_any (set s : List UInt8) (at' : Nat) (w : World) (hl : s.length ≤ 1000) (hs : set.length ≤ 1000) (ha : at' ≤ s.length) : Calls Tryz.prog 57 #[.string ⟨s.toArray⟩, .int .i64 at', .string ⟨set.toArray⟩] w fun e w' => e = .returned (.int .i64 (rowL set (s.drop at')).length) ∧ w' = w := by
  go_enter Tryz.func57, Tryz.ntmps57
  go_wp2_with fail
  go_loopw [7] (fun k wr => ∃ n : Nat, k = .int .i64 n ∧ at' + n ≤ s.length ∧ wr = w ∧ Hid (n + (rowL set (s.drop (at' + n))).length = (rowL set (s.drop at')).length)) (fun k _ => s.length - (intOf k).toNat)
  case atStart => exact ⟨0, rfl, by omega, rfl, by show _ = _; simp⟩
  case round =>
    obtain ⟨n, rfl, hi, rfl, HA⟩ := hrel
    by_cases hlt : at' + n < s.length
    · have hd : decide ((at' : Int) + (n : Int) < (s.length : Int)) = true := by simp; omega
      have hx := get_B (List.getElem?_eq_getElem hlt)
      have HS := Lib.hid (List.drop_eq_getElem_cons hlt : s.drop (at' + n) = s[at' + n] :: s.drop (at' + n + 1))
      have HI := Lib.hid (rin_any s[at' + n] set wr (by omega))
      go_wp2_with fail
      refine HI.out.mono ?_
      rintro e w1 ⟨rfl, rfl⟩
      by_cases hk : set.contains s[at' + n] = true
      · have hstep : rowL set (s.drop (at' + n)) = s[at' + n] :: rowL set (s.drop (at' + (n + 1))) := by rw [HS.out]; unfold rowL; rw [List.takeWhile_cons, if_pos hk]; rfl
        have HT := Lib.hid hstep; clear hstep
        rw [hk]
        go_wp2_with fail
        refine ⟨⟨n + 1, by simp, by omega, by simp, ?_⟩, ?_⟩
        · show _ = _
          rw [← HA.out, HT.out]; simp; omega
        · simp only [intOf]; omega
      · have hk' : set.contains s[at' + n] = false := by simpa using hk
        have hstep : rowL set (s.drop (at' + n)) = [] := by rw [HS.out]; unfold rowL; rw [List.takeWhile_cons, if_neg hk]
        have HT := Lib.hid hstep; clear hstep
        rw [hk']
        clear hk hk'
        go_wp2_with fail
        go_ret
        have := HA.out
        rw [HT.out] at this
        exact ⟨ret_int (by simpa using congrArg Int.ofNat this), rfl⟩
    · have hd : decide ((at' : Int) + (n : Int) < (s.length : Int)) = false := by simp; omega
      have hno : rowL set (s.drop (at' + n)) = [] := by
        rw [List.drop_of_length_le (by omega)]; rfl
      have HN := Lib.hid hno; clear hno
      go_wp2_with fail
      go_ret
      have := HA.out
      rw [HN.out] at this
      exact ⟨ret_int (by simpa using congrArg Int.ofNat this), rfl⟩

/-- A number's place, as the reference asks it: the whole part behind a byte p. -/
def wholeR : UInt8 → Bool → Bool → List UInt8 → Option Bool
  | _, _, g, [] => some g
  | p, z, g, c :: r =>
    if c = 44 then (if p = 44 ∨ r = [] then none else wholeR 44 z g r)
    else if c = 35 then (if z = true then none else wholeR 35 z true r)
    else wholeR c (z || c == 48) true r
def fracR : Bool → List UInt8 → Bool
  | _, [] => true
  | h, c :: r => if c = 44 ∨ c = 46 ∨ (c = 48 ∧ h = true) then false else fracR (h || c == 35) r
def preP (s : List UInt8) : List UInt8 := s.takeWhile (· != 46)
def placeR (s : List UInt8) : Bool := wholeR 44 false false (preP s) == some true && fracR false (s.drop ((preP s).length + 1))
theorem preP_step (s : List UInt8) (i : Nat) (h : i < s.length) (hi : i ≤ (preP s).length) (hc : s[i] ≠ 46) : i + 1 ≤ (preP s).length := by
  induction s generalizing i with
  | nil => simp at h
  | cons x s ih =>
    unfold preP at *
    cases i with
    | zero =>
      rw [List.takeWhile_cons, if_pos (by simpa using hc)]; simp
    | succ i =>
      by_cases hx : (x != 46) = true
      · rw [List.takeWhile_cons, if_pos hx] at hi ⊢
        have := ih i (by simpa using h) (by simpa using hi) (by simpa using hc)
        simp; omega
      · rw [List.takeWhile_cons, if_neg hx] at hi
        simp at hi
theorem preP_stop (s : List UInt8) (i : Nat) (h : i < s.length) (hi : i ≤ (preP s).length) (hc : s[i] = 46) : i = (preP s).length := by
  induction s generalizing i with
  | nil => simp at h
  | cons x s ih =>
    unfold preP at *
    cases i with
    | zero =>
      have : x = 46 := by simpa using hc
      rw [List.takeWhile_cons, if_neg (by simp [this])]; simp
    | succ i =>
      by_cases hx : (x != 46) = true
      · rw [List.takeWhile_cons, if_pos hx] at hi ⊢
        have := ih i (by simpa using h) (by simpa using hi) (by simpa using hc)
        simp; omega
      · rw [List.takeWhile_cons, if_neg hx] at hi
        simp at hi
theorem preP_le (s : List UInt8) : (preP s).length ≤ s.length := (List.takeWhile_prefix _).length_le
theorem preP_take (s : List UInt8) : s.take (preP s).length = preP s := by
  have := List.takeWhile_append_dropWhile (p := (· != (46 : UInt8))) (l := s)
  have h2 := List.take_left (l₁ := preP s) (l₂ := s.dropWhile (· != (46 : UInt8)))
  unfold preP at *
  rwa [this] at h2

def prevB (p : List UInt8) (i : Nat) : UInt8 := if i = 0 then 44 else p.getD (i - 1) 44
theorem prevB_succ {p : List UInt8} {i : Nat} (h : i < p.length) : prevB p (i + 1) = p[i] := by unfold prevB; simp [h]
theorem wholeR_comma_no {p : UInt8} {z g : Bool} {r : List UInt8} (h : p = 44 ∨ r = []) : wholeR p z g (44 :: r) = none := by unfold wholeR; rw [if_pos rfl, if_pos h]
theorem wholeR_comma {p : UInt8} {z g : Bool} {r : List UInt8} (h : p ≠ 44) (h' : r ≠ []) : wholeR p z g (44 :: r) = wholeR 44 z g r := by
  rw [wholeR, if_pos rfl, if_neg (by rintro (e | e); exact h e; exact h' e)]
theorem wholeR_hash_no {p : UInt8} {g : Bool} {r : List UInt8} : wholeR p true g (35 :: r) = none := by unfold wholeR; simp
theorem wholeR_hash {p : UInt8} {g : Bool} {r : List UInt8} : wholeR p false g (35 :: r) = wholeR 35 false true r := by rw [wholeR]; simp
theorem wholeR_sign {p c : UInt8} {z g : Bool} {r : List UInt8} (h : c ≠ 44) (h' : c ≠ 35) : wholeR p z g (c :: r) = wholeR c (z || c == 48) true r := by rw [wholeR, if_neg h, if_neg h']
theorem fracR_no {h : Bool} {c : UInt8} {r : List UInt8} (hc : c = 44 ∨ c = 46 ∨ (c = 48 ∧ h = true)) : fracR h (c :: r) = false := by rw [fracR, if_pos hc]
theorem fracR_yes {h : Bool} {c : UInt8} {r : List UInt8} (hc : ¬ (c = 44 ∨ c = 46 ∨ (c = 48 ∧ h = true))) : fracR h (c :: r) = fracR (h || c == 35) r := by rw [fracR, if_neg hc]
theorem placeR_none {s p : List UInt8} (hp : preP s = p) (h : wholeR 44 false false p = none) : placeR s = false := by unfold placeR; rw [hp, h]; rfl
theorem placeR_some {s p : List UInt8} {b : Bool} (hp : preP s = p) (h : wholeR 44 false false p = some b) : placeR s = (b && fracR false (s.drop (p.length + 1))) := by unfold placeR; rw [hp, h]; cases b <;> rfl
theorem sign_one {g : Int} (h : 0 ≤ g) : (g + 1 != 0) = true := by simp; omega
set_option maxHeartbeats 1000000 in
theorem rplace_any (s : List UInt8) (w : World) (hl : s.length ≤ 1000) : Calls Tryz.prog 58 #[.string ⟨s.toArray⟩] w fun e w' => e = .returned (.bool (placeR s)) ∧ w' = w := by
  go_enter Tryz.func58, Tryz.ntmps58
  go_wp2_with fail
  have HP := Lib.hid (preP_le s)
  go_loopw [3] (fun k wr => ∃ n : Nat, k = .int .i64 n ∧ n ≤ (preP s).length ∧ wr = w) (fun k _ => s.length - (intOf k).toNat)
  case atStart => exact ⟨0, rfl, by omega, rfl⟩
  case round =>
    obtain ⟨n, rfl, hi, rfl⟩ := hrel
    have HI := Lib.hid hi; clear hi
    obtain ⟨p, hp⟩ : ∃ p, preP s = p := ⟨_, rfl⟩
    have HPP := Lib.hid hp; clear hp
    by_cases hlt : n < s.length
    · have hd := lss_nat hlt
      have hx := get_B (List.getElem?_eq_getElem hlt)
      by_cases hk : s[n] = 46
      · have hk' : ((s[n].toNat : Int) == 46) = true := by simp [hk]
        have he := preP_stop s n hlt HI.out hk
        have hex : (⟨s.toArray⟩ : ByteArray).extract 0 n = ⟨p.toArray⟩ := by rw [he, extract_front]; show B ((L (⟨s.toArray⟩ : ByteArray)).take _) = _; rw [L_mk, preP_take, HPP.out]; rfl
        have hn : p.length = n := by rw [← HPP.out, he]
        have HE := Lib.hid he; clear he hk
        have HN := Lib.hid hn; clear hn
        have hpl : p.length ≤ 1000 := by rw [HN.out]; omega
        go_wp2_with fail
        clear hd hx hk'
        generalize s[n] = c0 at *
        (
          go_loopw [5, 6, 7] (fun a b k w2 => ∃ (g : Int) (z : Bool) (i : Nat), a = .int .i64 g ∧ b = .bool z ∧ k = .int .i64 i ∧ i ≤ p.length ∧ 0 ≤ g ∧ g ≤ i ∧ w2 = wr ∧ Hid (wholeR 44 false false p = wholeR (prevB p i) z (g != 0) (p.drop i))) (fun _ _ k _ => p.length - (intOf k).toNat)
          case atStart => exact ⟨0, false, 0, rfl, rfl, rfl, by omega, by omega, by omega, rfl, by show _ = _; rfl⟩
          case round =>
            obtain ⟨g, z, i, rfl, rfl, rfl, hi, hg0, hg1, rfl, HA⟩ := hrel
            by_cases hlt : i < p.length
            · have hd := lss_nat hlt
              have hx := get_B (List.getElem?_eq_getElem hlt)
              have HS := Lib.hid (List.drop_eq_getElem_cons hlt : p.drop i = p[i] :: p.drop (i + 1))
              have HV := Lib.hid (prevB_succ hlt)
              generalize p[i] = c at *
              by_cases h44 : c = 44
              · have t44 : ((c.toNat : Int) == 44) = true := by simp [h44]
                subst h44
                cases i with
                | zero =>
                  have hno := placeR_none HPP.out (by rw [HA.out, HS.out]; exact wholeR_comma_no (.inl rfl))
                  have HNo := Lib.hid hno; clear hno
                  go_wp2_with fail
                  go_ret
                  exact ⟨by rw [HNo.out]; rfl, rfl⟩
                | succ j =>
                  have hj : j < p.length := by omega
                  have hy := get_B (List.getElem?_eq_getElem hj)
                  have HW := Lib.hid (prevB_succ hj)
                  generalize p[j] = y at *
                  by_cases hend : j + 2 = p.length
                  · have hno := placeR_none HPP.out (by rw [HA.out, HS.out]; exact wholeR_comma_no (.inr (List.drop_of_length_le (by omega))))
                    have HNo := Lib.hid hno; clear hno
                    have t2 : ((j : Int) + 1 + 1 == (p.length : Int)) = true := by simp; omega
                    go_wp2_with fail
                    go_ret
                    exact ⟨by rw [HNo.out]; rfl, rfl⟩
                  · have t2 : ((j : Int) + 1 + 1 == (p.length : Int)) = false := by simp; omega
                    have t3 : (((j : Int) + 1 == 0) = false) := by simp; omega
                    by_cases hy44 : y = 44
                    · have t4 : ((y.toNat : Int) == 44) = true := by simp [hy44]
                      have hno := placeR_none HPP.out (by rw [HA.out, HS.out]; exact wholeR_comma_no (.inl (by rw [HW.out, hy44])))
                      have HNo := Lib.hid hno; clear hno hy44 hend
                      go_wp2_with fail
                      go_ret
                      exact ⟨by rw [HNo.out]; rfl, rfl⟩
                    · have t4 : ((y.toNat : Int) == 44) = false := ne_test hy44
                      have hgo := HA.out
                      rw [HS.out, wholeR_comma (by rw [HW.out]; exact hy44) (by intro e; have := congrArg List.length e; simp at this; omega)] at hgo
                      replace hgo := hgo.trans (show _ = wholeR (prevB p (j + 1 + 1)) z (g != 0) (p.drop (j + 1 + 1)) by rw [HV.out])
                      have HGo := Lib.hid hgo; clear hgo hy44 hend
                      go_wp2_with fail
                      exact ⟨⟨g, z, j + 2, rfl, rfl, by simp; omega, by omega, hg0, by simp; omega, by simp, HGo.out⟩, by simp only [intOf]; omega⟩
              · have t44 : ((c.toNat : Int) == 44) = false := ne_test h44
                by_cases h35 : c = 35
                · have t35 : ((c.toNat : Int) == 35) = true := by simp [h35]
                  subst h35
                  clear h44
                  cases z
                  · have hgo := HA.out
                    rw [HS.out, wholeR_hash, ← sign_one hg0, ← HV.out] at hgo
                    have HGo := Lib.hid hgo; clear hgo
                    go_wp2_with fail
                    exact ⟨⟨g + 1, false, i + 1, rfl, rfl, by simp, by omega, by omega, by omega, by simp, HGo.out⟩, by simp only [intOf]; omega⟩
                  · have hno := placeR_none HPP.out (by rw [HA.out, HS.out]; exact wholeR_hash_no)
                    have HNo := Lib.hid hno; clear hno
                    go_wp2_with fail
                    go_ret
                    exact ⟨by rw [HNo.out]; rfl, rfl⟩
                · have t35 : ((c.toNat : Int) == 35) = false := ne_test h35
                  have hgo := HA.out
                  rw [HS.out, wholeR_sign h44 h35, ← sign_one hg0] at hgo
                  by_cases h48 : c = 48
                  · have t48 : ((c.toNat : Int) == 48) = true := by simp [h48]
                    rw [← HV.out, show (prevB p (i + 1) == 48) = true by rw [HV.out, h48]; rfl, Bool.or_true] at hgo
                    have HGo := Lib.hid hgo; clear hgo
                    clear h35 h44 h48
                    go_wp2_with fail
                    exact ⟨⟨g + 1, true, i + 1, rfl, rfl, by simp, by omega, by omega, by omega, by simp, HGo.out⟩, by simp only [intOf]; omega⟩
                  · have t48 : ((c.toNat : Int) == 48) = false := ne_test h48
                    rw [← HV.out, show (prevB p (i + 1) == 48) = false by rw [HV.out]; simpa using h48, Bool.or_false] at hgo
                    have HGo := Lib.hid hgo; clear hgo
                    clear h35 h44 h48
                    go_wp2_with fail
                    exact ⟨⟨g + 1, z, i + 1, rfl, rfl, by simp, by omega, by omega, by omega, by simp, HGo.out⟩, by simp only [intOf]; omega⟩
            · have hd := lss_nat' hlt
              have hend := HA.out
              rw [List.drop_of_length_le (by omega), wholeR] at hend
              have hpl2 := placeR_some HPP.out hend
              have HQ := Lib.hid hpl2; clear hend hpl2 HA
              by_cases hg : g = 0
              · have tg : (g == 0) = true := by simp [hg]
                subst hg
                go_wp2_with fail
                go_ret
                exact ⟨by rw [HQ.out]; rfl, rfl⟩
              · have tg : (g == 0) = false := by simpa using hg
                have HQ2 : Hid (placeR s = fracR false (s.drop (p.length + 1))) := by show _ = _; rw [HQ.out]; simp [hg]
                clear HQ hg
                have hni : ((i : Int) < p.length) = False := by simpa using hlt
                go_wp2_with fail
                clear hd
                go_loopw [8, 9] (fun a k w2 => ∃ (h : Bool) (j : Nat), a = .bool h ∧ k = .int .i64 j ∧ j ≤ s.length + 1 ∧ w2 = wr ∧ Hid (placeR s = fracR h (s.drop j))) (fun _ k _ => s.length - (intOf k).toNat)
                case atStart => exact ⟨false, n + 1, rfl, by simp, by have := HP.out; have := HE.out; omega, rfl, by show _ = _; rw [HQ2.out, HN.out]⟩
                case round =>
                  obtain ⟨h, j, rfl, rfl, hj, rfl, HB⟩ := hrel
                  by_cases hlt2 : j < s.length
                  · have hd2 := lss_nat hlt2
                    have hx2 := get_B (List.getElem?_eq_getElem hlt2)
                    have HS2 := Lib.hid (List.drop_eq_getElem_cons hlt2 : s.drop j = s[j] :: s.drop (j + 1))
                    generalize s[j] = c at *
                    by_cases h44 : c = 44
                    · have t44 : ((c.toNat : Int) == 44) = true := by simp [h44]
                      have hno : placeR s = false := by rw [HB.out, HS2.out]; exact fracR_no (.inl h44)
                      have HNo := Lib.hid hno; clear hno h44
                      go_wp2_with fail
                      go_ret
                      exact ⟨by rw [HNo.out]; rfl, rfl⟩
                    · have t44 : ((c.toNat : Int) == 44) = false := ne_test h44
                      by_cases h46 : c = 46
                      · have t46 : ((c.toNat : Int) == 46) = true := by simp [h46]
                        have hno : placeR s = false := by rw [HB.out, HS2.out]; exact fracR_no (.inr (.inl h46))
                        have HNo := Lib.hid hno; clear hno h44 h46
                        go_wp2_with fail
                        go_ret
                        exact ⟨by rw [HNo.out]; rfl, rfl⟩
                      · have t46 : ((c.toNat : Int) == 46) = false := ne_test h46
                        by_cases h48 : c = 48
                        · have t48 : ((c.toNat : Int) == 48) = true := by simp [h48]
                          cases h
                          · have hgo := HB.out
                            rw [HS2.out, fracR_yes (by simp [h44, h46])] at hgo
                            have t35 : ((c.toNat : Int) == 35) = false := by simp [h48]
                            rw [show (c == 35) = false by simp [h48], Bool.or_false] at hgo
                            have HGo := Lib.hid hgo; clear hgo h44 h46 h48
                            go_wp2_with fail
                            exact ⟨⟨false, j + 1, rfl, by simp, by omega, by simp, HGo.out⟩, by simp only [intOf]; omega⟩
                          · have hno : placeR s = false := by rw [HB.out, HS2.out]; exact fracR_no (.inr (.inr ⟨h48, rfl⟩))
                            have HNo := Lib.hid hno; clear hno h44 h46 h48
                            go_wp2_with fail
                            go_ret
                            exact ⟨by rw [HNo.out]; rfl, rfl⟩
                        · have t48 : ((c.toNat : Int) == 48) = false := ne_test h48
                          have hgo := HB.out
                          rw [HS2.out, fracR_yes (by simp [h44, h46, h48])] at hgo
                          by_cases h35 : c = 35
                          · have t35 : ((c.toNat : Int) == 35) = true := by simp [h35]
                            rw [show (c == 35) = true by simp [h35], Bool.or_true] at hgo
                            have HGo := Lib.hid hgo; clear hgo h44 h46 h48 h35
                            cases h <;>
                            · go_wp2_with fail
                              exact ⟨⟨true, j + 1, rfl, by simp, by omega, by simp, HGo.out⟩, by simp only [intOf]; omega⟩
                          · have t35 : ((c.toNat : Int) == 35) = false := ne_test h35
                            rw [show (c == 35) = false by simpa using h35, Bool.or_false] at hgo
                            have HGo := Lib.hid hgo; clear hgo h44 h46 h48 h35
                            cases h <;>
                            · go_wp2_with fail
                              exact ⟨⟨_, j + 1, rfl, by simp, by omega, by simp, HGo.out⟩, by simp only [intOf]; omega⟩
                  · have hd2 := lss_nat' hlt2
                    have hyes : placeR s = true := by rw [HB.out, List.drop_of_length_le (by omega)]; cases h <;> rfl
                    have HY := Lib.hid hyes; clear hyes
                    go_wp2_with fail
                    go_ret
                    exact ⟨by rw [HY.out]; rfl, rfl⟩)
      · have hk' : ((s[n].toNat : Int) == 46) = false := ne_test hk
        have HN := Lib.hid (preP_step s n hlt HI.out hk)
        clear hk
        go_wp2_with fail
        exact ⟨⟨n + 1, by simp, HN.out, by simp⟩, by simp only [intOf]; omega⟩
    · have hd := lss_nat' hlt
      have he : n = (preP s).length := by have := HP.out; have := HI.out; omega
      have hex : (⟨s.toArray⟩ : ByteArray).extract 0 n = ⟨p.toArray⟩ := by rw [he, extract_front]; show B ((L (⟨s.toArray⟩ : ByteArray)).take _) = _; rw [L_mk, preP_take, HPP.out]; rfl
      have hn : p.length = n := by rw [← HPP.out, he]
      have hle : (n : Int) ≤ (s.length : Int) := by have := HP.out; omega
      have HE := Lib.hid he; clear he
      have HN := Lib.hid hn; clear hn
      have hpl : p.length ≤ 1000 := by rw [HN.out]; omega
      go_wp2_with fail
      clear hd
      (
        go_loopw [5, 6, 7] (fun a b k w2 => ∃ (g : Int) (z : Bool) (i : Nat), a = .int .i64 g ∧ b = .bool z ∧ k = .int .i64 i ∧ i ≤ p.length ∧ 0 ≤ g ∧ g ≤ i ∧ w2 = wr ∧ Hid (wholeR 44 false false p = wholeR (prevB p i) z (g != 0) (p.drop i))) (fun _ _ k _ => p.length - (intOf k).toNat)
        case atStart => exact ⟨0, false, 0, rfl, rfl, rfl, by omega, by omega, by omega, rfl, by show _ = _; rfl⟩
        case round =>
          obtain ⟨g, z, i, rfl, rfl, rfl, hi, hg0, hg1, rfl, HA⟩ := hrel
          by_cases hlt : i < p.length
          · have hd := lss_nat hlt
            have hx := get_B (List.getElem?_eq_getElem hlt)
            have HS := Lib.hid (List.drop_eq_getElem_cons hlt : p.drop i = p[i] :: p.drop (i + 1))
            have HV := Lib.hid (prevB_succ hlt)
            generalize p[i] = c at *
            by_cases h44 : c = 44
            · have t44 : ((c.toNat : Int) == 44) = true := by simp [h44]
              subst h44
              cases i with
              | zero =>
                have hno := placeR_none HPP.out (by rw [HA.out, HS.out]; exact wholeR_comma_no (.inl rfl))
                have HNo := Lib.hid hno; clear hno
                go_wp2_with fail
                go_ret
                exact ⟨by rw [HNo.out]; rfl, rfl⟩
              | succ j =>
                have hj : j < p.length := by omega
                have hy := get_B (List.getElem?_eq_getElem hj)
                have HW := Lib.hid (prevB_succ hj)
                generalize p[j] = y at *
                by_cases hend : j + 2 = p.length
                · have hno := placeR_none HPP.out (by rw [HA.out, HS.out]; exact wholeR_comma_no (.inr (List.drop_of_length_le (by omega))))
                  have HNo := Lib.hid hno; clear hno
                  have t2 : ((j : Int) + 1 + 1 == (p.length : Int)) = true := by simp; omega
                  go_wp2_with fail
                  go_ret
                  exact ⟨by rw [HNo.out]; rfl, rfl⟩
                · have t2 : ((j : Int) + 1 + 1 == (p.length : Int)) = false := by simp; omega
                  have t3 : (((j : Int) + 1 == 0) = false) := by simp; omega
                  by_cases hy44 : y = 44
                  · have t4 : ((y.toNat : Int) == 44) = true := by simp [hy44]
                    have hno := placeR_none HPP.out (by rw [HA.out, HS.out]; exact wholeR_comma_no (.inl (by rw [HW.out, hy44])))
                    have HNo := Lib.hid hno; clear hno hy44 hend
                    go_wp2_with fail
                    go_ret
                    exact ⟨by rw [HNo.out]; rfl, rfl⟩
                  · have t4 : ((y.toNat : Int) == 44) = false := ne_test hy44
                    have hgo := HA.out
                    rw [HS.out, wholeR_comma (by rw [HW.out]; exact hy44) (by intro e; have := congrArg List.length e; simp at this; omega)] at hgo
                    replace hgo := hgo.trans (show _ = wholeR (prevB p (j + 1 + 1)) z (g != 0) (p.drop (j + 1 + 1)) by rw [HV.out])
                    have HGo := Lib.hid hgo; clear hgo hy44 hend
                    go_wp2_with fail
                    exact ⟨⟨g, z, j + 2, rfl, rfl, by simp; omega, by omega, hg0, by simp; omega, by simp, HGo.out⟩, by simp only [intOf]; omega⟩
            · have t44 : ((c.toNat : Int) == 44) = false := ne_test h44
              by_cases h35 : c = 35
              · have t35 : ((c.toNat : Int) == 35) = true := by simp [h35]
                subst h35
                clear h44
                cases z
                · have hgo := HA.out
                  rw [HS.out, wholeR_hash, ← sign_one hg0, ← HV.out] at hgo
                  have HGo := Lib.hid hgo; clear hgo
                  go_wp2_with fail
                  exact ⟨⟨g + 1, false, i + 1, rfl, rfl, by simp, by omega, by omega, by omega, by simp, HGo.out⟩, by simp only [intOf]; omega⟩
                · have hno := placeR_none HPP.out (by rw [HA.out, HS.out]; exact wholeR_hash_no)
                  have HNo := Lib.hid hno; clear hno
                  go_wp2_with fail
                  go_ret
                  exact ⟨by rw [HNo.out]; rfl, rfl⟩
              · have t35 : ((c.toNat : Int) == 35) = false := ne_test h35
                have hgo := HA.out
                rw [HS.out, wholeR_sign h44 h35, ← sign_one hg0] at hgo
                by_cases h48 : c = 48
                · have t48 : ((c.toNat : Int) == 48) = true := by simp [h48]
                  rw [← HV.out, show (prevB p (i + 1) == 48) = true by rw [HV.out, h48]; rfl, Bool.or_true] at hgo
                  have HGo := Lib.hid hgo; clear hgo
                  clear h35 h44 h48
                  go_wp2_with fail
                  exact ⟨⟨g + 1, true, i + 1, rfl, rfl, by simp, by omega, by omega, by omega, by simp, HGo.out⟩, by simp only [intOf]; omega⟩
                · have t48 : ((c.toNat : Int) == 48) = false := ne_test h48
                  rw [← HV.out, show (prevB p (i + 1) == 48) = false by rw [HV.out]; simpa using h48, Bool.or_false] at hgo
                  have HGo := Lib.hid hgo; clear hgo
                  clear h35 h44 h48
                  go_wp2_with fail
                  exact ⟨⟨g + 1, z, i + 1, rfl, rfl, by simp, by omega, by omega, by omega, by simp, HGo.out⟩, by simp only [intOf]; omega⟩
          · have hd := lss_nat' hlt
            have hend := HA.out
            rw [List.drop_of_length_le (by omega), wholeR] at hend
            have hpl2 := placeR_some HPP.out hend
            have HQ := Lib.hid hpl2; clear hend hpl2 HA
            by_cases hg : g = 0
            · have tg : (g == 0) = true := by simp [hg]
              subst hg
              go_wp2_with fail
              go_ret
              exact ⟨by rw [HQ.out]; rfl, rfl⟩
            · have tg : (g == 0) = false := by simpa using hg
              have HQ2 : Hid (placeR s = fracR false (s.drop (p.length + 1))) := by show _ = _; rw [HQ.out]; simp [hg]
              clear HQ hg
              have hni : ((i : Int) < p.length) = False := by simpa using hlt
              go_wp2_with fail
              clear hd
              go_loopw [8, 9] (fun a k w2 => ∃ (h : Bool) (j : Nat), a = .bool h ∧ k = .int .i64 j ∧ j ≤ s.length + 1 ∧ w2 = wr ∧ Hid (placeR s = fracR h (s.drop j))) (fun _ k _ => s.length - (intOf k).toNat)
              case atStart => exact ⟨false, n + 1, rfl, by simp, by have := HP.out; have := HE.out; omega, rfl, by show _ = _; rw [HQ2.out, HN.out]⟩
              case round =>
                obtain ⟨h, j, rfl, rfl, hj, rfl, HB⟩ := hrel
                by_cases hlt2 : j < s.length
                · have hd2 := lss_nat hlt2
                  have hx2 := get_B (List.getElem?_eq_getElem hlt2)
                  have HS2 := Lib.hid (List.drop_eq_getElem_cons hlt2 : s.drop j = s[j] :: s.drop (j + 1))
                  generalize s[j] = c at *
                  by_cases h44 : c = 44
                  · have t44 : ((c.toNat : Int) == 44) = true := by simp [h44]
                    have hno : placeR s = false := by rw [HB.out, HS2.out]; exact fracR_no (.inl h44)
                    have HNo := Lib.hid hno; clear hno h44
                    go_wp2_with fail
                    go_ret
                    exact ⟨by rw [HNo.out]; rfl, rfl⟩
                  · have t44 : ((c.toNat : Int) == 44) = false := ne_test h44
                    by_cases h46 : c = 46
                    · have t46 : ((c.toNat : Int) == 46) = true := by simp [h46]
                      have hno : placeR s = false := by rw [HB.out, HS2.out]; exact fracR_no (.inr (.inl h46))
                      have HNo := Lib.hid hno; clear hno h44 h46
                      go_wp2_with fail
                      go_ret
                      exact ⟨by rw [HNo.out]; rfl, rfl⟩
                    · have t46 : ((c.toNat : Int) == 46) = false := ne_test h46
                      by_cases h48 : c = 48
                      · have t48 : ((c.toNat : Int) == 48) = true := by simp [h48]
                        cases h
                        · have hgo := HB.out
                          rw [HS2.out, fracR_yes (by simp [h44, h46])] at hgo
                          have t35 : ((c.toNat : Int) == 35) = false := by simp [h48]
                          rw [show (c == 35) = false by simp [h48], Bool.or_false] at hgo
                          have HGo := Lib.hid hgo; clear hgo h44 h46 h48
                          go_wp2_with fail
                          exact ⟨⟨false, j + 1, rfl, by simp, by omega, by simp, HGo.out⟩, by simp only [intOf]; omega⟩
                        · have hno : placeR s = false := by rw [HB.out, HS2.out]; exact fracR_no (.inr (.inr ⟨h48, rfl⟩))
                          have HNo := Lib.hid hno; clear hno h44 h46 h48
                          go_wp2_with fail
                          go_ret
                          exact ⟨by rw [HNo.out]; rfl, rfl⟩
                      · have t48 : ((c.toNat : Int) == 48) = false := ne_test h48
                        have hgo := HB.out
                        rw [HS2.out, fracR_yes (by simp [h44, h46, h48])] at hgo
                        by_cases h35 : c = 35
                        · have t35 : ((c.toNat : Int) == 35) = true := by simp [h35]
                          rw [show (c == 35) = true by simp [h35], Bool.or_true] at hgo
                          have HGo := Lib.hid hgo; clear hgo h44 h46 h48 h35
                          cases h <;>
                          · go_wp2_with fail
                            exact ⟨⟨true, j + 1, rfl, by simp, by omega, by simp, HGo.out⟩, by simp only [intOf]; omega⟩
                        · have t35 : ((c.toNat : Int) == 35) = false := ne_test h35
                          rw [show (c == 35) = false by simpa using h35, Bool.or_false] at hgo
                          have HGo := Lib.hid hgo; clear hgo h44 h46 h48 h35
                          cases h <;>
                          · go_wp2_with fail
                            exact ⟨⟨_, j + 1, rfl, by simp, by omega, by simp, HGo.out⟩, by simp only [intOf]; omega⟩
                · have hd2 := lss_nat' hlt2
                  have hyes : placeR s = true := by rw [HB.out, List.drop_of_length_le (by omega)]; cases h <;> rfl
                  have HY := Lib.hid hyes; clear hyes
                  go_wp2_with fail
                  go_ret
                  exact ⟨by rw [HY.out]; rfl, rfl⟩)
end Go.Proofs.YtpknbdgmpfhcnaaGreatDoor
