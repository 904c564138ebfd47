/- The walk of num.Parse, at any text. -/
import Derived.Test.YtpknbdgmpfhcnaaGreatDoorCsM
import Derived.Test.YtpknbdgmpfhcnaaGreatDoorLf
import Derived.Test.YtpknbdgmpfhcnaaGreatDoorShelf2
import Derived.Lib.AtoiErrMem
namespace Go.Proofs.YtpknbdgmpfhcnaaGreatDoor
set_option linter.unusedVariables false
set_option linter.unusedSimpArgs false
open Go.RowKit
theorem info256 : (Tryz.prog.info? 104).map (fun i => (i.zero, i.size)) = some (some (.agg (Array.replicate 256 (.bool false))), 256) := by kernel_rfl
set_option maxRecDepth 100000 in
set_option maxHeartbeats 1000000 in
theorem digits_any (s : List UInt8) (hl : s.length ≤ 1000) (w : World) : Calls Tryz.prog 30 #[.string ⟨s.toArray⟩] w fun e w' => e = .returned (.bool (digitsB s)) ∧ Below w.heap.size w w' := by
  by_cases h0 : s = []
  · subst h0
    go_enter Tryz.func30, Tryz.ntmps30
    go_wp2_with fail
    go_ret
    exact ⟨rfl, Below.refl _ _⟩
  · have HE : Hid (digitsB s = (Lib.trimS s digSet).isEmpty) := by
      show _ = _
      rw [trim_dig]; unfold digitsB
      have : s.isEmpty = false := by simpa using h0
      rw [this]; rfl
    obtain ⟨t, ht⟩ : ∃ t, Lib.trimS s digSet = t := ⟨_, rfl⟩
    rw [ht] at HE
    have HT := Lib.hid (Any.strings_Trim_laid Tryz.lays160 info256 ⟨s.toArray⟩ ⟨#[48, 49, 50, 51, 52, 53, 54, 55, 56, 57]⟩ w (by show s.length ≤ _; omega) (by decide) (ascii_of_all (by decide)))
    have ht' : Lib.trimS (⟨s.toArray⟩ : ByteArray).data.toList (⟨#[48, 49, 50, 51, 52, 53, 54, 55, 56, 57]⟩ : ByteArray).data.toList = t := ht
    rw [ht'] at HT
    clear ht ht'
    have hs0 : s.isEmpty = false := by simpa using h0
    go_enter Tryz.func30, Tryz.ntmps30
    go_wp2_with fail
    refine HT.out.mono ?_
    rintro e w1 ⟨rfl, hb⟩
    have HB := Lib.hid hb
    clear hb
    go_wp2_with fail
    go_ret
    exact ⟨by rw [HE.out]; rfl, HB.out⟩
/-- What a text is parsed as: a number, and 0, or a reason. -/
def parseL (s : List UInt8) : Int × Int :=
  if 40 < s.length then (0, 5) else
  let c := Lib.cut (Lib.trimPrefix s [45]) [46]
  if digitsB c.1 = false ∨ (c.2.2 = true ∧ (digitsB c.2.1 = false ∨ 6 < c.2.1.length)) then (0, 5) else
  if 13 < (Lib.trimLeftB c.1 48).length then (0, 3) else
  let n := foldV 0 (Lib.trimLeftB c.1 48 ++ (c.2.1 ++ [48, 48, 48, 48, 48, 48]).take 6)
  if 1000000000000000000 < n then (0, 3) else (if Lib.hasPrefix s [45] = true then -(n : Int) else n, 0)
theorem trimPrefix_len (s p : List UInt8) : (Lib.trimPrefix s p).length ≤ s.length := by
  unfold Lib.trimPrefix; split <;> simp
theorem cut_no (l sep : List UInt8) (h : (Lib.cut l sep).2.2 = false) : (Lib.cut l sep).2.1 = [] := by
  unfold Lib.cut at *
  split at h
  · simp at h
  · rename_i hh; rw [if_neg hh]
theorem trimLeft_mem {l : List UInt8} {c x : UInt8} (h : x ∈ Lib.trimLeftB l c) : x ∈ l := (List.dropWhile_suffix _).mem h
theorem digitsB_mem {s : List UInt8} (h : digitsB s = true) : ∀ c ∈ s, isDig c := by
  unfold digitsB at h
  simp at h
  intro c hc
  have := h.2 c hc
  exact (isDigB_iff c).1 this
set_option maxRecDepth 100000 in
set_option maxHeartbeats 2000000 in
theorem parse_any (s : List UInt8) (w : World) (hG : G w) : Calls Tryz.prog 19 #[.string ⟨s.toArray⟩] w fun e w' => e = .returned (.tuple #[.int .i64 (parseL s).1, .int .i64 (parseL s).2]) ∧ Below w.heap.size w w' := by
  by_cases h40 : 40 < s.length
  · have t40 : decide ((40 : Int) < (s.length : Int)) = true := by simp; omega
    have HV : Hid (parseL s = (0, 5)) := by show _ = _; unfold parseL; rw [if_pos h40]
    have HB : Hid (Below w.heap.size w w) := Below.refl _ _
    go_enter Tryz.func19, Tryz.ntmps19
    go_wp2_with fail
    (
      refine bodyPost_ret (v := .tuple #[.int .i64 0, .int .i64 5]) (by simp [results, Tryz.results19, go_sem]) rfl ?_
      exact ⟨by rw [HV.out], HB.out⟩)
  · have t40 : decide ((40 : Int) < (s.length : Int)) = false := by simp; omega
    obtain ⟨t, ht⟩ : ∃ t, Lib.trimPrefix s [45] = t := ⟨_, rfl⟩
    obtain ⟨m, hm⟩ : ∃ m, Lib.hasPrefix s [45] = m := ⟨_, rfl⟩
    obtain ⟨x, y, z, hc⟩ : ∃ x y z, Lib.cut t [46] = (x, y, z) := ⟨_, _, _, rfl⟩
    have htl : t.length ≤ 40 := by have := trimPrefix_len s [45]; rw [ht] at this; omega
    have hcl := cut_len t [46]
    have hcn := cut_no t [46]
    rw [hc] at hcl hcn
    obtain ⟨hxl, hyl⟩ := hcl
    simp only at hxl hyl hcn
    have HCn := Lib.hid hcn
    have HV0 : Hid (parseL s = if digitsB x = false ∨ (z = true ∧ (digitsB y = false ∨ 6 < y.length)) then (0, 5) else if 13 < (Lib.trimLeftB x 48).length then (0, 3) else if 1000000000000000000 < foldV 0 (Lib.trimLeftB x 48 ++ (y ++ [48, 48, 48, 48, 48, 48]).take 6) then (0, 3) else (if m = true then -(foldV 0 (Lib.trimLeftB x 48 ++ (y ++ [48, 48, 48, 48, 48, 48]).take 6) : Int) else foldV 0 (Lib.trimLeftB x 48 ++ (y ++ [48, 48, 48, 48, 48, 48]).take 6), 0)) := by
      show _ = _; unfold parseL; rw [if_neg h40, ht, hc, hm]
    have HP : Hid (∀ w, Calls Tryz.prog 28 #[.string ⟨s.toArray⟩, .string ⟨#[45]⟩] w fun e w' => e = .returned (.tuple #[.string ⟨t.toArray⟩, .bool m]) ∧ w' = w) := by
      intro w
      have := Tryz.strings_CutPrefix ⟨s.toArray⟩ ⟨#[45]⟩ w
      have e1 : Lib.trimPrefix (⟨s.toArray⟩ : ByteArray).data.toList (⟨#[45]⟩ : ByteArray).data.toList = t := ht
      have e2 : Lib.hasPrefix (⟨s.toArray⟩ : ByteArray).data.toList (⟨#[45]⟩ : ByteArray).data.toList = m := hm
      rw [e1, e2] at this
      exact this
    have HC := Lib.hid hc; have HG := Lib.hid hG
    obtain ⟨d1, hd1⟩ : ∃ d1, digitsB x = d1 := ⟨_, rfl⟩
    have HD1 := Lib.hid hd1
    rw [hd1] at HV0
    clear ht hm hc hd1 hG h40 hcn
    go_enter Tryz.func19, Tryz.ntmps19
    go_wp2_with fail
    refine (HP.out _).mono ?_
    rintro e w1 ⟨rfl, rfl⟩
    go_wp2_with fail
    refine (c_Cut ⟨t.toArray⟩ ⟨#[46]⟩ x y z HC.out _ (by show t.length < _; omega) HG.out).mono ?_
    rintro e w2 ⟨rfl, k, rfl⟩
    have HB0 : Hid (Below w1.heap.size w1 (w1.drewN k)) := below_drewN (Below.refl _ _) k
    go_wp2_with fail
    refine (digits_any x (by omega) _).mono ?_
    rintro e w3 ⟨rfl, hb⟩
    rw [HD1.out]
    have HB1 : Hid (Below w1.heap.size w1 w3) := below_seq HB0.out hb
    clear hb
    cases d1 with
    | false =>
      have HV : Hid (parseL s = (0, 5)) := by show _ = _; rw [HV0.out, if_pos (.inl rfl)]
      have HB := HB1
      go_wp2_with fail
      (
        refine bodyPost_ret (v := .tuple #[.int .i64 0, .int .i64 5]) (by simp [results, Tryz.results19, go_sem]) rfl ?_
        exact ⟨by rw [HV.out], HB.out⟩)
    | true =>
      have HXd := Lib.hid (digitsB_mem HD1.out)
      cases z with
      | false =>
        have hy0 := HCn.out rfl
        have HYd : Hid ((∀ c ∈ y, isDig c) ∧ y.length ≤ 6) := by rw [hy0]; exact ⟨(by intro c hc; cases hc), by simp⟩
        have HV1 : Hid (parseL s = if 13 < (Lib.trimLeftB x 48).length then (0, 3) else if 1000000000000000000 < foldV 0 (Lib.trimLeftB x 48 ++ (y ++ [48, 48, 48, 48, 48, 48]).take 6) then (0, 3) else (if m = true then -(foldV 0 (Lib.trimLeftB x 48 ++ (y ++ [48, 48, 48, 48, 48, 48]).take 6) : Int) else foldV 0 (Lib.trimLeftB x 48 ++ (y ++ [48, 48, 48, 48, 48, 48]).take 6), 0)) := by
          show _ = _; rw [HV0.out, if_neg (by simp)]
        clear hy0
        go_wp2_with fail
        (
          obtain ⟨x2, hx2⟩ : ∃ x2, Lib.trimLeftB x 48 = x2 := ⟨_, rfl⟩
          have HX2 := Lib.hid hx2
          have hx2l : x2.length ≤ x.length := trimLeftB_len _ _ _ hx2
          have HX2d : Hid (∀ c ∈ x2, isDig c) := by intro c hc; rw [← hx2] at hc; exact HXd.out c (trimLeft_mem hc)
          rw [hx2] at HV1
          clear hx2
          refine (c_TrimLeft x x2 48 HX2.out (by decide) _).mono ?_
          rintro e w5 ⟨rfl, rfl⟩
          by_cases h13 : 13 < x2.length
          · have t13 : decide ((13 : Int) < (x2.length : Int)) = true := by simp; omega
            have HV : Hid (parseL s = (0, 3)) := by show _ = _; rw [HV1.out, if_pos h13]
            have HB := HB1
            clear h13
            go_wp2_with fail
            (
              refine bodyPost_ret (v := .tuple #[.int .i64 0, .int .i64 3]) (by simp [results, Tryz.results19, go_sem]) rfl ?_
              exact ⟨by rw [HV.out], HB.out⟩)
          · have t13 : decide ((13 : Int) < (x2.length : Int)) = false := by simp; omega
            obtain ⟨y6, hy6⟩ : ∃ y6, y ++ [48, 48, 48, 48, 48, 48] = y6 := ⟨_, rfl⟩
            obtain ⟨p6, hp6⟩ : ∃ p6, y6.take 6 = p6 := ⟨_, rfl⟩
            have hy6l : y6.length = y.length + 6 := by rw [← hy6]; simp
            have hp6l : p6.length = 6 := by rw [← hp6]; simp; omega
            have hk1 : (⟨#[48]⟩ : ByteArray) ++ ⟨x2.toArray⟩ = ⟨(48 :: x2).toArray⟩ := cat_B [48] x2
            have hk2 : (⟨y.toArray⟩ : ByteArray) ++ ⟨#[48, 48, 48, 48, 48, 48]⟩ = ⟨y6.toArray⟩ := by rw [← hy6]; exact cat_B y _
            have hsl := slice_to y6 (j := 6) 6 rfl (by omega)
            rw [hp6] at hsl
            have hk3 : (⟨(48 :: x2).toArray⟩ : ByteArray) ++ ⟨p6.toArray⟩ = ⟨(48 :: (x2 ++ p6)).toArray⟩ := cat_B (48 :: x2) p6
            have hl1 : 1 + x2.length ≤ 41 := by omega
            have hl2 : y.length + 6 ≤ 12 := by have := HYd.out.2; omega
            have hl3 : x2.length + 1 + p6.length ≤ 47 := by omega
            have HDg : Hid (∀ c ∈ x2 ++ p6, isDig c) := by
              intro c hc
              rw [List.mem_append] at hc
              rcases hc with hc | hc
              · exact HX2d.out c hc
              · rw [← hp6] at hc
                have := List.mem_of_mem_take hc
                rw [← hy6, List.mem_append] at this
                rcases this with h | h
                · exact HYd.out.1 c h
                · have : c = 48 := by simpa using h
                  rw [this]; exact dig48
            obtain ⟨hpo, hpl⟩ := parse_ok (x2 ++ p6) (by simp; omega) HDg.out
            rw [hy6, hp6, if_neg h13] at HV1
            generalize foldV 0 (x2 ++ p6) = N at *
            have HPo : Hid (∀ w, Calls Tryz.prog 32 #[.string ⟨(48 :: (x2 ++ p6)).toArray⟩, .int .i64 10, .int .i64 64] w fun e w' => e = .returned (.tuple #[.int .u64 N, .nilIface]) ∧ Below w.heap.size w w') := by
              intro w
              refine (Tryz.strconv_ParseUint_10_at64_ok ⟨(48 :: (x2 ++ p6)).toArray⟩ (by show (48 :: (x2 ++ p6)).length ≤ _; simp; omega) N hpo w).mono ?_
              rintro e w' ⟨rfl, h⟩
              refine ⟨rfl, ?_⟩
              rcases h with rfl | rfl
              · exact Below.refl _ _
              · exact Lib.bytesWorld_below _ _ _
            clear h13 hpo hy6 hp6 HDg
            go_wp2_with fail
            refine (HPo.out _).mono ?_
            rintro e w6 ⟨rfl, hb⟩
            have HB : Hid (Below w1.heap.size w1 w6) := below_seq HB1.out hb
            clear hb hk1 hk2 hk3 hsl hl1 hl2 hl3 hy6l hp6l HPo
            by_cases hN : 1000000000000000000 < N
            · have tN : decide ((1000000000000000000 : Int) < (N : Int)) = true := by rw [decide_eq_true_iff]; omega
              have HV : Hid (parseL s = (0, 3)) := by show _ = _; rw [HV1.out, if_pos hN]
              go_wp2_with fail
              (
                refine bodyPost_ret (v := .tuple #[.int .i64 0, .int .i64 3]) (by simp [results, Tryz.results19, go_sem]) rfl ?_
                exact ⟨by rw [HV.out], HB.out⟩)
            · have tN : decide ((1000000000000000000 : Int) < (N : Int)) = false := by rw [decide_eq_false_iff_not]; omega
              rw [if_neg hN] at HV1
              have hw1 : wrap64 (N : Int) = (N : Int) := by unfold wrap64; omega
              have hw2 : wrap64 (-(N : Int)) = -(N : Int) := by unfold wrap64; omega
              cases m with
              | true =>
                have HV : Hid (parseL s = (-(N : Int), 0)) := by show _ = _; rw [HV1.out, if_pos rfl]
                go_wp2_with fail
                (
                  refine bodyPost_ret (v := .tuple #[.int .i64 (-(N : Int)), .int .i64 0]) (by simp [results, Tryz.results19, go_sem]) rfl ?_
                  exact ⟨by rw [HV.out], HB.out⟩)
              | false =>
                have HV : Hid (parseL s = ((N : Int), 0)) := by show _ = _; rw [HV1.out, if_neg (by simp)]
                go_wp2_with fail
                (
                  refine bodyPost_ret (v := .tuple #[.int .i64 (N : Int), .int .i64 0]) (by simp [results, Tryz.results19, go_sem]) rfl ?_
                  exact ⟨by rw [HV.out], HB.out⟩))
      | true =>
        obtain ⟨d2, hd2⟩ : ∃ d2, digitsB y = d2 := ⟨_, rfl⟩
        have HD2 := Lib.hid hd2
        rw [hd2] at HV0
        clear hd2
        go_wp2_with fail
        refine (digits_any y (by omega) _).mono ?_
        rintro e w4 ⟨rfl, hb⟩
        rw [HD2.out]
        replace HB1 : Hid (Below w1.heap.size w1 w4) := below_seq HB1.out hb
        clear hb
        cases d2 with
        | false =>
          have HV : Hid (parseL s = (0, 5)) := by show _ = _; rw [HV0.out]; exact if_pos (by simp)
          have HB := HB1
          go_wp2_with fail
          (
            refine bodyPost_ret (v := .tuple #[.int .i64 0, .int .i64 5]) (by simp [results, Tryz.results19, go_sem]) rfl ?_
            exact ⟨by rw [HV.out], HB.out⟩)
        | true =>
          by_cases h6 : 6 < y.length
          · have t6 : decide ((6 : Int) < (y.length : Int)) = true := by simp; omega
            have HV : Hid (parseL s = (0, 5)) := by show _ = _; rw [HV0.out]; exact if_pos (by simp; omega)
            have HB := HB1
            clear h6
            go_wp2_with fail
            (
              refine bodyPost_ret (v := .tuple #[.int .i64 0, .int .i64 5]) (by simp [results, Tryz.results19, go_sem]) rfl ?_
              exact ⟨by rw [HV.out], HB.out⟩)
          · have t6 : decide ((6 : Int) < (y.length : Int)) = false := by simp; omega
            have HYd : Hid ((∀ c ∈ y, isDig c) ∧ y.length ≤ 6) := ⟨digitsB_mem HD2.out, by omega⟩
            have HV1 : Hid (parseL s = if 13 < (Lib.trimLeftB x 48).length then (0, 3) else if 1000000000000000000 < foldV 0 (Lib.trimLeftB x 48 ++ (y ++ [48, 48, 48, 48, 48, 48]).take 6) then (0, 3) else (if m = true then -(foldV 0 (Lib.trimLeftB x 48 ++ (y ++ [48, 48, 48, 48, 48, 48]).take 6) : Int) else foldV 0 (Lib.trimLeftB x 48 ++ (y ++ [48, 48, 48, 48, 48, 48]).take 6), 0)) := by
              show _ = _; rw [HV0.out, if_neg (by simp; omega)]
            clear h6
            go_wp2_with fail
            (
              obtain ⟨x2, hx2⟩ : ∃ x2, Lib.trimLeftB x 48 = x2 := ⟨_, rfl⟩
              have HX2 := Lib.hid hx2
              have hx2l : x2.length ≤ x.length := trimLeftB_len _ _ _ hx2
              have HX2d : Hid (∀ c ∈ x2, isDig c) := by intro c hc; rw [← hx2] at hc; exact HXd.out c (trimLeft_mem hc)
              rw [hx2] at HV1
              clear hx2
              refine (c_TrimLeft x x2 48 HX2.out (by decide) _).mono ?_
              rintro e w5 ⟨rfl, rfl⟩
              by_cases h13 : 13 < x2.length
              · have t13 : decide ((13 : Int) < (x2.length : Int)) = true := by simp; omega
                have HV : Hid (parseL s = (0, 3)) := by show _ = _; rw [HV1.out, if_pos h13]
                have HB := HB1
                clear h13
                go_wp2_with fail
                (
                  refine bodyPost_ret (v := .tuple #[.int .i64 0, .int .i64 3]) (by simp [results, Tryz.results19, go_sem]) rfl ?_
                  exact ⟨by rw [HV.out], HB.out⟩)
              · have t13 : decide ((13 : Int) < (x2.length : Int)) = false := by simp; omega
                obtain ⟨y6, hy6⟩ : ∃ y6, y ++ [48, 48, 48, 48, 48, 48] = y6 := ⟨_, rfl⟩
                obtain ⟨p6, hp6⟩ : ∃ p6, y6.take 6 = p6 := ⟨_, rfl⟩
                have hy6l : y6.length = y.length + 6 := by rw [← hy6]; simp
                have hp6l : p6.length = 6 := by rw [← hp6]; simp; omega
                have hk1 : (⟨#[48]⟩ : ByteArray) ++ ⟨x2.toArray⟩ = ⟨(48 :: x2).toArray⟩ := cat_B [48] x2
                have hk2 : (⟨y.toArray⟩ : ByteArray) ++ ⟨#[48, 48, 48, 48, 48, 48]⟩ = ⟨y6.toArray⟩ := by rw [← hy6]; exact cat_B y _
                have hsl := slice_to y6 (j := 6) 6 rfl (by omega)
                rw [hp6] at hsl
                have hk3 : (⟨(48 :: x2).toArray⟩ : ByteArray) ++ ⟨p6.toArray⟩ = ⟨(48 :: (x2 ++ p6)).toArray⟩ := cat_B (48 :: x2) p6
                have hl1 : 1 + x2.length ≤ 41 := by omega
                have hl2 : y.length + 6 ≤ 12 := by have := HYd.out.2; omega
                have hl3 : x2.length + 1 + p6.length ≤ 47 := by omega
                have HDg : Hid (∀ c ∈ x2 ++ p6, isDig c) := by
                  intro c hc
                  rw [List.mem_append] at hc
                  rcases hc with hc | hc
                  · exact HX2d.out c hc
                  · rw [← hp6] at hc
                    have := List.mem_of_mem_take hc
                    rw [← hy6, List.mem_append] at this
                    rcases this with h | h
                    · exact HYd.out.1 c h
                    · have : c = 48 := by simpa using h
                      rw [this]; exact dig48
                obtain ⟨hpo, hpl⟩ := parse_ok (x2 ++ p6) (by simp; omega) HDg.out
                rw [hy6, hp6, if_neg h13] at HV1
                generalize foldV 0 (x2 ++ p6) = N at *
                have HPo : Hid (∀ w, Calls Tryz.prog 32 #[.string ⟨(48 :: (x2 ++ p6)).toArray⟩, .int .i64 10, .int .i64 64] w fun e w' => e = .returned (.tuple #[.int .u64 N, .nilIface]) ∧ Below w.heap.size w w') := by
                  intro w
                  refine (Tryz.strconv_ParseUint_10_at64_ok ⟨(48 :: (x2 ++ p6)).toArray⟩ (by show (48 :: (x2 ++ p6)).length ≤ _; simp; omega) N hpo w).mono ?_
                  rintro e w' ⟨rfl, h⟩
                  refine ⟨rfl, ?_⟩
                  rcases h with rfl | rfl
                  · exact Below.refl _ _
                  · exact Lib.bytesWorld_below _ _ _
                clear h13 hpo hy6 hp6 HDg
                go_wp2_with fail
                refine (HPo.out _).mono ?_
                rintro e w6 ⟨rfl, hb⟩
                have HB : Hid (Below w1.heap.size w1 w6) := below_seq HB1.out hb
                clear hb hk1 hk2 hk3 hsl hl1 hl2 hl3 hy6l hp6l HPo
                by_cases hN : 1000000000000000000 < N
                · have tN : decide ((1000000000000000000 : Int) < (N : Int)) = true := by rw [decide_eq_true_iff]; omega
                  have HV : Hid (parseL s = (0, 3)) := by show _ = _; rw [HV1.out, if_pos hN]
                  go_wp2_with fail
                  (
                    refine bodyPost_ret (v := .tuple #[.int .i64 0, .int .i64 3]) (by simp [results, Tryz.results19, go_sem]) rfl ?_
                    exact ⟨by rw [HV.out], HB.out⟩)
                · have tN : decide ((1000000000000000000 : Int) < (N : Int)) = false := by rw [decide_eq_false_iff_not]; omega
                  rw [if_neg hN] at HV1
                  have hw1 : wrap64 (N : Int) = (N : Int) := by unfold wrap64; omega
                  have hw2 : wrap64 (-(N : Int)) = -(N : Int) := by unfold wrap64; omega
                  cases m with
                  | true =>
                    have HV : Hid (parseL s = (-(N : Int), 0)) := by show _ = _; rw [HV1.out, if_pos rfl]
                    go_wp2_with fail
                    (
                      refine bodyPost_ret (v := .tuple #[.int .i64 (-(N : Int)), .int .i64 0]) (by simp [results, Tryz.results19, go_sem]) rfl ?_
                      exact ⟨by rw [HV.out], HB.out⟩)
                  | false =>
                    have HV : Hid (parseL s = ((N : Int), 0)) := by show _ = _; rw [HV1.out, if_neg (by simp)]
                    go_wp2_with fail
                    (
                      refine bodyPost_ret (v := .tuple #[.int .i64 (N : Int), .int .i64 0]) (by simp [results, Tryz.results19, go_sem]) rfl ?_
                      exact ⟨by rw [HV.out], HB.out⟩))
end Go.Proofs.YtpknbdgmpfhcnaaGreatDoor
