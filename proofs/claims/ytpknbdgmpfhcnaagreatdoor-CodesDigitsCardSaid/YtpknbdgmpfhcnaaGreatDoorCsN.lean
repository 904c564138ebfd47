/- The walk of codes' number. -/
import Derived.Test.YtpknbdgmpfhcnaaGreatDoorCsM
namespace Go.Proofs.YtpknbdgmpfhcnaaGreatDoor
set_option linter.unusedVariables false
set_option linter.unusedSimpArgs false
open Go.RowKit

/-- What a writer stands on. -/
def WV (n day code : Int) (text : List UInt8) : Array Value := #[.int .i64 n, .int .i64 day, .string ⟨text.toArray⟩, .int .i64 code]
def outL (m : Nat) (whole : List UInt8) : List UInt8 :=
  let o := if 1000000 ≤ m then Lib.itoa ((m / 1000000 : Nat) : Int) else []
  let p := Lib.repeatL [48] (whole.count 48 - o.length) ++ o
  if Lib.contains whole [44] = true then commasL p else p
def fracL (m : Nat) (part : List UInt8) : List UInt8 :=
  let six := (Lib.itoa ((1000000 + m % 1000000 : Nat) : Int)).drop 1 ++ Lib.repeatL [48] part.length
  six.take (part.count 48) ++ Lib.trimRightB ((six.drop (part.count 48)).take (part.length - part.count 48)) 48
/-- A number in a place; none: it goes too far. -/
def numberL (n : Nat) (s : List UInt8) : Option (List UInt8) :=
  let c := Lib.cut s [46]
  let r := roundL n (min c.2.1.length 6)
  if r.2 ≠ 0 then none
  else if c.2.2 = true then some (outL r.1.toNat c.1 ++ [46] ++ fracL r.1.toNat c.2.1) else some (outL r.1.toNat c.1)
def NPost (n : Nat) (day : Int) (text : List UInt8) (b : Nat) (q : Option (List UInt8)) (w : World) (e : Ending) (w' : World) : Prop := match q with
  | some t => e = .returned (.string ⟨t.toArray⟩) ∧ Below w.heap.size w w'
  | none => e = .returned (.string ⟨#[]⟩) ∧ w'.heap[b]? = some (.cells (WV n day 5 text) 61 (0, 0)) ∧ w.grownBy w' (some b)
theorem itoa_pos (n : Int) : 1 ≤ (Lib.itoa n).length := by
  unfold Lib.itoa
  split
  · simp
  · rw [Lib.decDigits_length]; unfold Lib.nDigits; split <;> omega
theorem below_seq {w a b : World} (h : Below w.heap.size w a) (k : Below a.heap.size a b) : Below w.heap.size w b := h.trans (k.mono h.size)
theorem commasFrom_len : ∀ (f : Bool) (l : List UInt8), (commasFrom f l).length ≤ 2 * l.length
  | _, [] => by simp [commasFrom]
  | f, c :: r => by
    have := commasFrom_len false r
    rw [commasFrom]
    split <;> simp <;> omega
theorem slice_mid (s : List UInt8) {i j : Int} (a b : Nat) (hi : i = (a : Int)) (hj : j = (b : Int)) (hab : a ≤ b) (hb : b ≤ s.length) (w : World) :
    (Instr.slice 9 (.string ⟨s.toArray⟩) (some (.int .i64 i)) (some (.int .i64 j)) none).run Tryz.prog w = .ok (.string ⟨((s.drop a).take (b - a)).toArray⟩) w := by
  subst hi; subst hj
  rw [run_slice_string (P := Tryz.prog) w 9 ⟨s.toArray⟩ .i64 .i64 (a : Int) (b : Int) Tryz.underlying9 (by omega) (by omega) (by show (b : Int) ≤ (s.length : Int); omega), Int.toNat_natCast, Int.toNat_natCast]
  congr 2
  apply L_inj
  rw [L_extract]; rfl
set_option maxRecDepth 100000 in
set_option maxHeartbeats 2000000 in
theorem number_big (n : Nat) (day code : Int) (text s : List UInt8) (b : Nat) (w : World) (hn : n ≤ 1000000000000000000) (hs : s.length ≤ 60) (hw : w.heap[b]? = some (.cells (WV n day code text) 61 (0, 0))) (hG : G w)
    (x y : List UInt8) (z : Bool) (hc : Lib.cut s [46] = (x, y, z)) (m er : Int) (hr : roundL n (min y.length 6) = (m, er)) (M : Nat) (hm : m = (M : Int)) (he : er = 0) (hU : 1000000 ≤ M) (hM : M ≤ 1000000000000000000) (q : Option (List UInt8)) (HN : Hid (q = if z = true then some (outL M x ++ [46] ++ fracL M y) else some (outL M x))) :
    Calls Tryz.prog 69 #[.pointer (some ⟨b, 0, none⟩), .string ⟨s.toArray⟩] w (NPost n day text b q w) := by
  subst hm he
  have HM1 := Lib.hid hM; have HU := Lib.hid hU
  clear hM hU
  (
    have c0 : w.cell? ⟨b, 0, none⟩ = some (.int .i64 n) := by simp [World.cell?, hw, WV]
    have hlen := cut_len s [46]
    rw [hc] at hlen
    obtain ⟨hxl, hyl⟩ := hlen
    have hmin : min (y.length : Int) 6 = ((min y.length 6 : Nat) : Int) := by omega
    have HC := Lib.hid hc
    have HRD : Hid (∀ w, Calls Tryz.prog 98 #[.int .i64 n, .int .i64 (min y.length 6 : Nat)] w fun e w' => e = .returned (.tuple #[.int .i64 (M : Int), .int .i64 0]) ∧ Below w.heap.size w w') := by
      intro w
      have := round_any n (min y.length 6) hn (by omega) w
      rw [hr] at this; exact this
    have HW := Lib.hid hw; have HG := Lib.hid hG
    have hlt := (Array.getElem?_eq_some_iff.1 hw).1
    clear hw hG hc hr
    go_enter Tryz.func69, Tryz.ntmps69
    go_wp2_with fail
    refine (c_Cut ⟨s.toArray⟩ ⟨#[46]⟩ x y z HC.out w (by show s.length < _; omega) HG.out).mono ?_
    rintro e w1 ⟨rfl, k1, rfl⟩
    go_wp2_with fail
    refine (HRD.out _).mono ?_
    rintro e w2 ⟨rfl, hB2⟩
    have HB2 : Hid (Below w.heap.size w w2) := ⟨hB2.os, hB2.tape, hB2.output, hB2.size, hB2.block⟩
    clear hB2 hmin
    have hw2 : w2.heap[b]? = some (.cells (WV n day code text) 61 (0, 0)) := (HB2.out.block b hlt).trans HW.out)
  have HW2 := Lib.hid hw2; clear hw2
  have tU : decide ((1000000 : Int) ≤ (M : Int)) = true := by have := HU.out; rw [decide_eq_true_iff]; omega
  obtain ⟨o, ho⟩ : ∃ o, Lib.itoa ((M / 1000000 : Nat) : Int) = o := ⟨_, rfl⟩
  have hwr : wrap64 ((M : Int) / 1000000) = ((M / 1000000 : Nat) : Int) := by have := HM1.out; unfold wrap64; omega
  have hol : o.length ≤ 21 := by rw [← ho]; exact Lib.itoa_length_le _ (by omega) (by have := HM1.out; omega)
  have HO := Lib.hid ho
  have HOU : Hid ((if 1000000 ≤ M then Lib.itoa ((M / 1000000 : Nat) : Int) else []) = o) := by show _ = _; rw [if_pos HU.out, ho]
  clear ho
  go_wp2_with fail
  refine (c_Itoa _ o HO.out (by omega) (by have := HM1.out; omega) _ (HG.out.below' HB2.out)).mono ?_
  rintro e w3 ⟨rfl, hB3⟩
  have HB3 := Lib.hid (HB2.out.trans (hB3.mono HB2.out.size))
  clear hB3 tU hwr HO HU
  go_wp2_with fail
  (
    obtain ⟨cx, hcx⟩ : ∃ cx, x.count 48 = cx := ⟨_, rfl⟩
    have hcxl : cx ≤ 60 := by rw [← hcx]; exact Nat.le_trans List.count_le_length (by omega)
    refine (c_Count x 48 cx hcx _).mono ?_
    rintro e w4 ⟨rfl, rfl⟩
    obtain ⟨zz, hzz⟩ : ∃ zz, Lib.repeatL [48] (cx - o.length) = zz := ⟨_, rfl⟩
    have hzl : zz.length ≤ 60 := by rw [← hzz, Lib.repeatL_length]; simp; omega
    have hmx : max 0 ((cx : Int) - (o.length : Int)) = ((cx - o.length : Nat) : Int) := by omega
    have HZZ := Lib.hid hzz; have HCX := Lib.hid hcx
    clear hzz hcx
    go_wp2_with fail
    refine (c_Repeat [48] zz _ HZZ.out (by omega) (by simp) _).mono ?_
    rintro e w5 ⟨rfl, hB5⟩
    have HB5 := Lib.hid (HB3.out.trans (hB5.mono HB3.out.size))
    clear hB5 hmx
    obtain ⟨p1, hp1⟩ : ∃ p1, zz ++ o = p1 := ⟨_, rfl⟩
    have hcat : (⟨zz.toArray⟩ : ByteArray) ++ ⟨o.toArray⟩ = ⟨p1.toArray⟩ := by rw [cat_B, hp1]
    have hzo : zz.length + o.length ≤ 81 := by omega
    have hpl1 : p1.length ≤ 81 := by rw [← hp1]; simp; omega
    have HP1 : Hid (Lib.repeatL [48] (x.count 48 - o.length) ++ o = p1) := by show _ = _; rw [HCX.out, HZZ.out, hp1]
    clear hp1
    obtain ⟨bc, hbc⟩ : ∃ bc, Lib.contains x [44] = bc := ⟨_, rfl⟩
    have HBC := Lib.hid hbc; clear hbc
    go_wp2_with fail
    refine (c_Contains x [44] bc HBC.out _ (by omega) (HG.out.below' HB5.out)).mono ?_
    rintro e w6 ⟨rfl, rfl⟩
    clear hcat hzo
    cases bc
    · have HP2 : Hid (outL M x = p1) := by show _ = _; unfold outL; rw [HOU.out]; simp only; rw [HP1.out, HBC.out]; rfl
      have HB6 := HB5
      have hpl2 : p1.length ≤ 170 := by omega
      (
        cases z
        · have HQ : Hid (q = some p1) := by show _ = _; rw [HN.out, if_neg (by simp), HP2.out]
          go_wp2_with fail
          go_ret
          rw [HQ.out]
          exact ⟨rfl, HB6.out⟩
        · have HQ : Hid (q = some (p1 ++ [46] ++ fracL M y)) := by show _ = _; rw [HN.out, if_pos rfl, HP2.out]
          obtain ⟨o6, ho6⟩ : ∃ o6, Lib.itoa ((1000000 + M % 1000000 : Nat) : Int) = o6 := ⟨_, rfl⟩
          have hm6 : IntKind.i64.wrap (1000000 + (M : Int).tmod 1000000) = ((1000000 + M % 1000000 : Nat) : Int) := by
            rw [Int.tmod_eq_emod_of_nonneg (by omega), show (1000000 : Int) + (M : Int) % 1000000 = ((1000000 + M % 1000000 : Nat) : Int) by omega]
            exact IntWalk.i64_in _ (by omega)
          have h6a : (-9223372036854775808 : Int) ≤ ((1000000 + M % 1000000 : Nat) : Int) := by omega
          have h6b : ((1000000 + M % 1000000 : Nat) : Int) ≤ 9223372036854775807 := by omega
          have h6l : o6.length ≤ 21 := by rw [← ho6]; exact Lib.itoa_length_le _ h6a h6b
          have h6p : 1 ≤ o6.length := by rw [← ho6]; exact itoa_pos _
          have HO6 := Lib.hid ho6
          have hsl6 := slice_from o6 (i := 1) 1 (by simp) h6p
          obtain ⟨z6, hz6⟩ : ∃ z6, Lib.repeatL [48] y.length = z6 := ⟨_, rfl⟩
          have hz6l : z6.length ≤ 60 := by rw [← hz6, Lib.repeatL_length]; simp; omega
          have hzy : z6.length = y.length := by rw [← hz6, Lib.repeatL_length]; simp
          have HZ6 := Lib.hid hz6
          obtain ⟨t6, ht6⟩ : ∃ t6, o6.drop 1 = t6 := ⟨_, rfl⟩
          rw [ht6] at hsl6
          have ht6l : t6.length ≤ 21 := by rw [← ht6]; simp; omega
          have HT6 := Lib.hid ht6
          obtain ⟨six, hsix⟩ : ∃ six, t6 ++ z6 = six := ⟨_, rfl⟩
          have hcat6 : (⟨t6.toArray⟩ : ByteArray) ++ ⟨z6.toArray⟩ = ⟨six.toArray⟩ := by rw [cat_B, hsix]
          have hs6 : t6.length + z6.length ≤ 81 := by omega
          have HSX := Lib.hid hsix
          have H6A := Lib.hid h6a; have H6B := Lib.hid h6b
          clear ho6 hz6 ht6 hsix h6a h6b
          go_wp2_with fail
          go_region_with (first
            | (go_at_call 59; refine (c_Itoa _ o6 HO6.out H6A.out H6B.out _ (HG.out.below' (by first | exact HB6.out.drew | assumption))).mono ?_; rintro e wi ⟨rfl, hBi⟩; have hBI : Below w.heap.size w wi := below_seq (by first | exact HB6.out.drew | assumption) hBi; clear hBi)
            | (go_at_call 60; refine (c_Repeat [48] z6 _ HZ6.out (by omega) (by simp) _).mono ?_; rintro e wr ⟨rfl, hBr⟩; have hBR : Below w.heap.size w wr := below_seq (by first | exact HB6.out.drew | assumption) hBr; clear hBr))
          all_goals
            clear hm6 hcat6 hsl6
            obtain ⟨cy, hcy⟩ : ∃ cy, y.count 48 = cy := ⟨_, rfl⟩
            have hcyl : cy ≤ y.length := by rw [← hcy]; exact List.count_le_length
            have HCY := Lib.hid hcy; clear hcy
            go_wp2_with fail
            refine (c_Count y 48 cy HCY.out _).mono ?_
            rintro e w8 ⟨rfl, rfl⟩
            go_wp2_with fail
            have hsxl : six.length = t6.length + y.length := by rw [← hzy, ← HSX.out]; simp
            have ht6l' := ht6l
            have hslA := slice_to six (j := (cy : Int)) cy rfl (by omega)
            have hslB := slice_mid six (i := (cy : Int)) (j := (y.length : Int)) cy y.length rfl rfl hcyl (by omega)
            obtain ⟨A, hA⟩ : ∃ A, six.take cy = A := ⟨_, rfl⟩
            obtain ⟨D, hD⟩ : ∃ D, (six.drop cy).take (y.length - cy) = D := ⟨_, rfl⟩
            have hAl : A.length ≤ 60 := by rw [← hA]; simp; omega
            have hDl : D.length ≤ 60 := by rw [← hD]; simp; omega
            rw [hA] at hslA; rw [hD] at hslB
            obtain ⟨C, hC⟩ : ∃ C, Lib.trimRightB D 48 = C := ⟨_, rfl⟩
            have hCl : C.length ≤ 60 := by rw [← hC]; exact Nat.le_trans (trimRightB_len D 48) hDl
            obtain ⟨u1, hu1⟩ : ∃ u1, p1 ++ [46] = u1 := ⟨_, rfl⟩
            obtain ⟨u2, hu2⟩ : ∃ u2, u1 ++ A = u2 := ⟨_, rfl⟩
            obtain ⟨u3, hu3⟩ : ∃ u3, u2 ++ C = u3 := ⟨_, rfl⟩
            have hk1 : (⟨(p1).toArray⟩ : ByteArray) ++ ⟨#[46]⟩ = ⟨u1.toArray⟩ := by rw [← hu1]; exact cat_B _ [46]
            have hk2 : (⟨u1.toArray⟩ : ByteArray) ++ ⟨A.toArray⟩ = ⟨u2.toArray⟩ := by rw [← hu2]; exact cat_B _ _
            have hk3 : (⟨u2.toArray⟩ : ByteArray) ++ ⟨C.toArray⟩ = ⟨u3.toArray⟩ := by rw [← hu3]; exact cat_B _ _
            have hl1 : (p1).length + 1 ≤ 171 := by omega
            have hl1' : u1.length ≤ 171 := by rw [← hu1]; simp; omega
            have hl2 : u1.length + A.length ≤ 231 := by omega
            have hl2' : u2.length ≤ 231 := by rw [← hu2]; simp; omega
            have hl3 : u2.length + C.length ≤ 291 := by omega
            have HFin : Hid (q = some u3) := by
              show _ = _
              have hf : fracL M y = A ++ C := by unfold fracL; rw [HO6.out, HZ6.out, HT6.out, HSX.out, HCY.out]; simp only []; rw [hA, hD, hC]
              rw [HQ.out, hf, ← hu3, ← hu2, ← hu1]; simp
            have HC := Lib.hid hC
            clear hsxl ht6l' hA hD hC hu1 hu2 hu3 hcyl hAl hl1' hl2'
            go_region_with ((go_at_call 61; refine (c_TrimRight D C 48 HC.out (by decide) _ (by omega)).mono ?_; rintro e w9 ⟨rfl, rfl⟩))
            all_goals
              go_wp2_with fail
              go_ret
              rw [HFin.out]
              exact ⟨rfl, Below.drew (by assumption)⟩)
    · have HP2 : Hid (outL M x = commasL p1) := by show _ = _; unfold outL; rw [HOU.out]; simp only; rw [HP1.out, HBC.out]; rfl
      go_wp2_with fail
      refine (commas_any p1 (by omega) _).mono ?_
      rintro e w7 ⟨rfl, hB7⟩
      have HB6 := Lib.hid (HB5.out.trans (hB7.mono HB5.out.size))
      have hpl2 : (commasL p1).length ≤ 170 := by have := commasFrom_len true p1; unfold commasL; omega
      clear hB7
      generalize commasL p1 = p2 at *
      (
        cases z
        · have HQ : Hid (q = some p2) := by show _ = _; rw [HN.out, if_neg (by simp), HP2.out]
          go_wp2_with fail
          go_ret
          rw [HQ.out]
          exact ⟨rfl, HB6.out⟩
        · have HQ : Hid (q = some (p2 ++ [46] ++ fracL M y)) := by show _ = _; rw [HN.out, if_pos rfl, HP2.out]
          obtain ⟨o6, ho6⟩ : ∃ o6, Lib.itoa ((1000000 + M % 1000000 : Nat) : Int) = o6 := ⟨_, rfl⟩
          have hm6 : IntKind.i64.wrap (1000000 + (M : Int).tmod 1000000) = ((1000000 + M % 1000000 : Nat) : Int) := by
            rw [Int.tmod_eq_emod_of_nonneg (by omega), show (1000000 : Int) + (M : Int) % 1000000 = ((1000000 + M % 1000000 : Nat) : Int) by omega]
            exact IntWalk.i64_in _ (by omega)
          have h6a : (-9223372036854775808 : Int) ≤ ((1000000 + M % 1000000 : Nat) : Int) := by omega
          have h6b : ((1000000 + M % 1000000 : Nat) : Int) ≤ 9223372036854775807 := by omega
          have h6l : o6.length ≤ 21 := by rw [← ho6]; exact Lib.itoa_length_le _ h6a h6b
          have h6p : 1 ≤ o6.length := by rw [← ho6]; exact itoa_pos _
          have HO6 := Lib.hid ho6
          have hsl6 := slice_from o6 (i := 1) 1 (by simp) h6p
          obtain ⟨z6, hz6⟩ : ∃ z6, Lib.repeatL [48] y.length = z6 := ⟨_, rfl⟩
          have hz6l : z6.length ≤ 60 := by rw [← hz6, Lib.repeatL_length]; simp; omega
          have hzy : z6.length = y.length := by rw [← hz6, Lib.repeatL_length]; simp
          have HZ6 := Lib.hid hz6
          obtain ⟨t6, ht6⟩ : ∃ t6, o6.drop 1 = t6 := ⟨_, rfl⟩
          rw [ht6] at hsl6
          have ht6l : t6.length ≤ 21 := by rw [← ht6]; simp; omega
          have HT6 := Lib.hid ht6
          obtain ⟨six, hsix⟩ : ∃ six, t6 ++ z6 = six := ⟨_, rfl⟩
          have hcat6 : (⟨t6.toArray⟩ : ByteArray) ++ ⟨z6.toArray⟩ = ⟨six.toArray⟩ := by rw [cat_B, hsix]
          have hs6 : t6.length + z6.length ≤ 81 := by omega
          have HSX := Lib.hid hsix
          have H6A := Lib.hid h6a; have H6B := Lib.hid h6b
          clear ho6 hz6 ht6 hsix h6a h6b
          go_wp2_with fail
          go_region_with (first
            | (go_at_call 59; refine (c_Itoa _ o6 HO6.out H6A.out H6B.out _ (HG.out.below' (by first | exact HB6.out.drew | assumption))).mono ?_; rintro e wi ⟨rfl, hBi⟩; have hBI : Below w.heap.size w wi := below_seq (by first | exact HB6.out.drew | assumption) hBi; clear hBi)
            | (go_at_call 60; refine (c_Repeat [48] z6 _ HZ6.out (by omega) (by simp) _).mono ?_; rintro e wr ⟨rfl, hBr⟩; have hBR : Below w.heap.size w wr := below_seq (by first | exact HB6.out.drew | assumption) hBr; clear hBr))
          all_goals
            clear hm6 hcat6 hsl6
            obtain ⟨cy, hcy⟩ : ∃ cy, y.count 48 = cy := ⟨_, rfl⟩
            have hcyl : cy ≤ y.length := by rw [← hcy]; exact List.count_le_length
            have HCY := Lib.hid hcy; clear hcy
            go_wp2_with fail
            refine (c_Count y 48 cy HCY.out _).mono ?_
            rintro e w8 ⟨rfl, rfl⟩
            go_wp2_with fail
            have hsxl : six.length = t6.length + y.length := by rw [← hzy, ← HSX.out]; simp
            have ht6l' := ht6l
            have hslA := slice_to six (j := (cy : Int)) cy rfl (by omega)
            have hslB := slice_mid six (i := (cy : Int)) (j := (y.length : Int)) cy y.length rfl rfl hcyl (by omega)
            obtain ⟨A, hA⟩ : ∃ A, six.take cy = A := ⟨_, rfl⟩
            obtain ⟨D, hD⟩ : ∃ D, (six.drop cy).take (y.length - cy) = D := ⟨_, rfl⟩
            have hAl : A.length ≤ 60 := by rw [← hA]; simp; omega
            have hDl : D.length ≤ 60 := by rw [← hD]; simp; omega
            rw [hA] at hslA; rw [hD] at hslB
            obtain ⟨C, hC⟩ : ∃ C, Lib.trimRightB D 48 = C := ⟨_, rfl⟩
            have hCl : C.length ≤ 60 := by rw [← hC]; exact Nat.le_trans (trimRightB_len D 48) hDl
            obtain ⟨u1, hu1⟩ : ∃ u1, p2 ++ [46] = u1 := ⟨_, rfl⟩
            obtain ⟨u2, hu2⟩ : ∃ u2, u1 ++ A = u2 := ⟨_, rfl⟩
            obtain ⟨u3, hu3⟩ : ∃ u3, u2 ++ C = u3 := ⟨_, rfl⟩
            have hk1 : (⟨(p2).toArray⟩ : ByteArray) ++ ⟨#[46]⟩ = ⟨u1.toArray⟩ := by rw [← hu1]; exact cat_B _ [46]
            have hk2 : (⟨u1.toArray⟩ : ByteArray) ++ ⟨A.toArray⟩ = ⟨u2.toArray⟩ := by rw [← hu2]; exact cat_B _ _
            have hk3 : (⟨u2.toArray⟩ : ByteArray) ++ ⟨C.toArray⟩ = ⟨u3.toArray⟩ := by rw [← hu3]; exact cat_B _ _
            have hl1 : (p2).length + 1 ≤ 171 := by omega
            have hl1' : u1.length ≤ 171 := by rw [← hu1]; simp; omega
            have hl2 : u1.length + A.length ≤ 231 := by omega
            have hl2' : u2.length ≤ 231 := by rw [← hu2]; simp; omega
            have hl3 : u2.length + C.length ≤ 291 := by omega
            have HFin : Hid (q = some u3) := by
              show _ = _
              have hf : fracL M y = A ++ C := by unfold fracL; rw [HO6.out, HZ6.out, HT6.out, HSX.out, HCY.out]; simp only []; rw [hA, hD, hC]
              rw [HQ.out, hf, ← hu3, ← hu2, ← hu1]; simp
            have HC := Lib.hid hC
            clear hsxl ht6l' hA hD hC hu1 hu2 hu3 hcyl hAl hl1' hl2'
            go_region_with ((go_at_call 61; refine (c_TrimRight D C 48 HC.out (by decide) _ (by omega)).mono ?_; rintro e w9 ⟨rfl, rfl⟩))
            all_goals
              go_wp2_with fail
              go_ret
              rw [HFin.out]
              exact ⟨rfl, Below.drew (by assumption)⟩))
set_option maxRecDepth 100000 in
set_option maxHeartbeats 2000000 in
theorem number_small (n : Nat) (day code : Int) (text s : List UInt8) (b : Nat) (w : World) (hn : n ≤ 1000000000000000000) (hs : s.length ≤ 60) (hw : w.heap[b]? = some (.cells (WV n day code text) 61 (0, 0))) (hG : G w)
    (x y : List UInt8) (z : Bool) (hc : Lib.cut s [46] = (x, y, z)) (m er : Int) (hr : roundL n (min y.length 6) = (m, er)) (M : Nat) (hm : m = (M : Int)) (he : er = 0) (hU : ¬ 1000000 ≤ M) (q : Option (List UInt8)) (HN : Hid (q = if z = true then some (outL M x ++ [46] ++ fracL M y) else some (outL M x))) :
    Calls Tryz.prog 69 #[.pointer (some ⟨b, 0, none⟩), .string ⟨s.toArray⟩] w (NPost n day text b q w) := by
  subst hm he
  have HU := Lib.hid hU
  clear hU
  (
    have c0 : w.cell? ⟨b, 0, none⟩ = some (.int .i64 n) := by simp [World.cell?, hw, WV]
    have hlen := cut_len s [46]
    rw [hc] at hlen
    obtain ⟨hxl, hyl⟩ := hlen
    have hmin : min (y.length : Int) 6 = ((min y.length 6 : Nat) : Int) := by omega
    have HC := Lib.hid hc
    have HRD : Hid (∀ w, Calls Tryz.prog 98 #[.int .i64 n, .int .i64 (min y.length 6 : Nat)] w fun e w' => e = .returned (.tuple #[.int .i64 (M : Int), .int .i64 0]) ∧ Below w.heap.size w w') := by
      intro w
      have := round_any n (min y.length 6) hn (by omega) w
      rw [hr] at this; exact this
    have HW := Lib.hid hw; have HG := Lib.hid hG
    have hlt := (Array.getElem?_eq_some_iff.1 hw).1
    clear hw hG hc hr
    go_enter Tryz.func69, Tryz.ntmps69
    go_wp2_with fail
    refine (c_Cut ⟨s.toArray⟩ ⟨#[46]⟩ x y z HC.out w (by show s.length < _; omega) HG.out).mono ?_
    rintro e w1 ⟨rfl, k1, rfl⟩
    go_wp2_with fail
    refine (HRD.out _).mono ?_
    rintro e w2 ⟨rfl, hB2⟩
    have HB2 : Hid (Below w.heap.size w w2) := ⟨hB2.os, hB2.tape, hB2.output, hB2.size, hB2.block⟩
    clear hB2 hmin
    have hw2 : w2.heap[b]? = some (.cells (WV n day code text) 61 (0, 0)) := (HB2.out.block b hlt).trans HW.out)
  have HW2 := Lib.hid hw2; clear hw2
  have tU : decide ((1000000 : Int) ≤ (M : Int)) = false := by have := HU.out; rw [decide_eq_false_iff_not]; omega
  have HOU : Hid ((if 1000000 ≤ M then Lib.itoa ((M / 1000000 : Nat) : Int) else []) = ([] : List UInt8)) := by show _ = _; rw [if_neg HU.out]
  have HB3 := HB2
  clear HU
  go_wp2_with fail
  (
    obtain ⟨cx, hcx⟩ : ∃ cx, x.count 48 = cx := ⟨_, rfl⟩
    have hcxl : cx ≤ 60 := by rw [← hcx]; exact Nat.le_trans List.count_le_length (by omega)
    refine (c_Count x 48 cx hcx _).mono ?_
    rintro e w4 ⟨rfl, rfl⟩
    obtain ⟨zz, hzz⟩ : ∃ zz, Lib.repeatL [48] cx = zz := ⟨_, rfl⟩
    have hzl : zz.length ≤ 60 := by rw [← hzz, Lib.repeatL_length]; simp; omega
    have HZZ := Lib.hid hzz; have HCX := Lib.hid hcx
    clear hzz hcx
    go_wp2_with fail
    refine (c_Repeat [48] zz _ HZZ.out (by omega) (by simp) _).mono ?_
    rintro e w5 ⟨rfl, hB5⟩
    have HB5 := Lib.hid (HB3.out.trans (hB5.mono HB3.out.size))
    clear hB5
    obtain ⟨p1, hp1⟩ : ∃ p1, zz = p1 := ⟨_, rfl⟩
    have hcat : (⟨zz.toArray⟩ : ByteArray) ++ ⟨#[]⟩ = ⟨p1.toArray⟩ := by rw [← hp1]; exact (cat_B zz []).trans (by simp)
    have hzo : zz.length ≤ 81 := by omega
    have hpl1 : p1.length ≤ 81 := by rw [← hp1]; omega
    have HP1 : Hid (Lib.repeatL [48] (x.count 48 - ([] : List UInt8).length) ++ ([] : List UInt8) = p1) := by show _ = _; rw [HCX.out]; simp only [List.length_nil, Nat.sub_zero, List.append_nil]; rw [HZZ.out, hp1]
    clear hp1
    obtain ⟨bc, hbc⟩ : ∃ bc, Lib.contains x [44] = bc := ⟨_, rfl⟩
    have HBC := Lib.hid hbc; clear hbc
    go_wp2_with fail
    refine (c_Contains x [44] bc HBC.out _ (by omega) (HG.out.below' HB5.out)).mono ?_
    rintro e w6 ⟨rfl, rfl⟩
    clear hcat hzo
    cases bc
    · have HP2 : Hid (outL M x = p1) := by show _ = _; unfold outL; rw [HOU.out]; simp only; rw [HP1.out, HBC.out]; rfl
      have HB6 := HB5
      have hpl2 : p1.length ≤ 170 := by omega
      (
        cases z
        · have HQ : Hid (q = some p1) := by show _ = _; rw [HN.out, if_neg (by simp), HP2.out]
          go_wp2_with fail
          go_ret
          rw [HQ.out]
          exact ⟨rfl, HB6.out⟩
        · have HQ : Hid (q = some (p1 ++ [46] ++ fracL M y)) := by show _ = _; rw [HN.out, if_pos rfl, HP2.out]
          obtain ⟨o6, ho6⟩ : ∃ o6, Lib.itoa ((1000000 + M % 1000000 : Nat) : Int) = o6 := ⟨_, rfl⟩
          have hm6 : IntKind.i64.wrap (1000000 + (M : Int).tmod 1000000) = ((1000000 + M % 1000000 : Nat) : Int) := by
            rw [Int.tmod_eq_emod_of_nonneg (by omega), show (1000000 : Int) + (M : Int) % 1000000 = ((1000000 + M % 1000000 : Nat) : Int) by omega]
            exact IntWalk.i64_in _ (by omega)
          have h6a : (-9223372036854775808 : Int) ≤ ((1000000 + M % 1000000 : Nat) : Int) := by omega
          have h6b : ((1000000 + M % 1000000 : Nat) : Int) ≤ 9223372036854775807 := by omega
          have h6l : o6.length ≤ 21 := by rw [← ho6]; exact Lib.itoa_length_le _ h6a h6b
          have h6p : 1 ≤ o6.length := by rw [← ho6]; exact itoa_pos _
          have HO6 := Lib.hid ho6
          have hsl6 := slice_from o6 (i := 1) 1 (by simp) h6p
          obtain ⟨z6, hz6⟩ : ∃ z6, Lib.repeatL [48] y.length = z6 := ⟨_, rfl⟩
          have hz6l : z6.length ≤ 60 := by rw [← hz6, Lib.repeatL_length]; simp; omega
          have hzy : z6.length = y.length := by rw [← hz6, Lib.repeatL_length]; simp
          have HZ6 := Lib.hid hz6
          obtain ⟨t6, ht6⟩ : ∃ t6, o6.drop 1 = t6 := ⟨_, rfl⟩
          rw [ht6] at hsl6
          have ht6l : t6.length ≤ 21 := by rw [← ht6]; simp; omega
          have HT6 := Lib.hid ht6
          obtain ⟨six, hsix⟩ : ∃ six, t6 ++ z6 = six := ⟨_, rfl⟩
          have hcat6 : (⟨t6.toArray⟩ : ByteArray) ++ ⟨z6.toArray⟩ = ⟨six.toArray⟩ := by rw [cat_B, hsix]
          have hs6 : t6.length + z6.length ≤ 81 := by omega
          have HSX := Lib.hid hsix
          have H6A := Lib.hid h6a; have H6B := Lib.hid h6b
          clear ho6 hz6 ht6 hsix h6a h6b
          go_wp2_with fail
          go_region_with (first
            | (go_at_call 59; refine (c_Itoa _ o6 HO6.out H6A.out H6B.out _ (HG.out.below' (by first | exact HB6.out.drew | assumption))).mono ?_; rintro e wi ⟨rfl, hBi⟩; have hBI : Below w.heap.size w wi := below_seq (by first | exact HB6.out.drew | assumption) hBi; clear hBi)
            | (go_at_call 60; refine (c_Repeat [48] z6 _ HZ6.out (by omega) (by simp) _).mono ?_; rintro e wr ⟨rfl, hBr⟩; have hBR : Below w.heap.size w wr := below_seq (by first | exact HB6.out.drew | assumption) hBr; clear hBr))
          all_goals
            clear hm6 hcat6 hsl6
            obtain ⟨cy, hcy⟩ : ∃ cy, y.count 48 = cy := ⟨_, rfl⟩
            have hcyl : cy ≤ y.length := by rw [← hcy]; exact List.count_le_length
            have HCY := Lib.hid hcy; clear hcy
            go_wp2_with fail
            refine (c_Count y 48 cy HCY.out _).mono ?_
            rintro e w8 ⟨rfl, rfl⟩
            go_wp2_with fail
            have hsxl : six.length = t6.length + y.length := by rw [← hzy, ← HSX.out]; simp
            have ht6l' := ht6l
            have hslA := slice_to six (j := (cy : Int)) cy rfl (by omega)
            have hslB := slice_mid six (i := (cy : Int)) (j := (y.length : Int)) cy y.length rfl rfl hcyl (by omega)
            obtain ⟨A, hA⟩ : ∃ A, six.take cy = A := ⟨_, rfl⟩
            obtain ⟨D, hD⟩ : ∃ D, (six.drop cy).take (y.length - cy) = D := ⟨_, rfl⟩
            have hAl : A.length ≤ 60 := by rw [← hA]; simp; omega
            have hDl : D.length ≤ 60 := by rw [← hD]; simp; omega
            rw [hA] at hslA; rw [hD] at hslB
            obtain ⟨C, hC⟩ : ∃ C, Lib.trimRightB D 48 = C := ⟨_, rfl⟩
            have hCl : C.length ≤ 60 := by rw [← hC]; exact Nat.le_trans (trimRightB_len D 48) hDl
            obtain ⟨u1, hu1⟩ : ∃ u1, p1 ++ [46] = u1 := ⟨_, rfl⟩
            obtain ⟨u2, hu2⟩ : ∃ u2, u1 ++ A = u2 := ⟨_, rfl⟩
            obtain ⟨u3, hu3⟩ : ∃ u3, u2 ++ C = u3 := ⟨_, rfl⟩
            have hk1 : (⟨(p1).toArray⟩ : ByteArray) ++ ⟨#[46]⟩ = ⟨u1.toArray⟩ := by rw [← hu1]; exact cat_B _ [46]
            have hk2 : (⟨u1.toArray⟩ : ByteArray) ++ ⟨A.toArray⟩ = ⟨u2.toArray⟩ := by rw [← hu2]; exact cat_B _ _
            have hk3 : (⟨u2.toArray⟩ : ByteArray) ++ ⟨C.toArray⟩ = ⟨u3.toArray⟩ := by rw [← hu3]; exact cat_B _ _
            have hl1 : (p1).length + 1 ≤ 171 := by omega
            have hl1' : u1.length ≤ 171 := by rw [← hu1]; simp; omega
            have hl2 : u1.length + A.length ≤ 231 := by omega
            have hl2' : u2.length ≤ 231 := by rw [← hu2]; simp; omega
            have hl3 : u2.length + C.length ≤ 291 := by omega
            have HFin : Hid (q = some u3) := by
              show _ = _
              have hf : fracL M y = A ++ C := by unfold fracL; rw [HO6.out, HZ6.out, HT6.out, HSX.out, HCY.out]; simp only []; rw [hA, hD, hC]
              rw [HQ.out, hf, ← hu3, ← hu2, ← hu1]; simp
            have HC := Lib.hid hC
            clear hsxl ht6l' hA hD hC hu1 hu2 hu3 hcyl hAl hl1' hl2'
            go_region_with ((go_at_call 61; refine (c_TrimRight D C 48 HC.out (by decide) _ (by omega)).mono ?_; rintro e w9 ⟨rfl, rfl⟩))
            all_goals
              go_wp2_with fail
              go_ret
              rw [HFin.out]
              exact ⟨rfl, Below.drew (by assumption)⟩)
    · have HP2 : Hid (outL M x = commasL p1) := by show _ = _; unfold outL; rw [HOU.out]; simp only; rw [HP1.out, HBC.out]; rfl
      go_wp2_with fail
      refine (commas_any p1 (by omega) _).mono ?_
      rintro e w7 ⟨rfl, hB7⟩
      have HB6 := Lib.hid (HB5.out.trans (hB7.mono HB5.out.size))
      have hpl2 : (commasL p1).length ≤ 170 := by have := commasFrom_len true p1; unfold commasL; omega
      clear hB7
      generalize commasL p1 = p2 at *
      (
        cases z
        · have HQ : Hid (q = some p2) := by show _ = _; rw [HN.out, if_neg (by simp), HP2.out]
          go_wp2_with fail
          go_ret
          rw [HQ.out]
          exact ⟨rfl, HB6.out⟩
        · have HQ : Hid (q = some (p2 ++ [46] ++ fracL M y)) := by show _ = _; rw [HN.out, if_pos rfl, HP2.out]
          obtain ⟨o6, ho6⟩ : ∃ o6, Lib.itoa ((1000000 + M % 1000000 : Nat) : Int) = o6 := ⟨_, rfl⟩
          have hm6 : IntKind.i64.wrap (1000000 + (M : Int).tmod 1000000) = ((1000000 + M % 1000000 : Nat) : Int) := by
            rw [Int.tmod_eq_emod_of_nonneg (by omega), show (1000000 : Int) + (M : Int) % 1000000 = ((1000000 + M % 1000000 : Nat) : Int) by omega]
            exact IntWalk.i64_in _ (by omega)
          have h6a : (-9223372036854775808 : Int) ≤ ((1000000 + M % 1000000 : Nat) : Int) := by omega
          have h6b : ((1000000 + M % 1000000 : Nat) : Int) ≤ 9223372036854775807 := by omega
          have h6l : o6.length ≤ 21 := by rw [← ho6]; exact Lib.itoa_length_le _ h6a h6b
          have h6p : 1 ≤ o6.length := by rw [← ho6]; exact itoa_pos _
          have HO6 := Lib.hid ho6
          have hsl6 := slice_from o6 (i := 1) 1 (by simp) h6p
          obtain ⟨z6, hz6⟩ : ∃ z6, Lib.repeatL [48] y.length = z6 := ⟨_, rfl⟩
          have hz6l : z6.length ≤ 60 := by rw [← hz6, Lib.repeatL_length]; simp; omega
          have hzy : z6.length = y.length := by rw [← hz6, Lib.repeatL_length]; simp
          have HZ6 := Lib.hid hz6
          obtain ⟨t6, ht6⟩ : ∃ t6, o6.drop 1 = t6 := ⟨_, rfl⟩
          rw [ht6] at hsl6
          have ht6l : t6.length ≤ 21 := by rw [← ht6]; simp; omega
          have HT6 := Lib.hid ht6
          obtain ⟨six, hsix⟩ : ∃ six, t6 ++ z6 = six := ⟨_, rfl⟩
          have hcat6 : (⟨t6.toArray⟩ : ByteArray) ++ ⟨z6.toArray⟩ = ⟨six.toArray⟩ := by rw [cat_B, hsix]
          have hs6 : t6.length + z6.length ≤ 81 := by omega
          have HSX := Lib.hid hsix
          have H6A := Lib.hid h6a; have H6B := Lib.hid h6b
          clear ho6 hz6 ht6 hsix h6a h6b
          go_wp2_with fail
          go_region_with (first
            | (go_at_call 59; refine (c_Itoa _ o6 HO6.out H6A.out H6B.out _ (HG.out.below' (by first | exact HB6.out.drew | assumption))).mono ?_; rintro e wi ⟨rfl, hBi⟩; have hBI : Below w.heap.size w wi := below_seq (by first | exact HB6.out.drew | assumption) hBi; clear hBi)
            | (go_at_call 60; refine (c_Repeat [48] z6 _ HZ6.out (by omega) (by simp) _).mono ?_; rintro e wr ⟨rfl, hBr⟩; have hBR : Below w.heap.size w wr := below_seq (by first | exact HB6.out.drew | assumption) hBr; clear hBr))
          all_goals
            clear hm6 hcat6 hsl6
            obtain ⟨cy, hcy⟩ : ∃ cy, y.count 48 = cy := ⟨_, rfl⟩
            have hcyl : cy ≤ y.length := by rw [← hcy]; exact List.count_le_length
            have HCY := Lib.hid hcy; clear hcy
            go_wp2_with fail
            refine (c_Count y 48 cy HCY.out _).mono ?_
            rintro e w8 ⟨rfl, rfl⟩
            go_wp2_with fail
            have hsxl : six.length = t6.length + y.length := by rw [← hzy, ← HSX.out]; simp
            have ht6l' := ht6l
            have hslA := slice_to six (j := (cy : Int)) cy rfl (by omega)
            have hslB := slice_mid six (i := (cy : Int)) (j := (y.length : Int)) cy y.length rfl rfl hcyl (by omega)
            obtain ⟨A, hA⟩ : ∃ A, six.take cy = A := ⟨_, rfl⟩
            obtain ⟨D, hD⟩ : ∃ D, (six.drop cy).take (y.length - cy) = D := ⟨_, rfl⟩
            have hAl : A.length ≤ 60 := by rw [← hA]; simp; omega
            have hDl : D.length ≤ 60 := by rw [← hD]; simp; omega
            rw [hA] at hslA; rw [hD] at hslB
            obtain ⟨C, hC⟩ : ∃ C, Lib.trimRightB D 48 = C := ⟨_, rfl⟩
            have hCl : C.length ≤ 60 := by rw [← hC]; exact Nat.le_trans (trimRightB_len D 48) hDl
            obtain ⟨u1, hu1⟩ : ∃ u1, p2 ++ [46] = u1 := ⟨_, rfl⟩
            obtain ⟨u2, hu2⟩ : ∃ u2, u1 ++ A = u2 := ⟨_, rfl⟩
            obtain ⟨u3, hu3⟩ : ∃ u3, u2 ++ C = u3 := ⟨_, rfl⟩
            have hk1 : (⟨(p2).toArray⟩ : ByteArray) ++ ⟨#[46]⟩ = ⟨u1.toArray⟩ := by rw [← hu1]; exact cat_B _ [46]
            have hk2 : (⟨u1.toArray⟩ : ByteArray) ++ ⟨A.toArray⟩ = ⟨u2.toArray⟩ := by rw [← hu2]; exact cat_B _ _
            have hk3 : (⟨u2.toArray⟩ : ByteArray) ++ ⟨C.toArray⟩ = ⟨u3.toArray⟩ := by rw [← hu3]; exact cat_B _ _
            have hl1 : (p2).length + 1 ≤ 171 := by omega
            have hl1' : u1.length ≤ 171 := by rw [← hu1]; simp; omega
            have hl2 : u1.length + A.length ≤ 231 := by omega
            have hl2' : u2.length ≤ 231 := by rw [← hu2]; simp; omega
            have hl3 : u2.length + C.length ≤ 291 := by omega
            have HFin : Hid (q = some u3) := by
              show _ = _
              have hf : fracL M y = A ++ C := by unfold fracL; rw [HO6.out, HZ6.out, HT6.out, HSX.out, HCY.out]; simp only []; rw [hA, hD, hC]
              rw [HQ.out, hf, ← hu3, ← hu2, ← hu1]; simp
            have HC := Lib.hid hC
            clear hsxl ht6l' hA hD hC hu1 hu2 hu3 hcyl hAl hl1' hl2'
            go_region_with ((go_at_call 61; refine (c_TrimRight D C 48 HC.out (by decide) _ (by omega)).mono ?_; rintro e w9 ⟨rfl, rfl⟩))
            all_goals
              go_wp2_with fail
              go_ret
              rw [HFin.out]
              exact ⟨rfl, Below.drew (by assumption)⟩))
set_option maxRecDepth 100000 in
set_option maxHeartbeats 1000000 in
theorem number_no (n : Nat) (day code : Int) (text s : List UInt8) (b : Nat) (w : World) (hn : n ≤ 1000000000000000000) (hs : s.length ≤ 60) (hw : w.heap[b]? = some (.cells (WV n day code text) 61 (0, 0))) (hG : G w)
    (x y : List UInt8) (z : Bool) (hc : Lib.cut s [46] = (x, y, z)) (m er : Int) (hr : roundL n (min y.length 6) = (m, er)) (he : er ≠ 0) :
    Calls Tryz.prog 69 #[.pointer (some ⟨b, 0, none⟩), .string ⟨s.toArray⟩] w (NPost n day text b none w) := by
  (
    have c0 : w.cell? ⟨b, 0, none⟩ = some (.int .i64 n) := by simp [World.cell?, hw, WV]
    have hlen := cut_len s [46]
    rw [hc] at hlen
    obtain ⟨hxl, hyl⟩ := hlen
    have hmin : min (y.length : Int) 6 = ((min y.length 6 : Nat) : Int) := by omega
    have HC := Lib.hid hc
    have HRD : Hid (∀ w, Calls Tryz.prog 98 #[.int .i64 n, .int .i64 (min y.length 6 : Nat)] w fun e w' => e = .returned (.tuple #[.int .i64 m, .int .i64 er]) ∧ Below w.heap.size w w') := by
      intro w
      have := round_any n (min y.length 6) hn (by omega) w
      rw [hr] at this; exact this
    have HW := Lib.hid hw; have HG := Lib.hid hG
    have hlt := (Array.getElem?_eq_some_iff.1 hw).1
    clear hw hG hc hr
    go_enter Tryz.func69, Tryz.ntmps69
    go_wp2_with fail
    refine (c_Cut ⟨s.toArray⟩ ⟨#[46]⟩ x y z HC.out w (by show s.length < _; omega) HG.out).mono ?_
    rintro e w1 ⟨rfl, k1, rfl⟩
    go_wp2_with fail
    refine (HRD.out _).mono ?_
    rintro e w2 ⟨rfl, hB2⟩
    have HB2 : Hid (Below w.heap.size w w2) := ⟨hB2.os, hB2.tape, hB2.output, hB2.size, hB2.block⟩
    clear hB2 hmin
    have hw2 : w2.heap[b]? = some (.cells (WV n day code text) 61 (0, 0)) := (HB2.out.block b hlt).trans HW.out)
  have he' : (er == 0) = false := by simpa using he
  have c3 : w2.cell? ⟨b, 3, none⟩ = some (.int .i64 code) := by simp [World.cell?, hw2, WV]
  have f3 : w2.frozen? ⟨b, 3, none⟩ = false := by simp [World.frozen?, hw2, WV]
  have HW2 := Lib.hid hw2; clear hw2
  clear he
  go_wp2_with fail
  refine bodyPost_ret (v := .string ⟨#[]⟩) (by simp [results, Tryz.results69, go_sem]) rfl ?_
  refine ⟨rfl, ?_, ?_⟩
  · have := heap_set_same (i := 3) HW2.out (.int .i64 5)
    exact this
  · exact grown_trans (grown_below HB2.out _) (grown_set' _ _ _ _)
theorem number_any (n : Nat) (day code : Int) (text s : List UInt8) (b : Nat) (w : World) (hn : n ≤ 1000000000000000000) (hs : s.length ≤ 60) (hw : w.heap[b]? = some (.cells (WV n day code text) 61 (0, 0))) (hG : G w) :
    Calls Tryz.prog 69 #[.pointer (some ⟨b, 0, none⟩), .string ⟨s.toArray⟩] w (NPost n day text b (numberL n s) w) := by
  obtain ⟨x, y, z, hc⟩ : ∃ x y z, Lib.cut s [46] = (x, y, z) := ⟨_, _, _, rfl⟩
  obtain ⟨m, er, hr⟩ : ∃ m er, roundL n (min y.length 6) = (m, er) := ⟨_, _, rfl⟩
  have HN : numberL n s = if er ≠ 0 then none else if z = true then some (outL m.toNat x ++ [46] ++ fracL m.toNat y) else some (outL m.toNat x) := by
    unfold numberL; rw [hc]; simp only; rw [hr]
  have HM : er = 0 → 0 ≤ m ∧ m ≤ 1000000000000000000 := by
    intro he
    unfold roundL toldL at hr
    split at hr
    · rename_i hf
      simp only [Prod.mk.injEq] at hr
      obtain ⟨rfl, _⟩ := hr
      generalize divR n (10 ^ (6 - min y.length 6)) * 10 ^ (6 - min y.length 6) = D at *
      unfold fitsB at hf
      rw [Bool.and_eq_true, decide_eq_true_iff, decide_eq_true_iff] at hf
      omega
    · simp only [Prod.mk.injEq] at hr
      omega
  by_cases he : er = 0
  · obtain ⟨hm0, hm1⟩ := HM he
    have hmM : m = ((m.toNat : Nat) : Int) := by omega
    rw [if_neg (by simpa using he)] at HN
    by_cases hU : 1000000 ≤ m.toNat
    · exact number_big n day code text s b w hn hs hw hG x y z hc m er hr m.toNat hmM he hU (by omega) _ HN
    · exact number_small n day code text s b w hn hs hw hG x y z hc m er hr m.toNat hmM he hU _ HN
  · rw [HN, if_pos he]
    exact number_no n day code text s b w hn hs hw hG x y z hc m er hr he
end Go.Proofs.YtpknbdgmpfhcnaaGreatDoor
