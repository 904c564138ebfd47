/- The walk of CodesCommas: without its commas, what is written with them is what is written without; a comma stands ahead of each three digits, and nowhere else. -/
import Derived.Test.YtpknbdgmpfhcnaaGreatDoorLb
import Derived.Test.YtpknbdgmpfhcnaaGreatDoorLd
import Derived.Laws.IdiomStrings
import Derived.Lib.BufferRead
namespace Go.Proofs.YtpknbdgmpfhcnaaGreatDoor
set_option linter.unusedVariables false
set_option linter.unusedSimpArgs false
open Go.RowKit
theorem infoByte : (Tryz.prog.info? 5).map (fun i => (i.zero, i.size, i.bytes)) = some (some (.int .u8 0), 1, 1) := by kernel_rfl
def noComma (s : List UInt8) : List UInt8 := s.filter (fun c => c != 44)
/-- A row of bytes of the call's own, as a text. -/
theorem conv_own (P : Program) {W : World} {base : Nat} {e src dst : TypeId} {v : Value} {r : List UInt8} (h : W.ownsRow base e 1 v r.length (Lib.byteCells r)) (hs : P.underlying src = some (.slice e)) (he : P.underlying e = some (.int .u8)) (hd : P.underlying dst = some .string) :
    (convert src dst v).run P W = .ok (.string ⟨r.toArray⟩) W := by
  rcases h.2 with ⟨rfl, h0⟩ | ⟨g, cap, cur, rfl, _⟩
  · have : r = [] := List.length_eq_zero_iff.1 h0
    subst this
    exact Lib.run_convert_nil_bytes W src dst e 0 hs he hd
  · have hc := h.cells (g := g) (by simp [Value.ownBlock])
    refine run_convert_bytes_back W src dst e ⟨g, 0, none⟩ cap r hs he hd fun j hj => ?_
    refine hc j _ ?_
    simp [Lib.byteCells, hj]
set_option maxRecDepth 100000 in
set_option maxHeartbeats 1000000 in
theorem noComma_any (s : List UInt8) (hl : s.length ≤ 1000) (w : World) : Calls Tryz.prog 15 #[.string ⟨s.toArray⟩] w fun e w' => e = .returned (.string ⟨(noComma s).toArray⟩) ∧ Below w.heap.size w w' := by
  obtain ⟨i0, hi0, hz0, hz1, hz2⟩ := info_parts infoByte
  have HI0 := Lib.hid hi0; have HZ0 := Lib.hid hz0; have HZ1 := Lib.hid hz1; have HZ2 := Lib.hid hz2
  clear hi0 hz0 hz1 hz2
  go_enter Tryz.func15, Tryz.ntmps15
  go_wp2_with fail
  go_loopw [3, 4] (fun o k wr => ∃ i : Nat, k = .int .i64 i ∧ i ≤ s.length ∧ Hid (Below w.heap.size w wr) ∧ Hid (wr.ownsRow w.heap.size 5 1 o (noComma (s.take i)).length (Lib.byteCells (noComma (s.take i))))) (fun _ k _ => s.length - (intOf k).toNat)
  case atStart => exact ⟨0, rfl, by omega, Below.refl _ _, by simpa [Hid, noComma, Lib.byteCells] using World.ownsRow_nil w w.heap.size 5 1⟩
  case round =>
    obtain ⟨i, rfl, hi, HB, HO⟩ := hrel
    by_cases hlt : i < s.length
    · have hd := lss_nat hlt
      have hx := get_B (List.getElem?_eq_getElem hlt)
      have HT := Lib.hid (List.take_succ_eq_append_getElem hlt : s.take (i + 1) = s.take i ++ [s[i]])
      generalize s[i] = c at *
      have HLt := Lib.hid hlt
      by_cases hc : c = 44
      · have t : ((c.toNat : Int) != 44) = false := by simp [hc]
        have p : (c.toNat : Int) = 44 := by simp [hc]
        have HN : Hid (noComma (s.take (i + 1)) = noComma (s.take i)) := by show _ = _; rw [HT.out]; simp [noComma, hc]
        rw [← HN.out] at HO
        clear hc
        go_wp2_with fail
        exact ⟨⟨i + 1, by simp, by have := HLt.out; omega, HB, HO⟩, by have := HLt.out; simp only [intOf]; omega⟩
      · have t : ((c.toNat : Int) != 44) = true := by
          simp only [bne_iff_ne, ne_eq]; intro h; exact hc (UInt8.toNat_inj.1 (by simp; omega))
        have p : ¬ (c.toNat : Int) = 44 := by intro h; exact hc (UInt8.toNat_inj.1 (by simp; omega))
        have HN : Hid (noComma (s.take (i + 1)) = noComma (s.take i) ++ [c]) := by show _ = _; rw [HT.out]; simp [noComma, hc]
        obtain ⟨acc, hacc⟩ : ∃ acc, noComma (s.take i) = acc := ⟨_, rfl⟩
        have hal : acc.length ≤ 1000 := by
          rw [← hacc]; exact Nat.le_trans (List.length_filter_le _ _) (by simp; omega)
        rw [hacc] at HO HN
        have hws : w.heap.size ≤ wr.heap.size := HB.out.size
        clear hc hacc HT
        go_wp2_with (at_builtin; go_must ((refine wpList_append_own _ rfl _ _ 62 rfl w.heap.size 5 i0 (.int .u8 0) 1 1 Tryz.underlying62 HI0.out HZ0.out HZ1.out HZ2.out rfl (by decide) u3 acc.length (Lib.byteCells acc) rfl (World.ownsRow.alloc HO.out _) ⟨wr.heap.size, 0, none⟩ 1 1 [.int .u8 c.toNat] rfl rfl (World.news_of_block (cs := #[.int .u8 c.toNat]) (t := 5) (fr := (0, 0)) (heap_alloc_new _ _)) (by simp [Value.oneCell']) (by unfold maxLen; first | omega | simp) (by first | omega | simp) (by simp; omega) ?_; intro v' w1 hown' hgrow hnil; have HOw := Lib.hid hown'; have HGr := Lib.hid hgrow; clear hown' hgrow hnil)))
        have hoA := World.ownsRow.alloc HO.out (.cells #[.int .u8 c.toNat] 5)
        have hB1 : Below w.heap.size w w1 := (HB.out.alloc HB.out.size _).grown HGr.out (by simp; omega) (fun k e => (hoA.lt k e).1)
        have hO1 : w1.ownsRow w.heap.size 5 1 v' (noComma (s.take (i + 1))).length (Lib.byteCells (noComma (s.take (i + 1)))) := by
          rw [HN.out, byteCells_app, List.length_append]
          exact HOw.out
        have HB1 := Lib.hid hB1; have HO1 := Lib.hid hO1
        clear hB1 hO1 hoA HO
        go_wp2_with fail
        exact ⟨⟨i + 1, by simp, by have := HLt.out; omega, HB1, HO1⟩, by have := HLt.out; simp only [intOf]; omega⟩
    · have hd := lss_nat' hlt
      have he : s.take i = s := List.take_of_length_le (by omega)
      rw [he] at HO
      obtain ⟨r, hr⟩ : ∃ r, noComma s = r := ⟨_, rfl⟩
      rw [hr] at HO
      have HR := Lib.hid hr
      have hconv := conv_own (Tryz.prog) HO.out Tryz.underlying62 Tryz.underlying5 Tryz.underlying9
      clear hr he
      go_wp2_with fail
      go_ret
      exact ⟨by rw [HR.out]; rfl, HB.out⟩
def cm1 : List Sec := [⟨1, [⟨1, [35, 44, 35, 35, 48]⟩], 0⟩]
theorem cm1_read : readL (L ⟨#[35, 44, 35, 35, 48]⟩) = (some cm1, 0) := by kernel_rfl
theorem cm1_keep : cm1.filter (keepB false) = cm1 := by kernel_rfl
theorem cm1_pos (n : Int) (hfit : fitsB n = true) (hn : 0 ≤ n) (w : World) (hG : G w) : Calls Tryz.prog 13 #[.string ⟨#[35, 44, 35, 35, 48]⟩, numV n] w (NumPost (numberL n.natAbs [35, 44, 35, 35, 48]) w) := by
  refine apply_num _ cm1 cm1_read n hfit _ w hG fun v base w1 hf hb hG => ?_
  rw [cm1_keep] at hf
  have := numbered_pos _ _ n (by simp) v base w1 hf hb hG (SecOk.num n rfl rfl (by decide) (by decide) (by decide)) hn (by intro _; decide) hfit (by decide)
  rw [sizeBy_num n rfl, writeL_num] at this
  exact this
theorem cm1_neg (n : Int) (hfit : fitsB n = true) (hn : n < 0) (w : World) (hG : G w) : Calls Tryz.prog 13 #[.string ⟨#[35, 44, 35, 35, 48]⟩, numV n] w (NumPost ((numberL n.natAbs [35, 44, 35, 35, 48]).map ([45] ++ ·)) w) := by
  refine apply_num _ cm1 cm1_read n hfit _ w hG fun v base w1 hf hb hG => ?_
  rw [cm1_keep] at hf
  have := numbered_neg1 _ n v base w1 hf hb hG (SecOk.num n rfl rfl (by decide) (by decide) (by decide)) hn hfit
  rw [sizeBy_num n rfl, writeL_num] at this
  exact this
def cm2 : List Sec := [⟨1, [⟨1, [48]⟩], 0⟩]
theorem cm2_read : readL (L ⟨#[48]⟩) = (some cm2, 0) := by kernel_rfl
theorem cm2_keep : cm2.filter (keepB false) = cm2 := by kernel_rfl
theorem cm2_pos (n : Int) (hfit : fitsB n = true) (hn : 0 ≤ n) (w : World) (hG : G w) : Calls Tryz.prog 13 #[.string ⟨#[48]⟩, numV n] w (NumPost (numberL n.natAbs [48]) w) := by
  refine apply_num _ cm2 cm2_read n hfit _ w hG fun v base w1 hf hb hG => ?_
  rw [cm2_keep] at hf
  have := numbered_pos _ _ n (by simp) v base w1 hf hb hG (SecOk.num n rfl rfl (by decide) (by decide) (by decide)) hn (by intro _; decide) hfit (by decide)
  rw [sizeBy_num n rfl, writeL_num] at this
  exact this
theorem cm2_neg (n : Int) (hfit : fitsB n = true) (hn : n < 0) (w : World) (hG : G w) : Calls Tryz.prog 13 #[.string ⟨#[48]⟩, numV n] w (NumPost ((numberL n.natAbs [48]).map ([45] ++ ·)) w) := by
  refine apply_num _ cm2 cm2_read n hfit _ w hG fun v base w1 hf hb hG => ?_
  rw [cm2_keep] at hf
  have := numbered_neg1 _ n v base w1 hf hb hG (SecOk.num n rfl rfl (by decide) (by decide) (by decide)) hn hfit
  rw [sizeBy_num n rfl, writeL_num] at this
  exact this
theorem num_pair (N : Nat) : (numberL N [48] = none ∧ numberL N [35, 44, 35, 35, 48] = none) ∨ ∃ p, (∀ c ∈ p, isDig c) ∧ numberL N [48] = some p ∧ numberL N [35, 44, 35, 35, 48] = some (commasL p) := by
  have h1 : Lib.cut [48] [46] = ([48], [], false) := by kernel_rfl
  have h2 : Lib.cut [35, 44, 35, 35, 48] [46] = ([35, 44, 35, 35, 48], [], false) := by kernel_rfl
  have h3 : Lib.contains [48] [44] = false := by kernel_rfl
  have h4 : Lib.contains [35, 44, 35, 35, 48] [44] = true := by kernel_rfl
  unfold numberL
  simp only [h1, h2, List.length_nil]
  by_cases hr : (roundL N (min 0 6)).2 ≠ 0
  · rw [if_pos hr, if_pos hr]; exact .inl ⟨rfl, rfl⟩
  · rw [if_neg hr, if_neg hr, outL_plain _ _ h3, outL_commas _ _ h4]
    refine .inr ⟨_, wholeL_dig _ _, by simp <;> rfl, by simp <;> rfl⟩
/-- What a call tells: a text and a reason. -/
def Tell (s : List UInt8) (c : Int) (w : World) (e : Ending) (w' : World) : Prop := e = .returned (.tuple #[.string ⟨s.toArray⟩, .int .i64 c]) ∧ Below w.heap.size w w'
theorem noComma_dig (p : List UInt8) (h : ∀ c ∈ p, isDig c) : noComma (commasL p) = p := commasFrom_filter true p (fun c hc => (h c hc).ne44)
theorem commas_pair (n : Int) : ∃ s t c, noComma s = t ∧ PlaceOk s ∧ s.length ≤ 700 ∧
    (∀ w, G w → Calls Tryz.prog 13 #[.string ⟨#[35, 44, 35, 35, 48]⟩, numV n] w (Tell s c w)) ∧ (∀ w, G w → Calls Tryz.prog 13 #[.string ⟨#[48]⟩, numV n] w (Tell t c w)) := by
  cases hfit : fitsB n with
  | false =>
    refine ⟨[], [], 2, rfl, by intro i c h; simp at h, by simp, fun w hG => ?_, fun w hG => ?_⟩
    · exact (apply_over _ cm1 cm1_read n hfit w hG).mono fun e w' h => h
    · exact (apply_over _ cm2 cm2_read n hfit w hG).mono fun e w' h => h
  | true =>
    have key : ∀ (sg : List UInt8) (f : List UInt8 → Option (List UInt8)), sg = [] ∨ sg = [45] → ∀ q1 q2 : Option (List UInt8), q1 = (numberL n.natAbs [35, 44, 35, 35, 48]).map (sg ++ ·) → q2 = (numberL n.natAbs [48]).map (sg ++ ·) →
        (∀ w, G w → Calls Tryz.prog 13 #[.string ⟨#[35, 44, 35, 35, 48]⟩, numV n] w (NumPost q1 w)) → (∀ w, G w → Calls Tryz.prog 13 #[.string ⟨#[48]⟩, numV n] w (NumPost q2 w)) →
        ∃ s t c, noComma s = t ∧ PlaceOk s ∧ s.length ≤ 700 ∧
    (∀ w, G w → Calls Tryz.prog 13 #[.string ⟨#[35, 44, 35, 35, 48]⟩, numV n] w (Tell s c w)) ∧ (∀ w, G w → Calls Tryz.prog 13 #[.string ⟨#[48]⟩, numV n] w (Tell t c w)) := by
      intro sg _ hsg q1 q2 e1 e2 C1 C2
      rcases num_pair n.natAbs with ⟨h1, h2⟩ | ⟨p, hp, h1, h2⟩
      · rw [h2] at e1; rw [h1] at e2
        subst e1; subst e2
        exact ⟨[], [], 5, rfl, by intro i c h; simp at h, by simp, fun w hG => (C1 w hG).mono fun e w' h => ⟨h.2, h.1⟩, fun w hG => (C2 w hG).mono fun e w' h => ⟨h.2, h.1⟩⟩
      · have hlen := numberL_len _ _ _ (by decide) h2
        rw [h2] at e1; rw [h1] at e2
        subst e1; subst e2
        refine ⟨sg ++ commasL p, sg ++ p, 0, ?_, ?_, ?_, fun w hG => (C1 w hG).mono fun e w' h => ⟨h.2, h.1⟩, fun w hG => (C2 w hG).mono fun e w' h => ⟨h.2, h.1⟩⟩
        · have := noComma_dig p hp
          rcases hsg with rfl | rfl
          · exact this
          · unfold noComma at this ⊢
            rw [List.filter_append, this]; rfl
        · rcases hsg with rfl | rfl
          · exact place_plain p hp
          · exact place_minus p hp
        · rcases hsg with rfl | rfl <;> simp only [List.length_append, List.length_cons, List.length_nil] <;> omega
    by_cases hn : n < 0
    · exact key [45] some (.inr rfl) _ _ rfl rfl (fun w hG => cm1_neg n hfit hn w hG) (fun w hG => cm2_neg n hfit hn w hG)
    · refine key [] some (.inl rfl) (numberL n.natAbs [35, 44, 35, 35, 48]) (numberL n.natAbs [48]) ?_ ?_ (fun w hG => cm1_pos n hfit (by omega) w hG) (fun w hG => cm2_pos n hfit (by omega) w hG)
      · cases numberL n.natAbs [35, 44, 35, 35, 48] <;> simp
      · cases numberL n.natAbs [48] <;> simp
set_option maxRecDepth 100000 in
set_option maxHeartbeats 2000000 in
theorem codesCommas_walk (n : Int) (h0 : -9223372036854775808 ≤ n) (h1 : n ≤ 9223372036854775807) (w : World) (hG : G w) : Calls Tryz.prog 4 #[.int .i64 n] w (Yes w) := by
  obtain ⟨s, t, c, hst, hpl, hsl, C1, C2⟩ := commas_pair n
  have HG0 := Lib.hid hG; have HST := Lib.hid hst; have HPL := Lib.hid hpl; have HC1 := Lib.hid C1; have HC2 := Lib.hid C2
  have HB0 : Hid (Below w.heap.size w w) := Below.refl _ _
  clear hG hst hpl C1 C2 h0 h1
  unfold numV at *
  go_enter Tryz.func4, Tryz.ntmps4
  go_wp2_with fail
  refine (number_mk _ _).mono ?_
  rintro e w1 ⟨rfl, hb⟩
  have HB1 := Lib.hid (HB0.out.trans (hb.mono HB0.out.size)); have HG1 := G.below2 HG0 hb
  clear hb
  unfold numV
  go_wp2_with fail
  refine (HC1.out _ HG1.out).mono ?_
  rintro e w2 ⟨rfl, hb⟩
  have HB2 := Lib.hid (HB1.out.trans (hb.mono HB1.out.size)); have HG2 := G.below2 HG1 hb
  clear hb
  go_wp2_with fail
  refine (number_mk _ _).mono ?_
  rintro e w3 ⟨rfl, hb⟩
  have HB3 := Lib.hid (HB2.out.trans (hb.mono HB2.out.size)); have HG3 := G.below2 HG2 hb
  clear hb
  unfold numV
  go_wp2_with fail
  refine (HC2.out _ HG3.out).mono ?_
  rintro e w4 ⟨rfl, hb⟩
  have HB4 := Lib.hid (HB3.out.trans (hb.mono HB3.out.size)); have HG4 := G.below2 HG3 hb
  clear hb
  go_wp2_with fail
  refine (noComma_any s (by omega) _).mono ?_
  rintro e w5 ⟨rfl, hb⟩
  rw [HST.out]
  have HB5 := Lib.hid (HB4.out.trans (hb.mono HB4.out.size)); have HG5 := G.below2 HG4 hb
  clear hb
  go_wp2_with fail
  go_loopw [7] (fun k wr => ∃ i : Nat, k = .int .i64 i ∧ i ≤ s.length ∧ Hid (Below w5.heap.size w5 wr)) (fun k _ => s.length - (intOf k).toNat)
  case atStart => exact ⟨0, rfl, by omega, Below.refl _ _⟩
  case round =>
    obtain ⟨i, rfl, hi, HB⟩ := hrel
    by_cases hlt : i < s.length
    · have hd := lss_nat hlt
      have hP := HPL.out i s[i] (List.getElem?_eq_getElem hlt)
      have hx := get_B (List.getElem?_eq_getElem hlt)
      generalize s[i] = c at *
      have HLt := Lib.hid hlt
      obtain ⟨d, hdd⟩ : ∃ d, s.length - i = d := ⟨_, rfl⟩
      have hsub : IntKind.i64.wrap ((s.length : Int) - (i : Int)) = (d : Int) := by rw [IntWalk.i64_in _ (by omega)]; omega
      rw [hdd] at hP
      by_cases h4 : d % 4 = 0
      · have t4 : ((d : Int).tmod 4 == 0) = true := by rw [Int.tmod_eq_emod_of_nonneg (by omega)]; simp; omega
        by_cases hi0 : 0 < i
        · have ti : decide ((0 : Int) < (i : Int)) = true := by simpa using hi0
          obtain ⟨j, hj⟩ : ∃ j, i - 1 = j := ⟨_, rfl⟩
          have hw1 : IntKind.i64.wrap ((i : Int) - 1) = (j : Int) := by rw [IntWalk.i64_in _ (by omega)]; omega
          have hjl : j < s.length := by omega
          have hjd := lss_nat hjl
          have hy := get_B (List.getElem?_eq_getElem hjl)
          rw [hj, List.getElem?_eq_getElem hjl] at hP
          generalize s[j] = y at *
          by_cases hy45 : y = 45
          · have hc : c ≠ 44 := fun e => (hP.1 e).2.2 (by rw [hy45])
            have tc : ((c.toNat : Int) == 44) = false := by
              simp only [beq_eq_false_iff_ne, ne_eq]; intro h; exact hc (UInt8.toNat_inj.1 (by simp; omega))
            have ty : ((y.toNat : Int) != 45) = false := by simp [hy45]
            clear hP hc h4 hdd hj hy45
            go_wp2_with fail
            go_quiet (fail)
            all_goals
              go_wp2_with fail
              exact ⟨⟨i + 1, by simp, by have := HLt.out; omega, Lib.hid (below_drewN HB.out _)⟩, by have := HLt.out; simp only [intOf]; omega⟩
          · have hc : c = 44 := hP.2 ⟨h4, hi0, by simpa using hy45⟩
            have tc : ((c.toNat : Int) == 44) = true := by simp [hc]
            have ty : ((y.toNat : Int) != 45) = true := by
              simp only [bne_iff_ne, ne_eq]; intro h; exact hy45 (UInt8.toNat_inj.1 (by simp; omega))
            clear hP hc h4 hdd hj hy45
            go_wp2_with fail
            go_quiet (fail)
            all_goals
              go_wp2_with fail
              exact ⟨⟨i + 1, by simp, by have := HLt.out; omega, Lib.hid (below_drewN HB.out _)⟩, by have := HLt.out; simp only [intOf]; omega⟩
        · have hc : c ≠ 44 := fun e => hi0 (hP.1 e).2.1
          have tc : ((c.toNat : Int) == 44) = false := by
            simp only [beq_eq_false_iff_ne, ne_eq]; intro h; exact hc (UInt8.toNat_inj.1 (by simp; omega))
          have hi00 : i = 0 := by omega
          have ti : decide ((0 : Int) < (i : Int)) = false := by simp; omega
          have tN : decide (0 < i) = false := by simp; omega
          clear hP hc h4 hdd hi00
          go_wp2_with fail
          go_quiet (fail)
          all_goals
            go_wp2_with fail
            exact ⟨⟨i + 1, by simp, by have := HLt.out; omega, Lib.hid (below_drewN HB.out _)⟩, by have := HLt.out; simp only [intOf]; omega⟩
      · have t4 : ((d : Int).tmod 4 == 0) = false := by rw [Int.tmod_eq_emod_of_nonneg (by omega)]; simp; omega
        have hc : c ≠ 44 := fun e => h4 (hP.1 e).1
        have tc : ((c.toNat : Int) == 44) = false := by
          simp only [beq_eq_false_iff_ne, ne_eq]; intro h; exact hc (UInt8.toNat_inj.1 (by simp; omega))
        clear hP hc h4 hdd
        go_wp2_with fail
        go_quiet (fail)
        all_goals
          go_wp2_with fail
          exact ⟨⟨i + 1, by simp, by have := HLt.out; omega, Lib.hid (below_drewN HB.out _)⟩, by have := HLt.out; simp only [intOf]; omega⟩
    · have hd := lss_nat' hlt
      go_wp2_with fail
      refine (lives_any _ (G.below2 HG5 HB.out).out).mono ?_
      rintro e w9 ⟨rfl, hb⟩
      go_wp2_with fail
      go_ret
      have := HB.out.trans (hb.mono HB.out.size)
      exact ⟨rfl, HB5.out.trans (this.mono HB5.out.size)⟩
end Go.Proofs.YtpknbdgmpfhcnaaGreatDoor
