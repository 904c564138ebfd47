/- The walk of CodesTexts: a text goes through a format without @ as it is, and @ alone changes nothing; words go ahead of a number as they are. -/
import Derived.Test.YtpknbdgmpfhcnaaGreatDoorLb
import Derived.Test.YtpknbdgmpfhcnaaGreatDoorLc
namespace Go.Proofs.YtpknbdgmpfhcnaaGreatDoor
set_option linter.unusedVariables false
set_option linter.unusedSimpArgs false
open Go.RowKit
/-- A format of words alone has no section for texts. -/
theorem plain_keep (q : List UInt8) (h0 : (readL q).2 = 0) (h1 : plainL q = true) : ∃ l, readL q = (some l, 0) ∧ l.filter (keepB true) = [] := by
  obtain ⟨r, er, hr⟩ : ∃ r er, readL q = (r, er) := ⟨_, _, rfl⟩
  rw [hr] at h0
  simp only at h0
  subst h0
  unfold plainL at h1
  rw [hr] at h1
  cases r with
  | none => simp [plainOf] at h1
  | some l =>
    refine ⟨l, hr, ?_⟩
    simp only [plainOf, List.all_eq_true] at h1
    rw [List.filter_eq_nil_iff]
    intro s hs hk
    have hz := h1 s hs
    unfold keepB at hk
    simp at hz hk
    omega
def tx1 : List Sec := [⟨1, [⟨1, [48, 46, 48, 35]⟩], 0⟩]
theorem tx1_read : readL (L ⟨#[48, 46, 48, 35]⟩) = (some tx1, 0) := by kernel_rfl
theorem tx1_keep : tx1.filter (keepB false) = tx1 := by kernel_rfl
theorem tx1_pos (n : Int) (hfit : fitsB n = true) (hn : 0 ≤ n) (w : World) (hG : G w) : Calls Tryz.prog 13 #[.string ⟨#[48, 46, 48, 35]⟩, numV n] w (NumPost (numberL n.natAbs [48, 46, 48, 35]) w) := by
  refine apply_num _ tx1 tx1_read n hfit _ w hG fun v base w1 hf hb hG => ?_
  rw [tx1_keep] at hf
  have := numbered_pos _ _ n (by simp) v base w1 hf hb hG (SecOk.num n rfl rfl (by decide) (by decide) (by decide)) hn (by intro _; decide) hfit (by decide)
  rw [sizeBy_num n rfl, writeL_num] at this
  exact this
/-- Words in quotes ahead of a number. -/
def tx2 (s : List UInt8) : List Sec := [⟨1, [⟨0, s⟩, ⟨1, [48, 46, 48, 35]⟩], 0⟩]
theorem tx2_read (s : List UInt8) (hs : s.length ≤ 50) (h : (34 : UInt8) ∉ s) : readL (34 :: (s ++ [34, 48, 46, 48, 35])) = (some (tx2 s), 0) := by
  have hlen : (34 :: (s ++ [34, 48, 46, 48, 35])).length = s.length + 6 := by simp
  have h1 : nextL (34 :: (s ++ [34, 48, 46, 48, 35])) = some (⟨0, s⟩, [48, 46, 48, 35]) := by
    rw [nextL_cons, if_pos rfl, quoteL_some s [48, 46, 48, 35] h]; rfl
  have h2 : nextL [48, 46, 48, 35] = some (⟨1, [48, 46, 48, 35]⟩, []) := by kernel_rfl
  have h3 : sectionL (34 :: (s ++ [34, 48, 46, 48, 35])) = some (⟨1, [⟨0, s⟩, ⟨1, [48, 46, 48, 35]⟩], 0⟩, []) := by
    unfold sectionL
    rw [hlen]
    have hr : runL stepS (s.length + 6 + 1) ⟨0, [], 0, 0⟩ (34 :: (s ++ [34, 48, 46, 48, 35])) = some (⟨1, [⟨0, s⟩, ⟨1, [48, 46, 48, 35]⟩], 0, 1⟩, []) := by
      rw [runL, if_neg (by simp [stopped]), h1]
      show runL stepS (s.length + 5 + 1) ⟨0, [⟨0, s⟩], 0, 0⟩ [48, 46, 48, 35] = _
      rw [runL, if_neg (by simp [stopped]), h2]
      show runL stepS (s.length + 4 + 1) ⟨1, [⟨0, s⟩, ⟨1, [48, 46, 48, 35]⟩], 0, 1⟩ [] = _
      rw [runL, if_pos (by simp [stopped])]
    rw [hr]; rfl
  unfold readL
  rw [hlen, if_neg (by omega), h3]
  rfl
theorem tx2_pos (s : List UInt8) (hs : s.length ≤ 50) (h : (34 : UInt8) ∉ s) (n : Int) (hfit : fitsB n = true) (hn : 0 ≤ n) (w : World) (hG : G w) :
    Calls Tryz.prog 13 #[.string ⟨(34 :: (s ++ [34, 48, 46, 48, 35])).toArray⟩, numV n] w (NumPost ((numberL n.natAbs [48, 46, 48, 35]).map (s ++ ·)) w) := by
  refine apply_num ⟨(34 :: (s ++ [34, 48, 46, 48, 35])).toArray⟩ (tx2 s) (tx2_read s hs h) n hfit _ w hG fun v base w1 hf hb hG => ?_
  rw [show (tx2 s).filter (keepB false) = tx2 s from rfl] at hf
  have := numbered_pos _ _ n (by simp) v base w1 hf hb hG (SecOk.num n rfl rfl (by simp) (by intro p hp; simp at hp; rcases hp with rfl | rfl <;> simp <;> omega) (by intro p hp; simp at hp; rcases hp with rfl | rfl <;> simp)) hn (by intro _; decide) hfit (by show (1 : Int) ≠ 2; decide)
  rw [sizeBy_num n rfl] at this
  have hw : writeL n.natAbs [] [⟨0, s⟩, ⟨1, [48, 46, 48, 35]⟩] = (numberL n.natAbs [48, 46, 48, 35]).map (s ++ ·) := by
    simp only [writeL]
    have h1 : pieceW n.natAbs [] ⟨1, [48, 46, 48, 35]⟩ = numberL n.natAbs [48, 46, 48, 35] := by unfold pieceW; rw [if_pos rfl]
    have h2 : pieceW n.natAbs [] ⟨0, s⟩ = some s := by unfold pieceW; rw [if_neg (by simp), if_neg (by simp), if_neg (by simp)]
    rw [h1, h2]
    cases numberL n.natAbs [48, 46, 48, 35] <;> simp
  rw [hw] at this
  exact this
theorem at_text (s : List UInt8) (hs : s.length ≤ 255) (w : World) (hG : G w) : Calls Tryz.prog 13 #[.string ⟨#[64]⟩, textV s] w (NumPost (some s) w) := by
  have h := apply_at ⟨#[64]⟩ [⟨3, [⟨3, [64]⟩], 0⟩] (by kernel_rfl) s hs w hG ⟨3, [⟨3, [64]⟩], 0⟩ [] (by kernel_rfl) rfl (by decide) (by decide) (by decide)
  have hw : writeL 0 s [⟨3, [64]⟩] = some s := by
    simp only [writeL]
    have : pieceW 0 s ⟨3, [64]⟩ = some s := by unfold pieceW; rw [if_neg (by decide), if_neg (by decide), if_pos rfl]
    rw [this]; simp
  rw [hw] at h
  exact h
/-- The two texts of a number, with words ahead and without. -/
theorem words_pair (s : List UInt8) (hs : s.length ≤ 50) (h : (34 : UInt8) ∉ s) (n : Int) (hn : 0 ≤ n) : ∃ a b c, (c = 0 → b = s ++ a) ∧ a.length ≤ 300 ∧
    (∀ w, G w → Calls Tryz.prog 13 #[.string ⟨#[48, 46, 48, 35]⟩, numV n] w (Tell a c w)) ∧ (∀ w, G w → Calls Tryz.prog 13 #[.string ⟨(34 :: (s ++ [34, 48, 46, 48, 35])).toArray⟩, numV n] w (Tell b c w)) := by
  cases hfit : fitsB n with
  | false => exact ⟨[], [], 2, by omega, by simp, fun w hG => apply_over _ tx1 tx1_read n hfit w hG, fun w hG => apply_over ⟨(34 :: (s ++ [34, 48, 46, 48, 35])).toArray⟩ (tx2 s) (tx2_read s hs h) n hfit w hG⟩
  | true =>
    have C1 := fun w hG => tx1_pos n hfit hn w hG
    have C2 := fun w hG => tx2_pos s hs h n hfit hn w hG
    cases hq : numberL n.natAbs [48, 46, 48, 35] with
    | none =>
      rw [hq] at C1 C2
      exact ⟨[], [], 5, by omega, by simp, fun w hG => (C1 w hG).mono fun e w' h => ⟨h.2, h.1⟩, fun w hG => (C2 w hG).mono fun e w' h => ⟨h.2, h.1⟩⟩
    | some t =>
      have hl := numberL_len _ _ _ (by decide) hq
      rw [hq] at C1 C2
      exact ⟨t, s ++ t, 0, fun _ => rfl, hl, fun w hG => (C1 w hG).mono fun e w' h => ⟨h.2, h.1⟩, fun w hG => (C2 w hG).mono fun e w' h => ⟨h.2, h.1⟩⟩
set_option maxRecDepth 100000 in
set_option maxHeartbeats 4000000 in
theorem codesTexts_list (cd : ByteArray) (s : List UInt8) (n : Int) (h0 : -9223372036854775808 ≤ n) (h1 : n ≤ 9223372036854775807) (w : World) (hG : G w) : Calls Tryz.prog 5 #[.string cd, .string ⟨s.toArray⟩, .int .i64 n] w (Yes w) := by
  have HG0 := Lib.hid hG
  have HB0 : Hid (Below w.heap.size w w) := Below.refl _ _
  clear hG
  by_cases h255 : 255 < s.length
  · have t255 : decide ((255 : Int) < (s.length : Int)) = true := by simp; omega
    go_enter Tryz.func5, Tryz.ntmps5
    go_wp2_with fail
    refine (lives_any _ HG0.out).mono ?_
    rintro e w9 ⟨rfl, hb⟩
    go_wp2_with fail
    go_ret
    exact ⟨rfl, hb⟩
  · have t255 : decide ((255 : Int) < (s.length : Int)) = false := by simp; omega
    have hsl : s.length ≤ 255 := by omega
    have HAt := Lib.hid (fun w hG => at_text s hsl w hG)
    unfold textV at HAt
    have HCk := Lib.hid (fun w hG => check_any cd w hG); have HPl := Lib.hid (fun w hG => plain_any cd w hG)
    obtain ⟨er, her⟩ : ∃ er, (readL (L cd)).2 = er := ⟨_, rfl⟩
    obtain ⟨pl, hpl⟩ : ∃ pl, plainL (L cd) = pl := ⟨_, rfl⟩
    have HK : Hid (er = 0 → pl = true → ∃ l, readL (L cd) = (some l, 0) ∧ l.filter (keepB true) = []) := by
      intro h1 h2; exact plain_keep _ (by rw [her, h1]) (by rw [hpl, h2])
    rw [her] at HCk; rw [hpl] at HPl
    clear her hpl h255
    go_enter Tryz.func5, Tryz.ntmps5
    go_wp2_with fail
    refine (HCk.out _ HG0.out).mono ?_
    rintro e w1 ⟨rfl, hb⟩
    have HB5 := Lib.hid (HB0.out.trans (hb.mono HB0.out.size)); have HG5 := G.below2 HG0 hb
    clear hb
    by_cases he : er = 0
    · have te : (er == 0) = true := by simpa using he
      go_wp2_with fail
      refine (HPl.out _ HG5.out).mono ?_
      rintro e w2 ⟨rfl, hb⟩
      have HB6 := Lib.hid (HB5.out.trans (hb.mono HB5.out.size)); have HG6 := G.below2 HG5 hb
      clear hb
      cases pl with
      | true =>
        obtain ⟨l, hr, hl⟩ := HK.out he rfl
        have HTx := Lib.hid (fun w hG => apply_text cd l hr s hsl w hG hl)
        unfold textV at HTx
        clear hr hl he
        go_wp2_with fail
        refine (text_mk _ _).mono ?_
        rintro e u6 ⟨rfl, hb⟩
        have HBa := Lib.hid (HB6.out.trans (hb.mono HB6.out.size)); have HGa := G.below2 HG6 hb
        clear hb
        unfold textV
        go_wp2_with fail
        refine (is_yes _ _ _ _ _ _ _ HTx.out _ HGa.out).mono ?_
        rintro e v6 ⟨rfl, hb⟩
        have HB7 := Lib.hid (HBa.out.trans (hb.mono HBa.out.size)); have HG7 := G.below2 HGa hb
        clear hb
        (
          go_wp2_with fail
          refine (text_mk _ _).mono ?_
          rintro e u7 ⟨rfl, hb⟩
          have HB8 := Lib.hid (HB7.out.trans (hb.mono HB7.out.size)); have HG8 := G.below2 HG7 hb
          clear hb
          unfold textV
          go_wp2_with fail
          refine (is_yes _ _ _ _ _ _ _ HAt.out _ HG8.out).mono ?_
          rintro e v7 ⟨rfl, hb⟩
          have HB9 := Lib.hid (HB8.out.trans (hb.mono HB8.out.size)); have HG9 := G.below2 HG8 hb
          clear hb
          go_wp2_with fail
          go_loopw [7] (fun k wr => ∃ i : Nat, k = .int .i64 i ∧ i ≤ s.length ∧ wr = v7 ∧ Hid ((34 : UInt8) ∉ s.take i)) (fun k _ => s.length - (intOf k).toNat)
          case atStart => exact ⟨0, rfl, by omega, rfl, by simp [Hid]⟩
          case round =>
            obtain ⟨i, rfl, hi, rfl, HI⟩ := hrel
            by_cases hlt : i < s.length
            · have hd := lss_nat hlt
              have hx := get_B (List.getElem?_eq_getElem hlt)
              have HT := Lib.hid (List.take_succ_eq_append_getElem hlt : s.take (i + 1) = s.take i ++ [s[i]])
              generalize s[i] = c at *
              have HLt := Lib.hid hlt
              by_cases hc : c = 34
              · have tc : ((c.toNat : Int) == 34) = true := by simp [hc]
                clear hc
                go_wp2_with fail
                refine (lives_any _ HG9.out).mono ?_
                rintro e w9 ⟨rfl, hb⟩
                go_wp2_with fail
                go_ret
                exact ⟨rfl, HB9.out.trans (hb.mono HB9.out.size)⟩
              · have tc : ((c.toNat : Int) == 34) = false := by
                  simp only [beq_eq_false_iff_ne, ne_eq]; intro h; exact hc (UInt8.toNat_inj.1 (by simp; omega))
                have HI2 : Hid ((34 : UInt8) ∉ s.take (i + 1)) := by
                  have := HI.out
                  show _ ∉ _
                  rw [HT.out]
                  simp only [List.mem_append, List.mem_singleton, not_or]
                  exact ⟨this, fun e => hc e.symm⟩
                clear hc
                go_wp2_with fail
                exact ⟨⟨i + 1, by simp, by have := HLt.out; omega, by first | rfl | trivial, HI2⟩, by have := HLt.out; simp only [intOf]; omega⟩
            · have hd := lss_nat' hlt
              have he : s.take i = s := List.take_of_length_le (by omega)
              rw [he] at HI
              clear he
              by_cases h50 : 50 < s.length
              · have t50 : decide ((50 : Int) < (s.length : Int)) = true := by simp; omega
                go_wp2_with fail
                refine (lives_any _ HG9.out).mono ?_
                rintro e w9 ⟨rfl, hb⟩
                go_wp2_with fail
                go_ret
                exact ⟨rfl, HB9.out.trans (hb.mono HB9.out.size)⟩
              · have t50 : decide ((50 : Int) < (s.length : Int)) = false := by simp; omega
                by_cases hn : n < 0
                · have tn : decide (n < 0) = true := by simpa using hn
                  go_wp2_with fail
                  refine (lives_any _ HG9.out).mono ?_
                  rintro e w9 ⟨rfl, hb⟩
                  go_wp2_with fail
                  go_ret
                  exact ⟨rfl, HB9.out.trans (hb.mono HB9.out.size)⟩
                · have tn : decide (n < 0) = false := by simpa using hn
                  obtain ⟨a, b, c, hab, hal, C1, C2⟩ := words_pair s (by omega) HI.out n (by omega)
                  have HC1 := Lib.hid C1; have HC2 := Lib.hid C2
                  have hk1 : (⟨#[34]⟩ : ByteArray) ++ ⟨s.toArray⟩ = ⟨(34 :: s).toArray⟩ := cat_B [34] s
                  have hk2 : (⟨(34 :: s).toArray⟩ : ByteArray) ++ ⟨#[34, 48, 46, 48, 35]⟩ = ⟨(34 :: (s ++ [34, 48, 46, 48, 35])).toArray⟩ := cat_B (34 :: s) [34, 48, 46, 48, 35]
                  have hk3 : (⟨s.toArray⟩ : ByteArray) ++ ⟨a.toArray⟩ = ⟨(s ++ a).toArray⟩ := cat_B s a
                  have hl1 : 1 + s.length ≤ 51 := by omega
                  have hl2 : s.length + 1 + 5 ≤ 56 := by omega
                  have hl3 : s.length + a.length ≤ 350 := by omega
                  clear C1 C2 hn hk3
                  unfold numV at *
                  go_wp2_with fail
                  refine (number_mk _ _).mono ?_
                  rintro e x1 ⟨rfl, hb⟩
                  have HB10 := Lib.hid (HB9.out.trans (hb.mono HB9.out.size)); have HG10 := G.below2 HG9 hb
                  clear hb
                  unfold numV
                  go_wp2_with fail
                  refine (HC1.out _ HG10.out).mono ?_
                  rintro e x2 ⟨rfl, hb⟩
                  have HB11 := Lib.hid (HB10.out.trans (hb.mono HB10.out.size)); have HG11 := G.below2 HG10 hb
                  clear hb
                  go_wp2_with fail
                  refine (number_mk _ _).mono ?_
                  rintro e x3 ⟨rfl, hb⟩
                  have HB12 := Lib.hid (HB11.out.trans (hb.mono HB11.out.size)); have HG12 := G.below2 HG11 hb
                  clear hb
                  unfold numV
                  go_wp2_with fail
                  refine (HC2.out _ HG12.out).mono ?_
                  rintro e x4 ⟨rfl, hb⟩
                  have HB13 := Lib.hid (HB12.out.trans (hb.mono HB12.out.size)); have HG13 := G.below2 HG12 hb
                  clear hb hk1 hk2
                  have hk3 : (⟨s.toArray⟩ : ByteArray) ++ ⟨a.toArray⟩ = ⟨(s ++ a).toArray⟩ := cat_B s a
                  by_cases hc0 : c = 0
                  · have hba := hab hc0
                    subst hba
                    subst hc0
                    clear hab
                    go_wp2_with fail
                    refine (lives_any _ HG13.out).mono ?_
                    rintro e w9 ⟨rfl, hb⟩
                    go_wp2_with fail
                    go_ret
                    exact ⟨rfl, HB13.out.trans (hb.mono HB13.out.size)⟩
                  · have tc0 : (c != 0) = true := by simpa using hc0
                    clear hab
                    go_wp2_with fail
                    refine (lives_any _ HG13.out).mono ?_
                    rintro e w9 ⟨rfl, hb⟩
                    go_wp2_with fail
                    go_ret
                    exact ⟨rfl, HB13.out.trans (hb.mono HB13.out.size)⟩)
      | false =>
        clear he
        have HB7 := HB6; have HG7 := HG6
        (
          go_wp2_with fail
          refine (text_mk _ _).mono ?_
          rintro e u7 ⟨rfl, hb⟩
          have HB8 := Lib.hid (HB7.out.trans (hb.mono HB7.out.size)); have HG8 := G.below2 HG7 hb
          clear hb
          unfold textV
          go_wp2_with fail
          refine (is_yes _ _ _ _ _ _ _ HAt.out _ HG8.out).mono ?_
          rintro e v7 ⟨rfl, hb⟩
          have HB9 := Lib.hid (HB8.out.trans (hb.mono HB8.out.size)); have HG9 := G.below2 HG8 hb
          clear hb
          go_wp2_with fail
          go_loopw [7] (fun k wr => ∃ i : Nat, k = .int .i64 i ∧ i ≤ s.length ∧ wr = v7 ∧ Hid ((34 : UInt8) ∉ s.take i)) (fun k _ => s.length - (intOf k).toNat)
          case atStart => exact ⟨0, rfl, by omega, rfl, by simp [Hid]⟩
          case round =>
            obtain ⟨i, rfl, hi, rfl, HI⟩ := hrel
            by_cases hlt : i < s.length
            · have hd := lss_nat hlt
              have hx := get_B (List.getElem?_eq_getElem hlt)
              have HT := Lib.hid (List.take_succ_eq_append_getElem hlt : s.take (i + 1) = s.take i ++ [s[i]])
              generalize s[i] = c at *
              have HLt := Lib.hid hlt
              by_cases hc : c = 34
              · have tc : ((c.toNat : Int) == 34) = true := by simp [hc]
                clear hc
                go_wp2_with fail
                refine (lives_any _ HG9.out).mono ?_
                rintro e w9 ⟨rfl, hb⟩
                go_wp2_with fail
                go_ret
                exact ⟨rfl, HB9.out.trans (hb.mono HB9.out.size)⟩
              · have tc : ((c.toNat : Int) == 34) = false := by
                  simp only [beq_eq_false_iff_ne, ne_eq]; intro h; exact hc (UInt8.toNat_inj.1 (by simp; omega))
                have HI2 : Hid ((34 : UInt8) ∉ s.take (i + 1)) := by
                  have := HI.out
                  show _ ∉ _
                  rw [HT.out]
                  simp only [List.mem_append, List.mem_singleton, not_or]
                  exact ⟨this, fun e => hc e.symm⟩
                clear hc
                go_wp2_with fail
                exact ⟨⟨i + 1, by simp, by have := HLt.out; omega, by first | rfl | trivial, HI2⟩, by have := HLt.out; simp only [intOf]; omega⟩
            · have hd := lss_nat' hlt
              have he : s.take i = s := List.take_of_length_le (by omega)
              rw [he] at HI
              clear he
              by_cases h50 : 50 < s.length
              · have t50 : decide ((50 : Int) < (s.length : Int)) = true := by simp; omega
                go_wp2_with fail
                refine (lives_any _ HG9.out).mono ?_
                rintro e w9 ⟨rfl, hb⟩
                go_wp2_with fail
                go_ret
                exact ⟨rfl, HB9.out.trans (hb.mono HB9.out.size)⟩
              · have t50 : decide ((50 : Int) < (s.length : Int)) = false := by simp; omega
                by_cases hn : n < 0
                · have tn : decide (n < 0) = true := by simpa using hn
                  go_wp2_with fail
                  refine (lives_any _ HG9.out).mono ?_
                  rintro e w9 ⟨rfl, hb⟩
                  go_wp2_with fail
                  go_ret
                  exact ⟨rfl, HB9.out.trans (hb.mono HB9.out.size)⟩
                · have tn : decide (n < 0) = false := by simpa using hn
                  obtain ⟨a, b, c, hab, hal, C1, C2⟩ := words_pair s (by omega) HI.out n (by omega)
                  have HC1 := Lib.hid C1; have HC2 := Lib.hid C2
                  have hk1 : (⟨#[34]⟩ : ByteArray) ++ ⟨s.toArray⟩ = ⟨(34 :: s).toArray⟩ := cat_B [34] s
                  have hk2 : (⟨(34 :: s).toArray⟩ : ByteArray) ++ ⟨#[34, 48, 46, 48, 35]⟩ = ⟨(34 :: (s ++ [34, 48, 46, 48, 35])).toArray⟩ := cat_B (34 :: s) [34, 48, 46, 48, 35]
                  have hk3 : (⟨s.toArray⟩ : ByteArray) ++ ⟨a.toArray⟩ = ⟨(s ++ a).toArray⟩ := cat_B s a
                  have hl1 : 1 + s.length ≤ 51 := by omega
                  have hl2 : s.length + 1 + 5 ≤ 56 := by omega
                  have hl3 : s.length + a.length ≤ 350 := by omega
                  clear C1 C2 hn hk3
                  unfold numV at *
                  go_wp2_with fail
                  refine (number_mk _ _).mono ?_
                  rintro e x1 ⟨rfl, hb⟩
                  have HB10 := Lib.hid (HB9.out.trans (hb.mono HB9.out.size)); have HG10 := G.below2 HG9 hb
                  clear hb
                  unfold numV
                  go_wp2_with fail
                  refine (HC1.out _ HG10.out).mono ?_
                  rintro e x2 ⟨rfl, hb⟩
                  have HB11 := Lib.hid (HB10.out.trans (hb.mono HB10.out.size)); have HG11 := G.below2 HG10 hb
                  clear hb
                  go_wp2_with fail
                  refine (number_mk _ _).mono ?_
                  rintro e x3 ⟨rfl, hb⟩
                  have HB12 := Lib.hid (HB11.out.trans (hb.mono HB11.out.size)); have HG12 := G.below2 HG11 hb
                  clear hb
                  unfold numV
                  go_wp2_with fail
                  refine (HC2.out _ HG12.out).mono ?_
                  rintro e x4 ⟨rfl, hb⟩
                  have HB13 := Lib.hid (HB12.out.trans (hb.mono HB12.out.size)); have HG13 := G.below2 HG12 hb
                  clear hb hk1 hk2
                  have hk3 : (⟨s.toArray⟩ : ByteArray) ++ ⟨a.toArray⟩ = ⟨(s ++ a).toArray⟩ := cat_B s a
                  by_cases hc0 : c = 0
                  · have hba := hab hc0
                    subst hba
                    subst hc0
                    clear hab
                    go_wp2_with fail
                    refine (lives_any _ HG13.out).mono ?_
                    rintro e w9 ⟨rfl, hb⟩
                    go_wp2_with fail
                    go_ret
                    exact ⟨rfl, HB13.out.trans (hb.mono HB13.out.size)⟩
                  · have tc0 : (c != 0) = true := by simpa using hc0
                    clear hab
                    go_wp2_with fail
                    refine (lives_any _ HG13.out).mono ?_
                    rintro e w9 ⟨rfl, hb⟩
                    go_wp2_with fail
                    go_ret
                    exact ⟨rfl, HB13.out.trans (hb.mono HB13.out.size)⟩)
    · have te : (er == 0) = false := by simpa using he
      clear he
      have HB7 := HB5; have HG7 := HG5
      (
        go_wp2_with fail
        refine (text_mk _ _).mono ?_
        rintro e u7 ⟨rfl, hb⟩
        have HB8 := Lib.hid (HB7.out.trans (hb.mono HB7.out.size)); have HG8 := G.below2 HG7 hb
        clear hb
        unfold textV
        go_wp2_with fail
        refine (is_yes _ _ _ _ _ _ _ HAt.out _ HG8.out).mono ?_
        rintro e v7 ⟨rfl, hb⟩
        have HB9 := Lib.hid (HB8.out.trans (hb.mono HB8.out.size)); have HG9 := G.below2 HG8 hb
        clear hb
        go_wp2_with fail
        go_loopw [7] (fun k wr => ∃ i : Nat, k = .int .i64 i ∧ i ≤ s.length ∧ wr = v7 ∧ Hid ((34 : UInt8) ∉ s.take i)) (fun k _ => s.length - (intOf k).toNat)
        case atStart => exact ⟨0, rfl, by omega, rfl, by simp [Hid]⟩
        case round =>
          obtain ⟨i, rfl, hi, rfl, HI⟩ := hrel
          by_cases hlt : i < s.length
          · have hd := lss_nat hlt
            have hx := get_B (List.getElem?_eq_getElem hlt)
            have HT := Lib.hid (List.take_succ_eq_append_getElem hlt : s.take (i + 1) = s.take i ++ [s[i]])
            generalize s[i] = c at *
            have HLt := Lib.hid hlt
            by_cases hc : c = 34
            · have tc : ((c.toNat : Int) == 34) = true := by simp [hc]
              clear hc
              go_wp2_with fail
              refine (lives_any _ HG9.out).mono ?_
              rintro e w9 ⟨rfl, hb⟩
              go_wp2_with fail
              go_ret
              exact ⟨rfl, HB9.out.trans (hb.mono HB9.out.size)⟩
            · have tc : ((c.toNat : Int) == 34) = false := by
                simp only [beq_eq_false_iff_ne, ne_eq]; intro h; exact hc (UInt8.toNat_inj.1 (by simp; omega))
              have HI2 : Hid ((34 : UInt8) ∉ s.take (i + 1)) := by
                have := HI.out
                show _ ∉ _
                rw [HT.out]
                simp only [List.mem_append, List.mem_singleton, not_or]
                exact ⟨this, fun e => hc e.symm⟩
              clear hc
              go_wp2_with fail
              exact ⟨⟨i + 1, by simp, by have := HLt.out; omega, by first | rfl | trivial, HI2⟩, by have := HLt.out; simp only [intOf]; omega⟩
          · have hd := lss_nat' hlt
            have he : s.take i = s := List.take_of_length_le (by omega)
            rw [he] at HI
            clear he
            by_cases h50 : 50 < s.length
            · have t50 : decide ((50 : Int) < (s.length : Int)) = true := by simp; omega
              go_wp2_with fail
              refine (lives_any _ HG9.out).mono ?_
              rintro e w9 ⟨rfl, hb⟩
              go_wp2_with fail
              go_ret
              exact ⟨rfl, HB9.out.trans (hb.mono HB9.out.size)⟩
            · have t50 : decide ((50 : Int) < (s.length : Int)) = false := by simp; omega
              by_cases hn : n < 0
              · have tn : decide (n < 0) = true := by simpa using hn
                go_wp2_with fail
                refine (lives_any _ HG9.out).mono ?_
                rintro e w9 ⟨rfl, hb⟩
                go_wp2_with fail
                go_ret
                exact ⟨rfl, HB9.out.trans (hb.mono HB9.out.size)⟩
              · have tn : decide (n < 0) = false := by simpa using hn
                obtain ⟨a, b, c, hab, hal, C1, C2⟩ := words_pair s (by omega) HI.out n (by omega)
                have HC1 := Lib.hid C1; have HC2 := Lib.hid C2
                have hk1 : (⟨#[34]⟩ : ByteArray) ++ ⟨s.toArray⟩ = ⟨(34 :: s).toArray⟩ := cat_B [34] s
                have hk2 : (⟨(34 :: s).toArray⟩ : ByteArray) ++ ⟨#[34, 48, 46, 48, 35]⟩ = ⟨(34 :: (s ++ [34, 48, 46, 48, 35])).toArray⟩ := cat_B (34 :: s) [34, 48, 46, 48, 35]
                have hk3 : (⟨s.toArray⟩ : ByteArray) ++ ⟨a.toArray⟩ = ⟨(s ++ a).toArray⟩ := cat_B s a
                have hl1 : 1 + s.length ≤ 51 := by omega
                have hl2 : s.length + 1 + 5 ≤ 56 := by omega
                have hl3 : s.length + a.length ≤ 350 := by omega
                clear C1 C2 hn hk3
                unfold numV at *
                go_wp2_with fail
                refine (number_mk _ _).mono ?_
                rintro e x1 ⟨rfl, hb⟩
                have HB10 := Lib.hid (HB9.out.trans (hb.mono HB9.out.size)); have HG10 := G.below2 HG9 hb
                clear hb
                unfold numV
                go_wp2_with fail
                refine (HC1.out _ HG10.out).mono ?_
                rintro e x2 ⟨rfl, hb⟩
                have HB11 := Lib.hid (HB10.out.trans (hb.mono HB10.out.size)); have HG11 := G.below2 HG10 hb
                clear hb
                go_wp2_with fail
                refine (number_mk _ _).mono ?_
                rintro e x3 ⟨rfl, hb⟩
                have HB12 := Lib.hid (HB11.out.trans (hb.mono HB11.out.size)); have HG12 := G.below2 HG11 hb
                clear hb
                unfold numV
                go_wp2_with fail
                refine (HC2.out _ HG12.out).mono ?_
                rintro e x4 ⟨rfl, hb⟩
                have HB13 := Lib.hid (HB12.out.trans (hb.mono HB12.out.size)); have HG13 := G.below2 HG12 hb
                clear hb hk1 hk2
                have hk3 : (⟨s.toArray⟩ : ByteArray) ++ ⟨a.toArray⟩ = ⟨(s ++ a).toArray⟩ := cat_B s a
                by_cases hc0 : c = 0
                · have hba := hab hc0
                  subst hba
                  subst hc0
                  clear hab
                  go_wp2_with fail
                  refine (lives_any _ HG13.out).mono ?_
                  rintro e w9 ⟨rfl, hb⟩
                  go_wp2_with fail
                  go_ret
                  exact ⟨rfl, HB13.out.trans (hb.mono HB13.out.size)⟩
                · have tc0 : (c != 0) = true := by simpa using hc0
                  clear hab
                  go_wp2_with fail
                  refine (lives_any _ HG13.out).mono ?_
                  rintro e w9 ⟨rfl, hb⟩
                  go_wp2_with fail
                  go_ret
                  exact ⟨rfl, HB13.out.trans (hb.mono HB13.out.size)⟩)
theorem codesTexts_walk (cd s : ByteArray) (n : Int) (h0 : -9223372036854775808 ≤ n) (h1 : n ≤ 9223372036854775807) (w : World) (hG : G w) : Calls Tryz.prog 5 #[.string cd, .string s, .int .i64 n] w (Yes w) :=
  codesTexts_list cd (L s) n h0 h1 w hG
end Go.Proofs.YtpknbdgmpfhcnaaGreatDoor
