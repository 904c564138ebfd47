/- The walk of codes' some: the sections that are, or are not, of the kind text. -/
import Derived.Test.YtpknbdgmpfhcnaaGreatDoorCsP
namespace Go.Proofs.YtpknbdgmpfhcnaaGreatDoor
set_option linter.unusedVariables false
set_option linter.unusedSimpArgs false
open Go.RowKit

/-- Sections whose row lies in blocks from B on, and their pieces' rows in blocks from base on. -/
def OutP (base B : Nat) (v : Value) (l : List Sec) (W : World) : Prop :=
  ∃ vs : List Value, vs.length = l.length ∧ W.ownsRow B 51 3 v l.length (flatSecs l vs) ∧ ∀ (i : Nat) (s : Sec) (u : Value), l[i]? = some s → vs[i]? = some u → W.ownsRow base 98 2 u s.ps.length (flatPs s.ps)
theorem OutP.fmt {base B : Nat} {v : Value} {l : List Sec} {W : World} (h : OutP base B v l W) (hb : base ≤ B) : FmtP base v l W := by
  obtain ⟨vs, h1, h2, h3⟩ := h
  exact ⟨vs, h1, own_mono h2 hb, h3⟩
theorem OutP.nil (base B : Nat) (W : World) : OutP base B (.slice none 0 0) [] W := ⟨[], rfl, World.ownsRow_nil _ _ _ _, fun i s u hs => by simp at hs⟩
theorem OutP.snoc {base B : Nat} {v v' u : Value} {l : List Sec} {s : Sec} {vs : List Value} {W W' : World} (hl : vs.length = l.length) (ho : W.ownsRow B 51 3 v l.length (flatSecs l vs))
    (hp : ∀ (i : Nat) (s : Sec) (u : Value), l[i]? = some s → vs[i]? = some u → W.ownsRow base 98 2 u s.ps.length (flatPs s.ps)) (hu : W.ownsRow base 98 2 u s.ps.length (flatPs s.ps))
    (hg : W.grownBy W' v.ownBlock) (ho' : W'.ownsRow B 51 3 v' (l.length + 1) (flatSecs l vs ++ [.int .i64 s.kind, u, .int .i64 s.hundreds])) : OutP base B v' (l ++ [s]) W' := by
  refine ⟨vs ++ [u], by simp [hl], ?_, fun i s' u' hs hu' => ?_⟩
  · rw [flatSecs_snoc s u l vs hl, List.length_append]; exact ho'
  · by_cases hi : i < l.length
    · rw [List.getElem?_append_left hi] at hs
      rw [List.getElem?_append_left (by omega)] at hu'
      exact (hp i s' u' hs hu').kept hg (own_apart (hp i s' u' hs hu') ho (by decide))
    · rw [List.getElem?_append_right (by omega)] at hs hu'
      have h0 : i - l.length = 0 := by
        rcases Nat.eq_zero_or_pos (i - l.length) with h | h
        · exact h
        · rw [List.getElem?_eq_none (by simp; omega)] at hs; cases hs
      rw [h0] at hs
      rw [hl, h0] at hu'
      simp at hs hu'
      subst hs; subst hu'
      exact hu.kept hg (own_apart hu ho (by decide))
theorem OutP.grown {base B : Nat} {v : Value} {l : List Sec} {W W' : World} (h : OutP base B v l W) (hg : W.grownBy W' none) : OutP base B v l W' := by
  obtain ⟨vs, hl, ho, hp⟩ := h
  have hn : ∀ v : Value, v.ownBlock = none ∨ v.ownBlock ≠ none := fun v => by cases v.ownBlock <;> simp
  exact ⟨vs, hl, ho.kept hg (hn _), fun i s u hs hu => (hp i s u hs hu).kept hg (hn _)⟩
/-- Is a section kept? -/
def keepB (texts : Bool) (s : Sec) : Bool := (s.kind == 3) == texts
set_option maxRecDepth 100000 in
set_option maxHeartbeats 1000000 in
theorem some_any (l : List Sec) (v : Value) (base : Nat) (texts : Bool) (w : World) (hf : FmtP base v l w) (hb : base ≤ w.heap.size) (hl : l.length ≤ 60) :
    Calls Tryz.prog 25 #[v, .bool texts] w fun e w' => ∃ v', e = .returned v' ∧ FmtP base v' (l.filter (keepB texts)) w' ∧ Below w.heap.size w w' := by
  have HC : Hid (∀ (i : Nat) (s : Sec), l[i]? = some s → ∃ g u, (∃ cap, v = .slice (some ⟨g, 0, none⟩) l.length cap) ∧ g < w.heap.size ∧ w.cell? ⟨g, i * 3, none⟩ = some (.int .i64 s.kind) ∧ w.cell? ⟨g, i * 3 + 1, none⟩ = some u ∧ w.cell? ⟨g, i * 3 + 2, none⟩ = some (.int .i64 s.hundreds) ∧ w.ownsRow base 98 2 u s.ps.length (flatPs s.ps)) := by
    intro i s h
    obtain ⟨g, cap, h1, h2, h3, h4, h5⟩ := hf.cells (by rintro rfl; simp at h)
    obtain ⟨u, a1, a2, a3, a4⟩ := h5 i s h
    exact ⟨g, u, ⟨cap, h1⟩, h4, a1, a2, a3, a4⟩
  obtain ⟨a, cap, rfl⟩ := hf.form
  have HF := Lib.hid hf; clear hf
  obtain ⟨i0, hi0, hz0, hz1, hz2⟩ := info_parts infoSec
  have HI0 := Lib.hid hi0; have HZ0 := Lib.hid hz0; have HZ1 := Lib.hid hz1; have HZ2 := Lib.hid hz2
  clear hi0 hz0 hz1 hz2
  go_enter Tryz.func25, Tryz.ntmps25
  go_wp2_with fail
  go_loopw [5, 10] (fun o k wr => ∃ i : Nat, k = .int .i64 i ∧ i ≤ l.length ∧ Hid (Below w.heap.size w wr) ∧ Hid (OutP base w.heap.size o ((l.take i).filter (keepB texts)) wr)) (fun _ k _ => l.length - (intOf k).toNat)
  case atStart => exact ⟨0, rfl, by omega, Below.refl _ _, by simpa [Hid] using OutP.nil base w.heap.size w⟩
  case round =>
    obtain ⟨i, rfl, hi, HB, HO⟩ := hrel
    by_cases hlt : i < l.length
    · have hd := lss_nat hlt
      obtain ⟨s, hs⟩ : ∃ s, l[i]? = some s := ⟨_, List.getElem?_eq_getElem hlt⟩
      obtain ⟨g, u, ⟨cap', hv⟩, hgs, e0, e1, e2, hu⟩ := HC.out i s hs
      injection hv with hv1 hv2 hv3
      subst hv1; subst hv3
      have e0' := (HB.out.cell (p := ⟨g, i * 3, none⟩) hgs).trans e0
      have e1' := (HB.out.cell (p := ⟨g, i * 3 + 1, none⟩) hgs).trans e1
      have e2' := (HB.out.cell (p := ⟨g, i * 3 + 2, none⟩) hgs).trans e2
      have HTk : Hid (l.take (i + 1) = l.take i ++ [s]) := by
        show _ = _
        obtain ⟨h1, rfl⟩ := List.getElem?_eq_some_iff.1 hs
        exact List.take_succ_eq_append_getElem h1
      have HU : Hid (wr.ownsRow base 98 2 u s.ps.length (flatPs s.ps)) := hu.kept (grown_below HB.out none) (by cases u.ownBlock <;> simp)
      obtain ⟨ua, un, uc, rfl⟩ := own_slice hu
      have HLt := Lib.hid hlt
      clear hu e0 e1 e2 hs
      obtain ⟨bk, hbk⟩ : ∃ bk, (s.kind == 3) = bk := ⟨_, rfl⟩
      have HK : Hid (keepB texts s = (bk == texts)) := by show _ = _; unfold keepB; rw [hbk]
      cases hkt : (bk == texts)
      · have HK2 : Hid (keepB texts s = false) := by show _ = _; rw [HK.out, hkt]
        have hB1 : Below w.heap.size w (wr.alloc (.cells #[.int .i64 s.kind, .slice ua un uc, .int .i64 s.hundreds] 51)) := HB.out.alloc HB.out.size _
        have hO1 : OutP base w.heap.size u5 ((l.take (i + 1)).filter (keepB texts)) (wr.alloc (.cells #[.int .i64 s.kind, .slice ua un uc, .int .i64 s.hundreds] 51)) := by
          rw [HTk.out, List.filter_append]
          simp only [List.filter_cons, HK2.out, List.filter_nil, Bool.false_eq_true, if_false, List.append_nil]
          exact HO.out.grown (World.grownBy_alloc _ _ _)
        have HB1 := Lib.hid hB1; have HO1 := Lib.hid hO1
        clear hB1 hO1
        go_wp2_with fail
        exact ⟨⟨i + 1, by simp, by have := HLt.out; omega, HB1, HO1⟩, by have := HLt.out; simp only [intOf]; omega⟩
      · have HK2 : Hid (keepB texts s = true) := by show _ = _; rw [HK.out, hkt]
        obtain ⟨acc, hacc⟩ : ∃ acc, (l.take i).filter (keepB texts) = acc := ⟨_, rfl⟩
        have hal : acc.length ≤ 60 := by
          rw [← hacc]; exact Nat.le_trans (List.length_filter_le _ _) (by simp; omega)
        have HTa : Hid ((l.take (i + 1)).filter (keepB texts) = acc ++ [s]) := by
          show _ = _
          rw [HTk.out, List.filter_append, hacc]
          simp only [List.filter_cons, HK2.out, List.filter_nil, if_true]
        rw [hacc] at HO
        obtain ⟨vs, hvl, hov, hpv⟩ := HO.out
        have HVL := Lib.hid hvl; have HOV := Lib.hid (World.ownsRow.alloc hov (.cells #[.int .i64 s.kind, .slice ua un uc, .int .i64 s.hundreds] 51)); have HPV := Lib.hid hpv
        have hws : w.heap.size ≤ wr.heap.size := HB.out.size
        have k0 := new_cell wr #[.int .i64 s.kind, .slice ua un uc, .int .i64 s.hundreds] 51 0
        have k1 := new_cell wr #[.int .i64 s.kind, .slice ua un uc, .int .i64 s.hundreds] 51 1
        have k2 := new_cell wr #[.int .i64 s.kind, .slice ua un uc, .int .i64 s.hundreds] 51 2
        simp only [List.getElem?_toArray, List.getElem?_cons_succ, List.getElem?_cons_zero] at k0 k1 k2
        clear hvl hov hpv HO hacc HTk
        go_wp2_with (at_builtin; go_must ((refine wpList_append_own _ rfl _ _ 42 rfl w.heap.size 51 i0 (.agg #[.int .i64 0, .slice none 0 0, .int .i64 0]) 3 40 Tryz.underlying42 HI0.out HZ0.out HZ1.out HZ2.out rfl (by decide) u5 acc.length (flatSecs acc vs) rfl (World.ownsRow.alloc HOV.out _) ⟨wr.heap.size + 1, 0, none⟩ 1 1 [.int .i64 s.kind, .slice ua un uc, .int .i64 s.hundreds] rfl rfl (World.news_of_block (cs := #[.int .i64 s.kind, .slice ua un uc, .int .i64 s.hundreds]) (t := 51) (fr := (0, 0)) (get_new (by simp))) (by simp [Value.oneCell']) (by unfold maxLen; first | omega | simp) (by first | omega | simp) (by simp; omega) ?_; intro v' w1 hown' hgrow hnil; have HOw := Lib.hid hown'; have HGr := Lib.hid hgrow; clear hown' hgrow hnil)))
        have hoA : ((wr.alloc (.cells #[.int .i64 s.kind, .slice ua un uc, .int .i64 s.hundreds] 51)).alloc (.cells #[.int .i64 s.kind, .slice ua un uc, .int .i64 s.hundreds] 51)).ownsRow w.heap.size 51 3 u5 acc.length (flatSecs acc vs) := World.ownsRow.alloc HOV.out _
        have hB1 : Below w.heap.size w w1 := ((HB.out.alloc HB.out.size _).alloc (by simp; omega) _).grown HGr.out (by simp; omega) (fun k e => (hoA.lt k e).1)
        have hO1 : OutP base w.heap.size v' ((l.take (i + 1)).filter (keepB texts)) w1 := by
          rw [HTa.out]
          exact OutP.snoc HVL.out hoA (fun i s u h1 h2 => ((HPV.out i s u h1 h2).alloc _).alloc _) ((HU.out.alloc _).alloc _) HGr.out HOw.out
        have HB1 := Lib.hid hB1; have HO1 := Lib.hid hO1
        clear hB1 hO1 hoA
        go_wp2_with fail
        exact ⟨⟨i + 1, by simp, by have := HLt.out; omega, HB1, HO1⟩, by have := HLt.out; simp only [intOf]; omega⟩
    · have hd := lss_nat' hlt
      go_wp2_with fail
      go_ret
      refine ⟨_, rfl, ?_, HB.out⟩
      have := HO.out.fmt hb
      rw [List.take_of_length_le (by omega)] at this
      exact this
end Go.Proofs.YtpknbdgmpfhcnaaGreatDoor
