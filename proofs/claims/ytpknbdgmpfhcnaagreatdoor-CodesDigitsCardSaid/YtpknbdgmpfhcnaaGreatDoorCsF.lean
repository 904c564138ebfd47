/- The walks of the reference's Kind, Read, Check, Plain. -/
import Derived.Test.YtpknbdgmpfhcnaaGreatDoorCsE
namespace Go.Proofs.YtpknbdgmpfhcnaaGreatDoor
set_option linter.unusedVariables false
set_option linter.unusedSimpArgs false
open Go.RowKit

/-- How many pieces of a kind. -/
def cnt (k : Int) (l : List Pc) : Nat := l.countP (·.kind == k)
theorem cnt_le (k : Int) (l : List Pc) : cnt k l ≤ l.length := List.countP_le_length
theorem cnt_snoc (k : Int) (l : List Pc) (i : Nat) (h : i < l.length) : cnt k (l.take (i + 1)) = cnt k (l.take i) + if l[i].kind = k then 1 else 0 := by
  unfold cnt
  rw [List.take_succ_eq_append_getElem h, List.countP_append]
  simp [List.countP_cons]
def kindOf (c1 c2 c3 c4 : Nat) : Int :=
  let kind : Int := if 0 < c3 then 3 else if 0 < c2 then 2 else if 0 < c1 then 1 else 0
  let kinds : Nat := (if 0 < c1 then 1 else 0) + (if 0 < c2 then 1 else 0) + (if 0 < c3 then 1 else 0)
  if 1 < kinds ∨ 1 < c1 ∨ 2 < c4 ∨ (0 < c4 ∧ kind ≠ 1) then -1 else kind
def kindR (l : List Pc) : Int := kindOf (cnt 1 l) (cnt 2 l) (cnt 3 l) (cnt 4 l)
def Kinds (l : List Pc) : Prop := ∀ p ∈ l, p.kind = 0 ∨ p.kind = 1 ∨ p.kind = 2 ∨ p.kind = 3 ∨ p.kind = 4
/-- What the counting keeps. -/
structure Cnts (l : List Pc) (i : Nat) (c0 c1 c2 c3 c4 : Nat) : Prop where
  a0 : c0 ≤ i
  a1 : c1 = cnt 1 (l.take i)
  a2 : c2 = cnt 2 (l.take i)
  a3 : c3 = cnt 3 (l.take i)
  a4 : c4 = cnt 4 (l.take i)
theorem Cnts.b {l : List Pc} {i c0 c1 c2 c3 c4 : Nat} (h : Cnts l i c0 c1 c2 c3 c4) : c0 ≤ i ∧ c1 ≤ i ∧ c2 ≤ i ∧ c3 ≤ i ∧ c4 ≤ i := by
  have := cnt_le 1 (l.take i); have := cnt_le 2 (l.take i); have := cnt_le 3 (l.take i); have := cnt_le 4 (l.take i)
  simp only [List.length_take] at *
  obtain ⟨h0, h1, h2, h3, h4⟩ := h
  omega
theorem Cnts.step {l : List Pc} {i c0 c1 c2 c3 c4 d0 d1 d2 d3 d4 : Nat} (h : Cnts l i c0 c1 c2 c3 c4) (hi : i < l.length) {k : Int} (hk : l[i].kind = k)
    (h0 : d0 ≤ i + 1) (h1 : d1 = c1 + if k = 1 then 1 else 0) (h2 : d2 = c2 + if k = 2 then 1 else 0) (h3 : d3 = c3 + if k = 3 then 1 else 0) (h4 : d4 = c4 + if k = 4 then 1 else 0) : Cnts l (i + 1) d0 d1 d2 d3 d4 :=
  ⟨h0, by rw [cnt_snoc _ _ _ hi, hk, ← h.a1, h1], by rw [cnt_snoc _ _ _ hi, hk, ← h.a2, h2], by rw [cnt_snoc _ _ _ hi, hk, ← h.a3, h3], by rw [cnt_snoc _ _ _ hi, hk, ← h.a4, h4]⟩
theorem flatPs_get (l : List Pc) (i : Nat) (h : i < l.length) : (flatPs l)[i * 2]? = some (.int .i64 l[i].kind) ∧ (flatPs l)[i * 2 + 1]? = some (.string ⟨l[i].s.toArray⟩) := by
  induction l generalizing i with
  | nil => simp at h
  | cons p l ih =>
    cases i with
    | zero => exact ⟨rfl, rfl⟩
    | succ i =>
      have := ih i (by simpa using h)
      rw [show (i + 1) * 2 = i * 2 + 2 by omega]
      exact this
/-- A row of the reference's pieces, read. -/
theorem pieces_read {l : List Pc} {v : Value} {b : Nat} {T : TypeId} {w : World} (hv : w.ownsRow b T 2 v l.length (flatPs l)) (hl : l ≠ []) : ∃ g cap, v = .slice (some ⟨g, 0, none⟩) l.length cap ∧ g < w.heap.size ∧ ∀ (i : Nat) (h : i < l.length), w.cell? ⟨g, i * 2, none⟩ = some (.int .i64 l[i].kind) ∧ w.cell? ⟨g, i * 2 + 1, none⟩ = some (.string ⟨l[i].s.toArray⟩) := by
  have hx := hv
  rcases hv.2 with ⟨_, h0⟩ | ⟨g, cap, cur, rfl, hb, hg, hc, _⟩
  · exact absurd (List.length_eq_zero_iff.1 h0) hl
  · have hcells := hx.cells (g := g) (by simp [Value.ownBlock])
    refine ⟨g, cap, rfl, (Array.getElem?_eq_some_iff.1 hg).1, fun i h => ?_⟩
    obtain ⟨h1, h2⟩ := flatPs_get l i h
    have a1 := hcells _ _ h1; have a2 := hcells _ _ h2
    rw [add_off] at a1 a2
    exact ⟨a1, a2⟩

def kd (c1 c2 c3 : Nat) : Nat → Int
  | 0 => 0
  | 1 => if 0 < c1 then 1 else 0
  | 2 => if 0 < c2 then 2 else if 0 < c1 then 1 else 0
  | _ => if 0 < c3 then 3 else if 0 < c2 then 2 else if 0 < c1 then 1 else 0
def ks (c1 c2 c3 : Nat) : Nat → Nat
  | 0 => 0
  | 1 => if 0 < c1 then 1 else 0
  | 2 => (if 0 < c1 then 1 else 0) + (if 0 < c2 then 1 else 0)
  | _ => (if 0 < c1 then 1 else 0) + (if 0 < c2 then 1 else 0) + (if 0 < c3 then 1 else 0)
theorem ks_le (c1 c2 c3 j : Nat) : ks c1 c2 c3 j ≤ 3 := by
  unfold ks
  split <;> (repeat' split) <;> omega
theorem gtr_nat {a b : Nat} (h : a < b) : decide ((b : Int) > (a : Int)) = true := by simpa using h
theorem pos_nat {b : Nat} (h : 0 < b) : decide (0 < (b : Int)) = true := by simpa using h
theorem pos_nat' {b : Nat} (h : ¬ 0 < b) : decide (0 < (b : Int)) = false := by simpa using h
theorem kindOf_eq (c1 c2 c3 c4 : Nat) : kindOf c1 c2 c3 c4 = if 1 < ks c1 c2 c3 3 ∨ 1 < c1 ∨ 2 < c4 ∨ (0 < c4 ∧ kd c1 c2 c3 3 ≠ 1) then -1 else kd c1 c2 c3 3 := rfl
theorem wrap_small {n : Nat} (h : n ≤ 1000000) : wrap64 ((n : Int) + 1) = ((n + 1 : Nat) : Int) := by unfold wrap64; omega
set_option maxRecDepth 100000 in
set_option maxHeartbeats 1000000 in
theorem rkind_any (l : List Pc) (v : Value) (b : Nat) (w : World) (hK : Kinds l) (hl : l.length ≤ 60) (hv : w.ownsRow b 83 2 v l.length (flatPs l)) : Calls Tryz.prog 22 #[v] w fun e w' => e = .returned (.int .i64 (kindR l)) ∧ Below w.heap.size w w' := by
  have HL : Hid (∀ (i : Nat) (h : i < l.length), ∃ g cap, v = .slice (some ⟨g, 0, none⟩) l.length cap ∧ w.cell? ⟨g, i * 2, none⟩ = some (.int .i64 l[i].kind) ∧ g < w.heap.size) := by
    intro i h
    obtain ⟨g, cap, h1, h2, h3⟩ := pieces_read hv (by rintro rfl; simp at h)
    exact ⟨g, cap, h1, (h3 i h).1, h2⟩
  obtain ⟨a, n, cap, rfl⟩ := own_slice hv
  have hn : n = l.length := by
    rcases hv.2 with ⟨e, h⟩ | ⟨g, cap', cur, e, _⟩
    · injection e with _ e2 _; omega
    · injection e
  subst hn
  clear hv
  have HK := Lib.hid hK; clear hK
  go_enter Tryz.func22, Tryz.ntmps22
  go_wp2_with fail
  go_loopw [4] (fun k wr => ∃ i c0 c1 c2 c3 c4 : Nat, k = .int .i64 i ∧ i ≤ l.length ∧ wr = w.alloc (.cells #[.int .i64 c0, .int .i64 c1, .int .i64 c2, .int .i64 c3, .int .i64 c4] 86) ∧ Hid (Cnts l i c0 c1 c2 c3 c4)) (fun k _ => l.length - (intOf k).toNat)
  case atStart => exact ⟨0, 0, 0, 0, 0, 0, rfl, by omega, rfl, ⟨by omega, rfl, rfl, rfl, rfl⟩⟩
  case round =>
    obtain ⟨i, c0, c1, c2, c3, c4, rfl, hi, rfl, HC⟩ := hrel
    obtain ⟨b0, b1, b2, b3, b4⟩ := HC.out.b
    by_cases hlt : i < l.length
    · have hd := lss_nat hlt
      obtain ⟨g, cap', hg, e0, hgs⟩ := HL.out i hlt
      injection hg with hg1 hg2 hg3
      subst hg1; subst hg3
      have e0' : (w.alloc (.cells #[.int .i64 c0, .int .i64 c1, .int .i64 c2, .int .i64 c3, .int .i64 c4] 86)).cell? ⟨g, i * 2, none⟩ = some (.int .i64 l[i].kind) := ((below_new w _).cell (p := ⟨g, i * 2, none⟩) hgs).trans e0
      clear e0
      rcases HK.out l[i] (List.getElem_mem hlt) with hkk | hkk | hkk | hkk | hkk
      · (
          have hk' : l[i].kind = 0 := hkk
          have HK := Lib.hid hk'
          rw [hk'] at e0'
          clear hk' hkk
          go_wp2_with fail
          refine ⟨⟨i + 1, _, _, _, _, _, by simp, by omega, rfl, HC.out.step hlt HK.out (by first | omega | (simp; omega)) rfl rfl rfl rfl⟩, by simp only [intOf]; omega⟩)
      · (
          have hk' : l[i].kind = 1 := hkk
          have HK := Lib.hid hk'
          rw [hk'] at e0'
          clear hk' hkk
          go_wp2_with fail
          refine ⟨⟨i + 1, _, _, _, _, _, by simp, by omega, rfl, HC.out.step hlt HK.out (by first | omega | (simp; omega)) rfl rfl rfl rfl⟩, by simp only [intOf]; omega⟩)
      · (
          have hk' : l[i].kind = 2 := hkk
          have HK := Lib.hid hk'
          rw [hk'] at e0'
          clear hk' hkk
          go_wp2_with fail
          refine ⟨⟨i + 1, _, _, _, _, _, by simp, by omega, rfl, HC.out.step hlt HK.out (by first | omega | (simp; omega)) rfl rfl rfl rfl⟩, by simp only [intOf]; omega⟩)
      · (
          have hk' : l[i].kind = 3 := hkk
          have HK := Lib.hid hk'
          rw [hk'] at e0'
          clear hk' hkk
          go_wp2_with fail
          refine ⟨⟨i + 1, _, _, _, _, _, by simp, by omega, rfl, HC.out.step hlt HK.out (by first | omega | (simp; omega)) rfl rfl rfl rfl⟩, by simp only [intOf]; omega⟩)
      · (
          have hk' : l[i].kind = 4 := hkk
          have HK := Lib.hid hk'
          rw [hk'] at e0'
          clear hk' hkk
          go_wp2_with fail
          refine ⟨⟨i + 1, _, _, _, _, _, by simp, by omega, rfl, HC.out.step hlt HK.out (by first | omega | (simp; omega)) rfl rfl rfl rfl⟩, by simp only [intOf]; omega⟩)
    · have hd := lss_nat' hlt
      go_wp2_with fail
      clear hd
      have HE : Hid (kindR l = kindOf c1 c2 c3 c4) := by
        show _ = _
        have hil : i = l.length := by omega
        have h := HC.out
        subst hil
        unfold kindR; rw [h.a1, h.a2, h.a3, h.a4, List.take_length]
      go_loopw [5, 6, 7] (fun a b k wr => ∃ j : Nat, j < 4 ∧ k = .int .i64 (j + 1 : Nat) ∧ a = .int .i64 (kd c1 c2 c3 j) ∧ b = .int .i64 (ks c1 c2 c3 j : Nat) ∧ wr = w.alloc (.cells #[.int .i64 c0, .int .i64 c1, .int .i64 c2, .int .i64 c3, .int .i64 c4] 86)) (fun _ _ k _ => 5 - (intOf k).toNat)
      case atStart => exact ⟨0, by omega, rfl, rfl, rfl, rfl⟩
      case round =>
        obtain ⟨j, hj, rfl, rfl, rfl, rfl⟩ := hrel
        rcases j with _ | _ | _ | _ | _
        · (
            by_cases hp : 0 < c1
            · have tp := pos_nat hp
              have HX := Lib.hid hp; clear hp
              go_wp2_with fail
              refine ⟨⟨0 + 1, by omega, rfl, ?_, ?_, by simp⟩, by simp [intOf]⟩
              · have h1 := HX.out; simp [kd, h1]
              · rw [wrap_small (by have := ks_le c1 c2 c3 0; omega)]; have h1 := HX.out; simp [ks, h1]
            · have tp := pos_nat' hp
              have HX := Lib.hid hp; clear hp
              go_wp2_with fail
              refine ⟨⟨0 + 1, by omega, rfl, ?_, ?_, by simp⟩, by simp [intOf]⟩
              · have h1 := HX.out; simp [kd, h1]
              · have h1 := HX.out; simp [ks, h1])
        · (
            by_cases hp : 0 < c2
            · have tp := pos_nat hp
              have HX := Lib.hid hp; clear hp
              go_wp2_with fail
              refine ⟨⟨1 + 1, by omega, rfl, ?_, ?_, by simp⟩, by simp [intOf]⟩
              · have h1 := HX.out; simp [kd, h1]
              · rw [wrap_small (by have := ks_le c1 c2 c3 1; omega)]; have h1 := HX.out; simp [ks, h1]
            · have tp := pos_nat' hp
              have HX := Lib.hid hp; clear hp
              go_wp2_with fail
              refine ⟨⟨1 + 1, by omega, rfl, ?_, ?_, by simp⟩, by simp [intOf]⟩
              · have h1 := HX.out; simp [kd, h1]
              · have h1 := HX.out; simp [ks, h1])
        · (
            by_cases hp : 0 < c3
            · have tp := pos_nat hp
              have HX := Lib.hid hp; clear hp
              go_wp2_with fail
              refine ⟨⟨2 + 1, by omega, rfl, ?_, ?_, by simp⟩, by simp [intOf]⟩
              · have h1 := HX.out; simp [kd, h1]
              · rw [wrap_small (by have := ks_le c1 c2 c3 2; omega)]; have h1 := HX.out; simp [ks, h1]
            · have tp := pos_nat' hp
              have HX := Lib.hid hp; clear hp
              go_wp2_with fail
              refine ⟨⟨2 + 1, by omega, rfl, ?_, ?_, by simp⟩, by simp [intOf]⟩
              · have h1 := HX.out; simp [kd, h1]
              · have h1 := HX.out; simp [ks, h1])
        · rw [kindOf_eq] at HE
          obtain ⟨kind, hkind⟩ : ∃ x, kd c1 c2 c3 3 = x := ⟨_, rfl⟩
          obtain ⟨kinds, hkinds⟩ : ∃ x, ks c1 c2 c3 3 = x := ⟨_, rfl⟩
          show Code.wp _ _ _ ⟨_, _⟩ _
          have e1 : kd c1 c2 c3 (0 + 1 + 1 + 1) = kind := hkind
          have e2 : ks c1 c2 c3 (0 + 1 + 1 + 1) = kinds := hkinds
          rw [e1, e2]
          rw [hkind, hkinds] at HE
          clear hkind hkinds e1 e2
          by_cases g1 : 1 < kinds
          · have t1 : decide ((1 : Int) < (kinds : Int)) = true := lss_nat g1
            have HF := Lib.hid (HE.out.trans (if_pos (.inl g1))); clear HE g1
            go_wp2_with fail
            go_ret
            exact ⟨ret_int HF.out.symm, below_new _ _⟩
          · have t1 : decide ((1 : Int) < (kinds : Int)) = false := lss_nat' g1
            by_cases g2 : 1 < c1
            · have t2 : decide ((1 : Int) < (c1 : Int)) = true := lss_nat g2
              have HF := Lib.hid (HE.out.trans (if_pos (.inr (.inl g2)))); clear HE g1 g2
              go_wp2_with fail
              go_ret
              exact ⟨ret_int HF.out.symm, below_new _ _⟩
            · have t2 : decide ((1 : Int) < (c1 : Int)) = false := lss_nat' g2
              by_cases g3 : 2 < c4
              · have t3 : decide ((2 : Int) < (c4 : Int)) = true := lss_nat g3
                have HF := Lib.hid (HE.out.trans (if_pos (.inr (.inr (.inl g3))))); clear HE g1 g2 g3
                go_wp2_with fail
                go_ret
                exact ⟨ret_int HF.out.symm, below_new _ _⟩
              · have t3 : decide ((2 : Int) < (c4 : Int)) = false := lss_nat' g3
                by_cases g4 : 0 < c4
                · have t4 := pos_nat g4
                  by_cases g5 : kind = 1
                  · have t5 : (kind == 1) = true := by simpa using g5
                    have t6 : (kind != 1) = false := by simpa using g5
                    have HF := Lib.hid (HE.out.trans (if_neg (by omega))); clear HE g1 g2 g3 g5
                    go_wp2_with fail
                    go_ret
                    exact ⟨ret_int HF.out.symm, below_new _ _⟩
                  · have t5 : (kind == 1) = false := by simpa using g5
                    have t6 : (kind != 1) = true := by simpa using g5
                    have HF := Lib.hid (HE.out.trans (if_pos (.inr (.inr (.inr ⟨g4, g5⟩))))); clear HE g1 g2 g3 g5
                    go_wp2_with fail
                    go_ret
                    exact ⟨ret_int HF.out.symm, below_new _ _⟩
                · have t4 := pos_nat' g4
                  have HF := Lib.hid (HE.out.trans (if_neg (by omega))); clear HE g1 g2 g3
                  go_wp2_with fail
                  go_ret
                  exact ⟨ret_int HF.out.symm, below_new _ _⟩
        · omega
end Go.Proofs.YtpknbdgmpfhcnaaGreatDoor
