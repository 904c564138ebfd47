/- The iterator over a section's pieces: codes.reader.pieces. -/
import Derived.Test.YtpknbdgmpfhcnaaGreatDoorCs6
import Derived.Test.YtpknbdgmpfhcnaaGreatDoorRg
import Derived.OwnWalkIn
import Derived.TacticsInMore
import Derived.LoopNIn
import Derived.LoopIn
import Derived.BigFrameIn
namespace Go.Proofs.YtpknbdgmpfhcnaaGreatDoor
set_option linter.unusedVariables false
set_option linter.unusedSimpArgs false
open Go.RowKit
attribute [local go_sem] Oper.semAt_some

/-- Is a section at its end? -/
def stopped : List UInt8 → Bool
  | [] => true
  | c :: _ => c == 59
/-- The pieces of a section, handed on one by one; k: how many rounds at most. -/
def runL {σ : Type} (step : σ → Pc → Option σ) : Nat → σ → List UInt8 → Option (σ × List UInt8)
  | 0, _, _ => none
  | k + 1, st, q => if stopped q = true then some (st, q) else (nextL q).bind fun x => (step st x.1).bind fun st' => runL step k st' x.2

theorem cutL_lt (set : List UInt8) (c : UInt8) (r : List UInt8) (h : c ∈ set) : (cutL set (c :: r)).length < (c :: r).length := by
  unfold cutL
  rw [List.dropWhile_cons, if_pos (by simpa using h)]
  have := (List.dropWhile_suffix (l := r) set.contains).length_le
  simp; omega
theorem nextL_lt (c : UInt8) (r : List UInt8) (p : Pc) (t : List UInt8) (h : nextL (c :: r) = some (p, t)) : t.length < (c :: r).length := by
  rw [nextL_cons] at h
  by_cases h1 : c = 34
  · rw [if_pos h1] at h
    by_cases hq : (34 : UInt8) ∈ r
    · obtain ⟨a, b, rfl, ha⟩ := mem_split r 34 hq
      rw [quoteL_some a b ha] at h
      simp at h
      obtain ⟨_, rfl⟩ := h
      simp; omega
    · rw [quoteL_none r hq] at h; simp at h
  rw [if_neg h1] at h
  by_cases h2 : c = 92
  · rw [if_pos h2] at h
    cases r with
    | nil => simp [backL] at h
    | cons x r => simp [backL] at h; obtain ⟨_, rfl⟩ := h; simp; omega
  rw [if_neg h2] at h
  by_cases h3 : c ∈ wordSet
  · rw [if_pos h3] at h; simp at h; obtain ⟨_, rfl⟩ := h; simp
  rw [if_neg h3] at h
  by_cases h4 : c ∈ numSet
  · rw [if_pos h4] at h
    unfold numL at h
    split at h
    · simp only [Option.some.injEq, Prod.mk.injEq] at h
      obtain ⟨_, rfl⟩ := h
      exact cutL_lt _ _ _ h4
    · cases h
  rw [if_neg h4] at h
  by_cases h5 : c = 37
  · rw [if_pos h5] at h; simp at h; obtain ⟨_, rfl⟩ := h; simp
  rw [if_neg h5] at h
  by_cases h6 : c = 121 ∨ c = 109 ∨ c = 100
  · rw [if_pos h6] at h
    unfold partL at h
    split at h
    · simp only [Option.some.injEq, Prod.mk.injEq] at h
      obtain ⟨_, rfl⟩ := h
      exact cutL_lt _ _ _ (by simp)
    · cases h
  rw [if_neg h6] at h
  by_cases h7 : c = 64
  · rw [if_pos h7] at h; simp at h; obtain ⟨_, rfl⟩ := h; simp
  · rw [if_neg h7] at h; cases h

/-- How many bytes the reader at b holds. -/
def rdLen (w : World) (b : Nat) : Nat := match w.heap[b]? with
  | some (.cells c _ _) => match c[0]? with
    | some (Value.string s) => s.size
    | _ => 0
  | _ => 0
theorem rdLen_of {w : World} {b : Nat} {l : List UInt8} (h : RD w b l) : rdLen w b = l.length := by unfold rdLen; unfold RD at h; simp [h]; rfl

/-- How the iteration ends. -/
def ItPost {σ : Type} (J : σ → World → Prop) (KP : World → Prop) (b : Nat) (x : Option (σ × List UInt8)) (e : Ending) (w' : World) : Prop :=
  match x with
  | some (st, t) => (∃ v, e = .returned v) ∧ J st w' ∧ RD w' b t
  | none => Broke e ∧ KP w'

/-- What a round does. -/
def RoundPost {σ : Type} (J : σ → World → Prop) (KP : World → Prop) (b Bn : Nat) (x : Option σ) (W : World) (e : Ending) (W' : World) : Prop :=
  match x with
  | some st => e = .returned (.bool true) ∧ J st W' ∧ W'.heap[b]? = W.heap[b]? ∧ W'.heap[Bn]? = W.heap[Bn]? ∧ G W'
  | none => Broke e ∧ KP W'

set_option maxHeartbeats 1600000 in
theorem pieces1_in {σ : Type} (J : σ → World → Prop) (KP : World → Prop) (step : σ → Pc → Option σ) (l b Bn m : Nat)
    (hJ : ∀ st W W', J st W → W.grownBy W' (some b) → J st W') (hK : ∀ st W, J st W → KP W)
    (μ : σ → Nat) (hμ : ∀ st p st', step st p = some st' → μ st' ≤ μ st + 1)
    (hY : ∀ m st p W, J st W → G W → μ st < 60 → YieldAt Fence.wide m Tryz.prog l #[pcV p] W (RoundPost J KP b Bn (step st p) W))
    (st : σ) (q : List UInt8) (W : World) (h0 : J st W) (hr : RD W b q) (hBn : W.cell? ⟨Bn, 0, none⟩ = some (.pointer (some ⟨b, 0, none⟩))) (hG : G W) (hgb : gN ≤ b) (hl : μ st + q.length ≤ 60) (hbb : b ≠ Bn) :
    CallsIn Fence.wide m Tryz.prog 87 #[.func (.yield l) #[] #[], .pointer (some ⟨Bn, 0, none⟩)] W (ItPost J KP b (runL step (q.length + 1) st q)) := by
  refine callsIn_of_wp Tryz.func87 rfl trivial ?_ rfl
  simp only [Tryz.ntmps87, List.size_toArray, List.length_cons, List.length_nil, Nat.reduceAdd, Nat.reduceSub, Array.replicate_succ, Array.replicate_zero, List.push_toArray, List.append_toArray, List.nil_append, List.cons_append]
  gi_wp2
  gi_loopw [] (fun wr => ∃ (st' : σ) (q' : List UInt8) (k : Nat), RD wr b q' ∧ q'.length < k ∧ μ st' + q'.length ≤ 60 ∧ Hid (runL step k st' q' = runL step (q.length + 1) st q) ∧ J st' wr ∧ G wr ∧ wr.cell? ⟨Bn, 0, none⟩ = some (.pointer (some ⟨b, 0, none⟩))) (fun wr => rdLen wr b)
  case atStart => exact ⟨st, q, q.length + 1, hr, by omega, hl, rfl, h0, hG, hBn⟩
  case round =>
    obtain ⟨st', q', k, hr', hk, hl', HQ, hj, hG', hBn'⟩ := hrel
    have hcell := hr'.cell
    have HR := Lib.hid hr'; clear hr'
    obtain ⟨k, rfl⟩ : ∃ k', k = k' + 1 := ⟨k - 1, by omega⟩
    by_cases hs : stopped q' = true
    · have HF : Hid (runL step (q.length + 1) st q = some (st', q')) := by show _ = _; rw [← HQ.out, runL, if_pos hs]
      cases q' with
      | nil =>
        gi_wp2
        go_end0
        rw [HF.out]
        exact ⟨⟨_, rfl⟩, hj, HR.out⟩
      | cons c r =>
        have hc : c = 59 := by simpa [stopped] using hs
        subst hc
        gi_wp2
        go_end0
        rw [HF.out]
        exact ⟨⟨_, rfl⟩, hj, HR.out⟩
    · cases q' with
      | nil => exact absurd rfl hs
      | cons c r =>
        have hc : c ≠ 59 := by simpa [stopped] using hs
        have t0 : ((c.toNat : Int) != 59) = true := by show (!((c.toNat : Int) == 59)) = true; rw [show ((c.toNat : Int) == 59) = false from ne_test hc]; rfl
        obtain ⟨q2, hq2⟩ : ∃ q2, c :: r = q2 := ⟨_, rfl⟩
        have hdec : ∀ p t, nextL q2 = some (p, t) → t.length < q2.length := by subst hq2; exact nextL_lt c r
        have HF : Hid (runL step (q.length + 1) st q = (nextL q2).bind fun x => (step st' x.1).bind fun st' => runL step k st' x.2) := by
          show _ = _
          rw [← HQ.out, runL, if_neg hs, hq2]
        have e0 : ¬ q2 = [] := by rw [← hq2]; simp
        have e1 : q2.isEmpty = false := by rw [← hq2]; rfl
        have HN : Hid (∀ W, RD W b q2 → G W → Calls Tryz.prog 88 #[.pointer (some ⟨b, 0, none⟩)] W (PcPost b (nextL q2) W)) :=
          fun W h1 h2 => next_any W b c r q2 ⟨hq2.symm, by rw [← hq2]; omega, h1, h2, hgb⟩
        have l0 : (0 : Int) < (q2.length : Int) := by rw [← hq2]; simp
        have x0 : ∀ hh, (⟨q2.toArray⟩ : ByteArray)[0]'hh = c := by subst hq2; intro hh; rfl
        rw [hq2] at hcell hl' hk
        have HR2 : Hid (RD wr b q2) := by rw [← hq2]; exact HR.out
        clear HR HQ hs hq2 hc
        have HD := Lib.hid hdec; clear hdec
        obtain ⟨x, hx⟩ : ∃ x, nextL q2 = x := ⟨_, rfl⟩
        rw [hx] at HN HF HD
        clear hx
        gi_wp2_with fail
        refine ⟨trivial, fun h => by simp [Fence.wide] at h, (callsIn_wide.2 (HN.out _ HR2.out hG')).mono ?_⟩
        rintro e w1 ⟨hg1, hp⟩
        have hj1 := hJ _ _ _ hj hg1
        cases x with
        | none =>
          obtain rfl := hp
          gi_wp2_with fail
          rw [HF.out]
          exact ⟨rfl, rfl, hK _ _ hj1⟩
        | some pt =>
          obtain ⟨p, t⟩ := pt
          obtain ⟨rfl, hR1⟩ := hp
          have htl := HD.out p t rfl
          have HR1 := Lib.hid hR1; clear hR1
          have hsz := hg1.size
          have hG1 : G w1 := hG'.of_blocks hsz (fun i hi => by
            have := hG'.size
            rw [hg1.block i (by omega) (by simp; omega)])
          obtain ⟨fn, tmps, assign, body, hy, hR⟩ := hY (m - 1) st' p w1 hj1 hG1 (by omega)
          have hBn1 : w1.cell? ⟨Bn, 0, none⟩ = some (.pointer (some ⟨b, 0, none⟩)) := hg1.cell hBn' (by simp; omega)
          obtain ⟨y, hy2⟩ : ∃ y, step st' p = y := ⟨_, rfl⟩
          have HF2 : Hid (runL step (q.length + 1) st q = y.bind fun st' => runL step k st' t) := by
            show _ = _
            rw [HF.out, ← hy2]; rfl
          have HM : Hid (∀ st'', y = some st'' → μ st'' ≤ μ st' + 1) := fun st'' e => hμ st' p st'' (hy2.trans e)
          rw [hy2] at hR
          clear hy2
          have HR := Lib.hid hR; clear hR
          gi_wp2_with fail
          refine ⟨fun h => by simp [Fence.wide] at h, HR.out.mono ?_⟩
          rintro e w2 hp2
          cases y with
          | none =>
            obtain ⟨rfl, hkp⟩ := hp2
            gi_wp2_with fail
            rw [HF2.out]
            exact ⟨rfl, rfl, hkp⟩
          | some st'' =>
            obtain ⟨rfl, hj2, hb2, hBn2, hG2⟩ := hp2
            have HR2' : Hid (RD w2 b t) := hb2.trans HR1.out
            gi_wp2_with fail
            have hm2 := HM.out st'' rfl
            refine ⟨⟨st'', t, k, HR2'.out, by omega, by omega, HF2.out.symm, hj2, hG2, ?_⟩, ?_⟩
            · rw [World.cell?_of_block (w := w1) hBn2]; exact hBn1
            · rw [rdLen_of HR2'.out, rdLen_of HR2.out]; exact htl
end Go.Proofs.YtpknbdgmpfhcnaaGreatDoor
