/- The walks of the reference's Read, Check, Plain. -/
import Derived.Test.YtpknbdgmpfhcnaaGreatDoorCsF
import Derived.Deep.AppendLies
import Derived.Deep.DeepMust
import Derived.Deep.RegionLaw
namespace Go.Proofs.YtpknbdgmpfhcnaaGreatDoor
set_option linter.unusedVariables false
set_option linter.unusedSimpArgs false
open Go.RowKit

/-- What the reference reads. -/
def readRL : Nat → List (List Pc) → List Pc → List UInt8 → Option (List (List Pc))
  | 0, _, _, _ => none
  | _ + 1, done, cur, [] => some (done ++ [cur])
  | k + 1, done, cur, c :: q => if c = 59 then readRL k (done ++ [cur]) [] q else (nextR (c :: q)).bind fun x => readRL k done (cur ++ [x.1]) x.2
def finR : List (List Pc) → Option (List (List Pc)) × Int := fun l => if 3 < l.length then (none, 5) else if l.any (fun ps => decide (kindR ps < 0)) = true then (none, 5) else (some l, 0)
def finO : Option (List (List Pc)) → Option (List (List Pc)) × Int
  | none => (none, 5)
  | some l => finR l
def readR (q : List UInt8) : Option (List (List Pc)) × Int := if 60 < q.length then (none, 7) else finO (readRL (q.length + 1) [] [] q)
/-- A row of rows of pieces. -/
def RowsP (base : Nat) (v : Value) (l : List (List Pc)) (W : World) : Prop :=
  ∃ vs : List Value, vs.length = l.length ∧ W.ownsRow base 53 1 v l.length vs ∧ ∀ (i : Nat) (ps : List Pc) (u : Value), l[i]? = some ps → vs[i]? = some u → W.ownsRow base 83 2 u ps.length (flatPs ps)
/-- The same while it is read: the last row grows. -/
def RdJ (w : World) (done : List (List Pc)) (cur : List Pc) (v : Value) (W : World) : Prop :=
  Below w.heap.size w W ∧ ∃ (vs : List Value) (u : Value) (mid : Nat), vs.length = done.length ∧ W.ownsRow w.heap.size 53 1 v (done.length + 1) (vs ++ [u]) ∧ w.heap.size ≤ mid ∧ mid ≤ W.heap.size ∧
    (∀ (i : Nat) (ps : List Pc) (x : Value), done[i]? = some ps → vs[i]? = some x → W.ownsRow w.heap.size 83 2 x ps.length (flatPs ps) ∧ ∀ g, x.ownBlock = some g → g < mid) ∧
    W.ownsRow mid 83 2 u cur.length (flatPs cur)
theorem RdJ.first (w : World) : RdJ w [] [] (.slice (some ⟨w.heap.size, 0, none⟩) 1 1) (w.alloc (.cells #[.slice none 0 0] 53)) :=
  ⟨below_new _ _, [], .slice none 0 0, w.heap.size, rfl, World.ownsRow_lit w #[.slice none 0 0] 1 (Nat.le_refl _) (by decide) rfl, Nat.le_refl _, by simp, fun i ps x h => by simp at h, World.ownsRow_nil _ _ _ _⟩
theorem RdJ.all {w : World} {done : List (List Pc)} {cur : List Pc} {v : Value} {W : World} (h : RdJ w done cur v W) : RowsP w.heap.size v (done ++ [cur]) W := by
  obtain ⟨hB, vs, u, mid, hl, ho, hm1, hm2, hd, hu⟩ := h
  refine ⟨vs ++ [u], by simp [hl], by simpa using ho, fun i ps x hps hx => ?_⟩
  by_cases hi : i < done.length
  · rw [List.getElem?_append_left hi] at hps
    rw [List.getElem?_append_left (by omega)] at hx
    exact (hd i ps x hps hx).1
  · rw [List.getElem?_append_right (by omega)] at hps hx
    have h0 : i - done.length = 0 := by
      rcases Nat.eq_zero_or_pos (i - done.length) with h | h
      · exact h
      · rw [List.getElem?_eq_none (by simp; omega)] at hps; cases hps
    rw [h0] at hps
    rw [hl, h0] at hx
    simp at hps hx
    subst hps; subst hx
    exact own_mono hu hm1
theorem grown_below' {w W W' : World} {r : Option Nat} (hB : Below w.heap.size w W) (hg : W.grownBy W' r) (hr : ∀ k, r = some k → w.heap.size ≤ k) : Below w.heap.size w W' :=
  ⟨hg.os.trans hB.os, hg.tape.trans hB.tape, hg.output.trans hB.output, Nat.le_trans hB.size hg.size, fun k hk => (hg.block k (Nat.lt_of_lt_of_le hk hB.size) (fun e => by have := hr k e.symm; omega)).trans (hB.block k hk)⟩
/-- A new row is begun: behind the append to the outer row. -/
theorem RdJ.next {w : World} {done : List (List Pc)} {cur : List Pc} {v v' : Value} {W W' : World} {vs : List Value} {u : Value} {mid : Nat} (hB : Below w.heap.size w W) (hl : vs.length = done.length) (ho : W.ownsRow w.heap.size 53 1 v (done.length + 1) (vs ++ [u])) (hm1 : w.heap.size ≤ mid)
    (hd : ∀ (i : Nat) (ps : List Pc) (x : Value), done[i]? = some ps → vs[i]? = some x → W.ownsRow w.heap.size 83 2 x ps.length (flatPs ps) ∧ ∀ g, x.ownBlock = some g → g < mid) (hu : W.ownsRow mid 83 2 u cur.length (flatPs cur))
    (hg : W.grownBy W' v.ownBlock) (ho' : W'.ownsRow w.heap.size 53 1 v' (done.length + 1 + 1) (vs ++ [u] ++ [.slice none 0 0])) : RdJ w (done ++ [cur]) [] v' W' := by
  refine ⟨grown_below' hB hg fun k e => (ho.lt k e).1, vs ++ [u], .slice none 0 0, W'.heap.size, by simp [hl], by simpa using ho', Nat.le_trans hB.size hg.size, Nat.le_refl _, fun i ps x hps hx => ?_, World.ownsRow_nil _ _ _ _⟩
  by_cases hi : i < done.length
  · rw [List.getElem?_append_left hi] at hps
    rw [List.getElem?_append_left (by omega)] at hx
    obtain ⟨a, b⟩ := hd i ps x hps hx
    exact ⟨a.kept hg (own_apart a ho (by decide)), fun g e => Nat.lt_of_lt_of_le (a.lt g e).2 hg.size⟩
  · rw [List.getElem?_append_right (by omega)] at hps hx
    have h0 : i - done.length = 0 := by
      rcases Nat.eq_zero_or_pos (i - done.length) with h | h
      · exact h
      · rw [List.getElem?_eq_none (by simp; omega)] at hps; cases hps
    rw [h0] at hps
    rw [hl, h0] at hx
    simp at hps hx
    subst hps; subst hx
    exact ⟨own_mono (hu.kept hg (own_apart hu ho (by decide))) hm1, fun g e => Nat.lt_of_lt_of_le (hu.lt g e).2 hg.size⟩
/-- A piece more: behind the append to the last row and the store into the outer one. -/
theorem RdJ.more {w : World} {done : List (List Pc)} {cur : List Pc} {p : Pc} {g cap : Nat} {u' : Value} {W W' : World} {vs : List Value} {u : Value} {mid : Nat} (hB : Below w.heap.size w W) (hl : vs.length = done.length) (ho : W.ownsRow w.heap.size 53 1 (.slice (some ⟨g, 0, none⟩) (done.length + 1) cap) (done.length + 1) (vs ++ [u])) (hm1 : w.heap.size ≤ mid) (hm2 : mid ≤ W.heap.size)
    (hd : ∀ (i : Nat) (ps : List Pc) (x : Value), done[i]? = some ps → vs[i]? = some x → W.ownsRow w.heap.size 83 2 x ps.length (flatPs ps) ∧ ∀ g, x.ownBlock = some g → g < mid) (hu : W.ownsRow mid 83 2 u cur.length (flatPs cur))
    (hg : W.grownBy W' u.ownBlock) (hu' : W'.ownsRow mid 83 2 u' (cur.length + 1) (flatPs cur ++ [.int .i64 p.kind, .string ⟨p.s.toArray⟩])) : RdJ w done (cur ++ [p]) (.slice (some ⟨g, 0, none⟩) (done.length + 1) cap) (W'.setCell ⟨g, done.length, none⟩ u') := by
  have ho' := ho.kept hg (own_apart ho hu (by decide))
  obtain ⟨hs, hgs⟩ := ho'.stored done.length u'
  have e1 : (vs ++ [u]).set done.length u' = vs ++ [u'] := by rw [← hl]; simp
  rw [e1] at hs
  have hgr : w.heap.size ≤ g := (ho.lt g rfl).1
  refine ⟨grown_below' (grown_below' hB hg fun k e => Nat.le_trans hm1 (hu.lt k e).1) hgs (fun k e => by injection e with e; omega), vs, u', mid, hl, hs, hm1, by have := hg.size; simp; omega, fun i ps x hps hx => ?_, ?_⟩
  · obtain ⟨a, b⟩ := hd i ps x hps hx
    have hne : x.ownBlock = none ∨ x.ownBlock ≠ u.ownBlock := by
      cases hx2 : x.ownBlock with
      | none => exact .inl rfl
      | some k =>
        refine .inr fun e => ?_
        have h1 := b k hx2
        have h2 := (hu.lt k e.symm).1
        omega
    have a' := a.kept hg hne
    exact ⟨a'.kept hgs (own_apart a' ho' (by decide)), b⟩
  · rw [show (cur ++ [p]).length = cur.length + 1 by simp, flatPs_snoc]
    exact hu'.kept hgs (own_apart hu' ho' (by decide))
def RRPost (q : List UInt8) (w : World) (e : Ending) (w' : World) : Prop :=
  Below w.heap.size w w' ∧ ∃ v, e = .returned (.tuple #[v, .int .i64 (readR q).2]) ∧ match (readR q).1 with
    | some l => RowsP w.heap.size v l w'
    | none => v = .slice none 0 0
theorem infoRow : (Tryz.prog.info? 53).map (fun i => (i.zero, i.size, i.bytes)) = some (some (.slice none 0 0), 1, 24) := by kernel_rfl
theorem infoPiece : (Tryz.prog.info? 83).map (fun i => (i.zero, i.size, i.bytes)) = some (some (.agg #[.int .i64 0, .string ⟨#[]⟩]), 2, 24) := by kernel_rfl

theorem own_any (v : Value) : v.ownBlock = none ∨ v.ownBlock ≠ none := by cases v.ownBlock <;> simp
theorem quoteL_drop {r : List UInt8} {a t : List UInt8} (h : quoteL r = some (a, t)) : ∃ n, n < r.length ∧ t = r.drop (n + 1) := by
  unfold quoteL at h
  have e := List.takeWhile_append_dropWhile (p := (· != (34 : UInt8))) (l := r)
  cases hd : r.dropWhile (· != 34) with
  | nil => rw [hd] at h; cases h
  | cons x t' =>
    rw [hd] at h e
    simp only [Option.some.injEq, Prod.mk.injEq] at h
    obtain ⟨rfl, rfl⟩ := h
    generalize r.takeWhile (· != 34) = a at e
    subst e
    exact ⟨a.length, by simp, by rw [List.drop_append, List.drop_of_length_le (by omega)]; simp⟩
theorem row_pos {set : List UInt8} {c : UInt8} {r : List UInt8} (h : set.contains c = true) : 0 < (rowL set (c :: r)).length := by
  unfold rowL
  rw [List.takeWhile_cons, if_pos h]; simp
theorem row_le (set q : List UInt8) : (rowL set q).length ≤ q.length := by have := row_len set q; omega
theorem nextR_all {q : List UInt8} {p : Pc} {t : List UInt8} (h : nextR q = some (p, t)) : (∃ n, 0 < n ∧ n ≤ q.length ∧ t = q.drop n) ∧ (p.kind = 0 ∨ p.kind = 1 ∨ p.kind = 2 ∨ p.kind = 3 ∨ p.kind = 4) := by
  cases q with
  | nil => cases h
  | cons c r =>
    rw [nextR] at h
    split at h
    · cases hq : quoteL r with
      | none => rw [hq] at h; cases h
      | some x =>
        rw [hq] at h
        simp only [Option.map_some, Option.some.injEq, Prod.mk.injEq] at h
        obtain ⟨rfl, rfl⟩ := h
        obtain ⟨n, h1, h2⟩ := quoteL_drop (show quoteL r = some (x.1, x.2) from hq)
        exact ⟨⟨n + 2, by omega, by simp; omega, h2⟩, .inl rfl⟩
    · split at h
      · cases r with
        | nil => cases h
        | cons x r =>
          simp only [backL, Option.some.injEq, Prod.mk.injEq] at h
          obtain ⟨rfl, rfl⟩ := h
          exact ⟨⟨2, by omega, by simp, rfl⟩, .inl rfl⟩
      · split at h
        · simp only [Option.some.injEq, Prod.mk.injEq] at h
          obtain ⟨rfl, rfl⟩ := h
          exact ⟨⟨1, by omega, by simp, rfl⟩, .inl rfl⟩
        · split at h
          · rename_i hm
            split at h
            · simp only [Option.some.injEq, Prod.mk.injEq] at h
              obtain ⟨rfl, rfl⟩ := h
              exact ⟨⟨_, row_pos hm, row_le _ _, (drop_row _ _).symm⟩, .inr (.inl rfl)⟩
            · cases h
          · split at h
            · simp only [Option.some.injEq, Prod.mk.injEq] at h
              obtain ⟨rfl, rfl⟩ := h
              exact ⟨⟨1, by omega, by simp, rfl⟩, by simp⟩
            · split at h
              · split at h
                · simp only [Option.some.injEq, Prod.mk.injEq] at h
                  obtain ⟨rfl, rfl⟩ := h
                  exact ⟨⟨_, row_pos (set := [c]) (by simp), row_le _ _, (drop_row _ _).symm⟩, by simp⟩
                · cases h
              · split at h
                · simp only [Option.some.injEq, Prod.mk.injEq] at h
                  obtain ⟨rfl, rfl⟩ := h
                  exact ⟨⟨1, by omega, by simp, rfl⟩, by simp⟩
                · cases h
theorem nextR_drop {q : List UInt8} {p : Pc} {t : List UInt8} (h : nextR q = some (p, t)) : ∃ n, 0 < n ∧ n ≤ q.length ∧ t = q.drop n := (nextR_all h).1
theorem nextR_kind {q : List UInt8} {p : Pc} {t : List UInt8} (h : nextR q = some (p, t)) : p.kind = 0 ∨ p.kind = 1 ∨ p.kind = 2 ∨ p.kind = 3 ∨ p.kind = 4 := (nextR_all h).2
theorem readRL_kinds : ∀ (k : Nat) (done : List (List Pc)) (cur : List Pc) (q : List UInt8) (l : List (List Pc)) (N : Nat), readRL k done cur q = some l → (∀ ps ∈ done, Kinds ps ∧ ps.length ≤ N) → (Kinds cur ∧ cur.length + q.length ≤ N) → ∀ ps ∈ l, Kinds ps ∧ ps.length ≤ N := by
  intro k
  induction k with
  | zero => intro done cur q l N h; simp [readRL] at h
  | succ k ih =>
    intro done cur q l N h hd hc
    cases q with
    | nil =>
      simp [readRL] at h
      subst h
      intro ps hps
      rcases List.mem_append.1 hps with h | h
      · exact hd ps h
      · simp at h; subst h; exact ⟨hc.1, by have := hc.2; simp at this; omega⟩
    | cons c r =>
      rw [readRL] at h
      split at h
      · refine ih _ _ _ _ N h ?_ ⟨by intro p hp; simp at hp, by have := hc.2; simp at this ⊢; omega⟩
        intro ps hps
        rcases List.mem_append.1 hps with h | h
        · exact hd ps h
        · simp at h; subst h; exact ⟨hc.1, by have := hc.2; omega⟩
      · cases hn : nextR (c :: r) with
        | none => rw [hn] at h; simp at h
        | some x =>
          obtain ⟨p, t⟩ := x
          rw [hn] at h
          simp only [Option.bind_some] at h
          obtain ⟨n, hn0, hn1, rfl⟩ := nextR_drop hn
          refine ih _ _ _ _ N h hd ⟨?_, ?_⟩
          · intro x hx
            rcases List.mem_append.1 hx with hx | hx
            · exact hc.1 x hx
            · simp at hx; subst hx; exact nextR_kind hn
          · have := hc.2
            simp only [List.length_append, List.length_drop, List.length_cons, List.length_nil] at *
            omega
set_option maxRecDepth 100000 in
set_option maxHeartbeats 1000000 in
theorem rread_any (s : List UInt8) (w : World) (hl : s.length ≤ 60) : Calls Tryz.prog 21 #[.string ⟨s.toArray⟩] w (RRPost s w) := by
  have hd0 : decide ((60 : Int) < (s.length : Int)) = false := by simp; omega
  obtain ⟨X, hX⟩ : ∃ X, readRL (s.length + 1) [] [] s = X := ⟨_, rfl⟩
  have HQ : Hid (readR s = finO X) := by show _ = _; unfold readR; rw [if_neg (by omega), hX]
  have HX0 := Lib.hid hX
  have HX := Lib.hid hX; clear hX
  obtain ⟨j0, hj0, hy0, hy1, hy2⟩ := info_parts infoRow
  obtain ⟨i0, hi0, hz0, hz1, hz2⟩ := info_parts infoPiece
  have HI0 := Lib.hid hi0; have HZ0 := Lib.hid hz0; have HZ1 := Lib.hid hz1; have HZ2 := Lib.hid hz2
  have HJ0 := Lib.hid hj0; have HY0 := Lib.hid hy0; have HY1 := Lib.hid hy1; have HY2 := Lib.hid hy2
  clear hi0 hz0 hz1 hz2 hj0 hy0 hy1 hy2
  go_enter Tryz.func21, Tryz.ntmps21
  go_wp2_with fail
  clear hd0
  go_loopw [4, 5] (fun v k wr => ∃ (i m : Nat) (done : List (List Pc)) (cur : List Pc), k = .int .i64 i ∧ i ≤ s.length ∧ s.length - i < m ∧ done.length + cur.length ≤ i ∧ RdJ w done cur v wr ∧ Hid (readRL m done cur (s.drop i) = X)) (fun _ k _ => s.length - (intOf k).toNat)
  case atStart => exact ⟨0, s.length + 1, [], [], rfl, by omega, by omega, by simp, RdJ.first w, by show _ = _; rw [← HX.out]; rfl⟩
  case round =>
    clear HX
    obtain ⟨i, m, done, cur, rfl, hi, hm, hdc, hJ, HX⟩ := hrel
    obtain ⟨m, rfl⟩ : ∃ m', m = m' + 1 := ⟨m - 1, by omega⟩
    have HJ := Lib.hid hJ
    obtain ⟨hB, vs, u, mid, hvl, ho, hm1, hm2, hdn, hu⟩ := hJ
    have HB := Lib.hid hB; have HO := Lib.hid ho; have HM1 := Lib.hid hm1; have HM2 := Lib.hid hm2; have HD := Lib.hid hdn; have HU := Lib.hid hu; have HVL := Lib.hid hvl
    clear hB ho hm1 hm2 hdn hu hvl
    by_cases hlt : i < s.length
    · have hd := lss_nat hlt
      have hx := get_B (List.getElem?_eq_getElem hlt)
      have HS := Lib.hid (List.drop_eq_getElem_cons hlt : s.drop i = s[i] :: s.drop (i + 1))
      by_cases h59 : s[i] = 59
      · have t59 : ((s[i].toNat : Int) == 59) = true := by simp [h59]
        have hgo := HX.out
        rw [HS.out, readRL, if_pos h59] at hgo
        have HGo := Lib.hid hgo; clear hgo
        generalize s[i] = c at *
        clear h59
        have hb1 : done.length ≤ 60 := by omega
        go_wp2_with (at_builtin; go_must ((refine wpList_append_own _ rfl _ _ 45 rfl w.heap.size 53 j0 (.slice none 0 0) 1 24 Tryz.underlying45 HJ0.out HY0.out HY1.out HY2.out rfl (by decide) u4 (done.length + 1) (vs ++ [u]) rfl (World.ownsRow.alloc HO.out _) ⟨wr.heap.size, 0, none⟩ 1 1 [.slice none 0 0] rfl rfl (World.news_of_block (cs := #[.slice none 0 0]) (t := 53) (fr := (0, 0)) (heap_alloc_new wr _)) (by simp [Value.oneCell']) (by unfold maxLen; first | omega | simp) (by first | omega | simp) (by have := HB.out.size; simp; omega) ?_; intro v' w1 hown' hgrow hnil; obtain ⟨g', cap', rfl⟩ := ownsRow_succ hown'; have hJ2 := RdJ.next HB.out HVL.out HO.out HM1.out HD.out HU.out (grown_trans (World.grownBy_alloc _ _ _) hgrow) hown'; have HJ2 := Lib.hid hJ2; clear hJ2 hown' hgrow hnil)))
        refine ⟨⟨i + 1, m, done ++ [cur], [], by simp, by omega, by omega, by simp; omega, HJ2.out, HGo.out⟩, by simp only [intOf]; omega⟩
      · have t59 : ((s[i].toNat : Int) == 59) = false := ne_test h59
        have hgo := HX.out
        rw [HS.out, readRL, if_neg h59, ← HS.out] at hgo
        have HGo := Lib.hid hgo; clear hgo
        generalize s[i] = c at *
        clear h59
        obtain ⟨g, cap, rfl⟩ := ownsRow_succ HO.out
        have hlast := HO.out.cellAt done.length (by omega)
        have hfr := HO.out.frozenAt done.length
        rw [show (vs ++ [u])[done.length]? = some u by rw [← HVL.out]; simp] at hlast
        go_wp2_with fail
        refine (rpiece_any s i hlt _ hl).mono ?_
        rintro e w1 ⟨hB1, hp⟩
        cases hn : nextR (s.drop i) with
        | none =>
          rw [hn] at hp
          obtain rfl := hp
          have HF : Hid (readR s = (none, 5)) := by show _ = _; rw [HQ.out, ← HGo.out, hn]; rfl
          have HB1 := Lib.hid hB1
          clear hB1 hn HGo HX
          unfold pcV
          go_wp2_with fail
          refine bodyPost_ret (v := .tuple #[.slice none 0 0, .int .i64 5]) (by simp [results, Tryz.results21, go_sem]) rfl ?_
          exact ⟨HB.out.trans ((HB1.out.alloc HB1.out.size _).mono HB.out.size), _, by rw [HF.out], by rw [HF.out]⟩
        | some pt =>
          obtain ⟨p, t⟩ := pt
          rw [hn] at hp
          obtain ⟨n, hn0, hn1, rfl⟩ := nextR_drop hn
          rw [List.length_drop] at hn1
          rw [List.drop_drop] at hp hn
          simp only at hp
          rw [show (s.drop i).length - (s.drop (i + n)).length = n by simp; omega] at hp
          obtain rfl := hp
          have hgo := HGo.out
          rw [hn] at hgo
          have HGo2 := Lib.hid hgo
          have HB1 := Lib.hid hB1
          clear hB1 hn HGo HX hgo
          have tn : ((n : Int) == 0) = false := by simp; omega
          have HU1 : Hid (w1.ownsRow mid 83 2 u cur.length (flatPs cur)) := HU.out.kept (grown_below HB1.out none) (own_any _)
          have HO1 : Hid (w1.ownsRow w.heap.size 53 1 (.slice (some ⟨g, 0, none⟩) (done.length + 1) cap) (done.length + 1) (vs ++ [u])) := HO.out.kept (grown_below HB1.out none) (own_any _)
          have hcl : ∀ o, (w1.alloc o).cell? ⟨g, done.length, none⟩ = some u := fun o => by
            have := (HO1.out.alloc o).cellAt done.length (by omega)
            rw [this, ← HVL.out]; simp
          clear hlast hfr
          have hcl2 : ∀ o o', ((w1.alloc o).drew.alloc o').cell? ⟨g, done.length, none⟩ = some u := fun o o' => by
            have := ((HO1.out.alloc o).drew.alloc o').cellAt done.length (by omega)
            rw [this, ← HVL.out]; simp
          have hcl3 : ∀ o o', ((w1.alloc o).alloc o').cell? ⟨g, done.length, none⟩ = some u := fun o o' => by
            have := ((HO1.out.alloc o).alloc o').cellAt done.length (by omega)
            rw [this, ← HVL.out]; simp
          have hdl2 : (done.length : Int) < (done.length : Int) + 1 := by omega
          have hwr : IntKind.i64.wrap (done.length : Int) = (done.length : Int) := IntWalk.i64_in _ (by omega)
          unfold pcV
          go_wp2_with fail
          go_region_law (refine step_append_lies _ rfl (.tmp 43) (.tmp 45) 53 rfl mid 83 i0 (.agg #[.int .i64 0, .string ⟨#[]⟩]) 2 24 Tryz.underlying53 HI0.out HZ0.out HZ1.out HZ2.out rfl (by decide) u cur.length (flatPs cur) (by simp [Act.eval, Act.put]) (by first | exact ((HU1.out.alloc _).drew.alloc _) | exact ((HU1.out.alloc _).alloc _).drew) ⟨w1.heap.size + 1, 0, none⟩ 1 1 [.int .i64 p.kind, .string ⟨p.s.toArray⟩] (by simp [Act.eval, Act.put]) rfl (World.news_of_block (cs := #[.int .i64 p.kind, .string ⟨p.s.toArray⟩]) (t := 83) (fr := (0, 0)) (get_new (by simp))) (by simp [Value.oneCell']) (by omega) (by unfold maxLen; omega) (by omega) (by have := HM2.out; have := HB1.out.size; simp; omega) _ rfl ?_; intro g2 cap2 w2 hown hgrow hat hlt2; have hO2 := (show World.ownsRow _ _ _ _ _ _ _ by first | exact ((HO1.out.alloc _).drew.alloc _) | exact ((HO1.out.alloc _).alloc _).drew).kept hgrow (own_apart HO1.out HU1.out (by decide)); have c2 := hO2.cellAt done.length (by omega); have f2 := hO2.frozenAt done.length; rw [show (vs ++ [u])[done.length]? = some u by rw [← HVL.out]; simp] at c2; have HG2 := Lib.hid hgrow; have HOW := Lib.hid hown; clear hown hgrow hat hO2)
          all_goals
            go_wp2_with fail
            refine ⟨⟨i + n, m, done, cur ++ [p], by simp, by omega, by omega, by simp; omega, ?_, HGo2.out⟩, by simp only [intOf]; omega⟩
            exact RdJ.more HB.out HVL.out HO.out HM1.out HM2.out HD.out HU.out (grown_trans (grown_below HB1.out _) (grown_trans (World.grownBy_alloc _ _ _) (grown_trans (World.grownBy_alloc _ _ _) ⟨HG2.out.os, HG2.out.tape, HG2.out.output, HG2.out.size, HG2.out.block⟩))) HOW.out
    · have hd := lss_nat' hlt
      have HA := Lib.hid HJ.out.all
      have HXX : Hid (X = some (done ++ [cur])) := by
        show _ = _
        rw [← HX.out, List.drop_of_length_le (by omega), readRL]
      have HFIN : Hid (readR s = finR (done ++ [cur])) := by show _ = _; rw [HQ.out, HXX.out, finO]
      have hdl : done.length + 1 ≤ 61 := by omega
      have hal : (done ++ [cur]).length = done.length + 1 := by simp
      have HK : Hid (∀ ps ∈ done ++ [cur], Kinds ps ∧ ps.length ≤ 60) := by
        have h1 := HX0.out
        rw [HXX.out] at h1
        exact readRL_kinds _ _ _ _ _ 60 h1 (by simp) ⟨by simp [Kinds], by simp; omega⟩
      generalize done ++ [cur] = all at *
      have ho' := HA.out
      obtain ⟨us, hul, ho', hps⟩ := ho'
      rw [hal] at ho'
      obtain ⟨g, cap, rfl⟩ := ownsRow_succ ho'
      have HOO := Lib.hid ho'; have HPS := Lib.hid hps; have HUL := Lib.hid hul
      clear ho' hps hul HX HXX HJ HO HM1 HM2 HD HU HVL hdc hm
      by_cases h3 : 3 < done.length + 1
      · have t3 : decide ((3 : Int) < (done.length : Int) + 1) = true := by simp; omega
        have HF : Hid (readR s = (none, 5)) := by show _ = _; rw [HFIN.out, finR, if_pos (by omega)]
        clear HFIN
        go_wp2_with fail
        refine bodyPost_ret (v := .tuple #[.slice none 0 0, .int .i64 5]) (by simp [results, Tryz.results21, go_sem]) rfl ?_
        exact ⟨HB.out, _, by rw [HF.out], by rw [HF.out]⟩
      have t3 : decide ((3 : Int) < (done.length : Int) + 1) = false := by simp; omega
      go_wp2_with fail
      clear hd t3
      have hg : w.heap.size ≤ g ∧ g < wr.heap.size := HOO.out.lt g rfl
      go_loopw [8] (fun k wx => ∃ j : Nat, k = .int .i64 j ∧ j ≤ done.length + 1 ∧ Below wr.heap.size wr wx ∧ Hid (∀ ps ∈ all.take j, 0 ≤ kindR ps)) (fun k _ => done.length + 1 - (intOf k).toNat)
      case atStart => exact ⟨0, rfl, by omega, Below.refl _ _, fun ps h => by simp at h⟩
      case round =>
        obtain ⟨j, rfl, hj, hBx, HP⟩ := hrel
        by_cases hlt2 : j < done.length + 1
        · have hd2 : decide ((j : Int) < (done.length : Int) + 1) = true := by simp; omega
          obtain ⟨ps, hps⟩ : ∃ ps, all[j]? = some ps := ⟨all[j]'(by omega), List.getElem?_eq_getElem (by omega)⟩
          obtain ⟨u, hu⟩ : ∃ u, us[j]? = some u := ⟨us[j]'(by rw [HUL.out]; omega), List.getElem?_eq_getElem (by rw [HUL.out]; omega)⟩
          have hc := HOO.out.cellAt j (by omega)
          rw [hu] at hc
          have hc' := (hBx.cell (p := ⟨g, j, none⟩) hg.2).trans hc
          have HU := Lib.hid (HPS.out j ps u hps hu)
          have HKP := Lib.hid (HK.out ps (List.mem_of_getElem? hps))
          have HT := Lib.hid (List.take_add_one (l := all) (i := j))
          rw [hps] at HT
          have HPM := Lib.hid (List.mem_of_getElem? hps)
          have hpos := HKP.out
          clear hc hps hu
          go_wp2_with fail
          refine (rkind_any ps u w.heap.size _ HKP.out.1 HKP.out.2 (HU.out.kept (grown_below hBx none) (own_any _))).mono ?_
          rintro e w2 ⟨rfl, hB2⟩
          by_cases hneg : kindR ps < 0
          · have tneg : decide (kindR ps < 0) = true := by simpa using hneg
            have HF : Hid (readR s = (none, 5)) := by
              show _ = _
              rw [HFIN.out, finR, if_neg (by omega), if_pos (List.any_eq_true.2 ⟨ps, HPM.out, tneg⟩)]
            have HN := Lib.hid hneg
            clear hneg hpos
            go_wp2_with fail
            refine bodyPost_ret (v := .tuple #[.slice none 0 0, .int .i64 5]) (by simp [results, Tryz.results21, go_sem]) rfl ?_
            exact ⟨HB.out.trans ((hBx.trans (hB2.mono hBx.size)).mono HB.out.size), _, by rw [HF.out], by rw [HF.out]⟩
          · have tneg : decide (kindR ps < 0) = false := by simpa using hneg
            have HN := Lib.hid hneg
            clear hneg hpos
            go_wp2_with fail
            refine ⟨⟨j + 1, by simp, by omega, hBx.trans (hB2.mono hBx.size), ?_⟩, by simp only [intOf]; omega⟩
            intro x hx
            rw [HT.out] at hx
            rcases List.mem_append.1 hx with hx | hx
            · exact HP.out x hx
            · simp at hx; subst hx; have := HN.out; omega
        · have hd2 : decide ((j : Int) < (done.length : Int) + 1) = false := by simp; omega
          have HF : Hid (readR s = (some all, 0)) := by
            show _ = _
            rw [HFIN.out, finR, if_neg (by omega), if_neg]
            intro h
            obtain ⟨ps, h1, h2⟩ := List.any_eq_true.1 h
            have := HP.out ps (by rw [List.take_of_length_le (by omega)]; exact h1)
            simp at h2; omega
          go_wp2_with fail
          refine bodyPost_ret (v := .tuple #[.slice (some ⟨g, 0, none⟩) (done.length + 1) cap, .int .i64 0]) (by simp [results, Tryz.results21, go_sem]) rfl ?_
          refine ⟨HB.out.trans (hBx.mono HB.out.size), _, by rw [HF.out], ?_⟩
          rw [HF.out]
          refine ⟨us, HUL.out, ?_, fun i ps u h1 h2 => (HPS.out i ps u h1 h2).kept (grown_below hBx none) (own_any _)⟩
          rw [hal]
          exact HOO.out.kept (grown_below hBx none) (own_any _)

set_option maxHeartbeats 400000 in
theorem rread_big (s : List UInt8) (w : World) (hl : 60 < s.length) : Calls Tryz.prog 21 #[.string ⟨s.toArray⟩] w (RRPost s w) := by
  have hd0 : decide ((60 : Int) < (s.length : Int)) = true := by simp; omega
  have HF : Hid (readR s = (none, 7)) := by show _ = _; unfold readR; rw [if_pos hl]
  go_enter Tryz.func21, Tryz.ntmps21
  go_wp2_with fail
  refine bodyPost_ret (v := .tuple #[.slice none 0 0, .int .i64 7]) (by simp [results, Tryz.results21, go_sem]) rfl ?_
  exact ⟨Below.refl _ _, _, by rw [HF.out], by rw [HF.out]⟩
theorem rread_all (s : List UInt8) (w : World) : Calls Tryz.prog 21 #[.string ⟨s.toArray⟩] w (RRPost s w) := by
  by_cases h : 60 < s.length
  · exact rread_big s w h
  · exact rread_any s w (by omega)
set_option maxHeartbeats 400000 in
theorem rcheck_any (s : List UInt8) (w : World) : Calls Tryz.prog 9 #[.string ⟨s.toArray⟩] w fun e w' => e = .returned (.int .i64 (readR s).2) ∧ Below w.heap.size w w' := by
  go_enter Tryz.func9, Tryz.ntmps9
  go_wp2_with fail
  refine (rread_all s _).mono ?_
  rintro e w1 ⟨hB, v, rfl, hm⟩
  go_wp2
  go_ret
  exact ⟨rfl, hB⟩
def rplainOf : Option (List (List Pc)) → Bool
  | some l => l.all fun ps => kindR ps == 0
  | none => false
theorem finR_err (l : List (List Pc)) : (finR l).1 = none ↔ (finR l).2 ≠ 0 := by
  unfold finR
  split
  · simp
  · split <;> simp
theorem readR_err (q : List UInt8) : (readR q).1 = none ↔ (readR q).2 ≠ 0 := by
  unfold readR
  split
  · simp
  · cases h : readRL (q.length + 1) [] [] q with
    | none => simp [finO]
    | some l => exact finR_err l
theorem readR_some {q : List UInt8} {l : List (List Pc)} (h : (readR q).1 = some l) : l.length ≤ 3 ∧ ∀ ps ∈ l, Kinds ps ∧ ps.length ≤ 60 := by
  unfold readR at h
  split at h
  · cases h
  · rename_i hl
    cases hr : readRL (q.length + 1) [] [] q with
    | none => rw [hr] at h; cases h
    | some l' =>
      rw [hr] at h
      simp only [finO, finR] at h
      split at h
      · cases h
      · split at h
        · cases h
        · simp only [Option.some.injEq] at h
          subst h
          exact ⟨by omega, readRL_kinds _ _ _ _ _ 60 hr (by simp) ⟨by simp [Kinds], by simp; omega⟩⟩
set_option maxHeartbeats 800000 in
theorem rplain_any (s : List UInt8) (w : World) : Calls Tryz.prog 11 #[.string ⟨s.toArray⟩] w fun e w' => e = .returned (.bool (rplainOf (readR s).1)) ∧ Below w.heap.size w w' := by
  go_enter Tryz.func11, Tryz.ntmps11
  go_wp2_with fail
  refine (rread_all s _).mono ?_
  rintro e w1 ⟨hB, v, rfl, hm⟩
  obtain ⟨r, er, hr⟩ : ∃ r er, readR s = (r, er) := ⟨_, _, rfl⟩
  have HE : Hid (r = none ↔ er ≠ 0) := by have := readR_err s; rw [hr] at this; exact this
  have HS : Hid (∀ l, r = some l → l.length ≤ 3 ∧ ∀ ps ∈ l, Kinds ps ∧ ps.length ≤ 60) := fun l h => readR_some (q := s) (by rw [hr]; exact h)
  rw [hr] at hm
  have HR1 : Hid ((readR s).1 = r) := by show _ = _; rw [hr]
  rw [hr]
  have HB := Lib.hid hB; clear hB
  cases r with
  | none =>
    simp only at hm
    clear hr
    subst hm
    have he : (er == 0) = false := by simpa using HE.out.1 rfl
    go_wp2_with fail
    go_ret
    exact ⟨by rw [HR1.out]; rfl, HB.out⟩
  | some l =>
    have he : er = 0 := by
      by_cases h : er = 0
      · exact h
      · have := HE.out.2 h; cases this
    subst he
    simp only at hm
    have hl3 := (HS.out l rfl).1
    have HKK := Lib.hid (HS.out l rfl).2
    clear hr HS HE
    obtain ⟨us, hul, ho, hps⟩ := hm
    have HOO := Lib.hid ho; have HPS := Lib.hid hps; have HUL := Lib.hid hul
    obtain ⟨a, n, cap, rfl⟩ := own_slice ho
    have hn : n = l.length := by
      rcases ho.2 with ⟨e, h⟩ | ⟨g, cap', cur, e, _⟩
      · injection e with _ e2 _; omega
      · injection e
    subst hn
    have hgs : ∀ g, a = some ⟨g, 0, none⟩ → g < w1.heap.size := fun g e => (ho.lt g (by rw [e]; rfl)).2
    clear ho hps hul
    go_wp2_with fail
    go_loopw [5] (fun k wr => ∃ i : Nat, k = .int .i64 i ∧ i ≤ l.length ∧ Below w1.heap.size w1 wr ∧ Hid ((l.take i).all (fun ps => kindR ps == 0) = true)) (fun k _ => l.length - (intOf k).toNat)
    case atStart => exact ⟨0, rfl, by omega, Below.refl _ _, rfl⟩
    case round =>
      obtain ⟨i, rfl, hi, hBr, HA⟩ := hrel
      by_cases hlt : i < l.length
      · have hd := lss_nat hlt
        obtain ⟨ps, hps⟩ : ∃ ps, l[i]? = some ps := ⟨l[i], List.getElem?_eq_getElem hlt⟩
        obtain ⟨u, hu⟩ : ∃ u, us[i]? = some u := ⟨us[i]'(by rw [HUL.out]; omega), List.getElem?_eq_getElem (by rw [HUL.out]; omega)⟩
        obtain ⟨g, cap', hg⟩ : ∃ g cap', Value.slice a l.length cap = .slice (some ⟨g, 0, none⟩) l.length cap' := by
          rcases HOO.out.2 with ⟨_, h0⟩ | ⟨g, cap', cur, e, _⟩
          · omega
          · exact ⟨g, cap', e⟩
        injection hg with hg1 _ hg3
        subst hg1; subst hg3
        have hc := HOO.out.cellAt i (by omega)
        rw [hu] at hc
        have hc' := (hBr.cell (p := ⟨g, i, none⟩) (hgs g rfl)).trans hc
        have HU := Lib.hid (HPS.out i ps u hps hu)
        have HKP := Lib.hid (HKK.out ps (List.mem_of_getElem? hps))
        have HT := Lib.hid (List.take_add_one (l := l) (i := i))
        rw [hps] at HT
        have HPM := Lib.hid (List.mem_of_getElem? hps)
        clear hc hps hu
        go_wp2_with fail
        refine (rkind_any ps u w.heap.size _ HKP.out.1 HKP.out.2 (HU.out.kept (grown_below hBr none) (own_any _))).mono ?_
        rintro e w2 ⟨rfl, hB2⟩
        by_cases hk : kindR ps = 0
        · have hk' : (kindR ps == 0) = true := by simpa using hk
          have hk'' : (kindR ps != 0) = false := by simpa using hk
          go_wp2_with fail
          refine ⟨⟨i + 1, by simp, by omega, hBr.trans (hB2.mono hBr.size), ?_⟩, by simp only [intOf]; omega⟩
          show _ = _
          rw [HT.out, List.all_append, HA.out]; simp [hk]
        · have hk' : (kindR ps == 0) = false := by simpa using hk
          have hk'' : (kindR ps != 0) = true := by simpa using hk
          have HF : Hid (rplainOf (some l) = false) := by
            show _ = _
            rw [rplainOf, List.all_eq_false]
            exact ⟨ps, HPM.out, by simpa using hk⟩
          go_wp2_with fail
          go_ret
          refine ⟨by rw [HR1.out, HF.out]; rfl, HB.out.trans ((hBr.trans (hB2.mono hBr.size)).mono HB.out.size)⟩
      · have hd := lss_nat' hlt
        have HF : Hid (rplainOf (some l) = true) := by
          show _ = _
          have := HA.out
          rw [List.take_of_length_le (by omega)] at this
          rw [rplainOf, this]
        go_wp2_with fail
        go_ret
        refine ⟨by rw [HR1.out, HF.out]; rfl, HB.out.trans (hBr.mono HB.out.size)⟩
end Go.Proofs.YtpknbdgmpfhcnaaGreatDoor
