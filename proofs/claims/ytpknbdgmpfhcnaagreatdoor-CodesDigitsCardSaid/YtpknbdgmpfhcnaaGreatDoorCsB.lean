/- The walk of codes.read. -/
import Derived.Test.YtpknbdgmpfhcnaaGreatDoorCsA
import Derived.Shelf.Abstract
import Derived.Deep.LoopGhost
import Derived.Deep.DeepCutAuto
import Derived.Deep.CutRange
import Derived.Deep.AppendLies
import Derived.OwnWalk
namespace Go.Proofs.YtpknbdgmpfhcnaaGreatDoor
set_option linter.unusedVariables false
set_option linter.unusedSimpArgs false
open Go.RowKit

/-- What read has come to between two sections. -/
structure RSt (w : World) (q : List UInt8) (v : Value) (acc : List Sec) (W : World) : Prop where
  f : W.heap[w.heap.size]? = some (.cells #[v] 42 (0, 0))
  e : W.heap[w.heap.size + 1]? = some (.cells #[.int .i64 0] 22 (0, 0))
  r : RD W (w.heap.size + 2) q
  B : Below w.heap.size w W
  fmt : FmtP w.heap.size v acc W
  g0 : gN ≤ w.heap.size
  g : G W
/-- Behind a section: it lies beside what was read. -/
theorem RSt.section_ {w W W' : World} {q t : List UInt8} {v u : Value} {acc : List Sec} {s : Sec} (h : RSt w q v acc W) (hg : W.grownBy W' (some (w.heap.size + 2))) (ho : OwnP W u s.ps W') (ht : RD W' (w.heap.size + 2) t) :
    RSt w t v acc W' ∧ W'.ownsRow w.heap.size 98 2 u s.ps.length (flatPs s.ps) := by
  have hB := below_grown h.B hg (by omega)
  refine ⟨⟨(hg.block _ (Array.getElem?_eq_some_iff.1 h.f).1 (by simp)).trans h.f, (hg.block _ (Array.getElem?_eq_some_iff.1 h.e).1 (by simp)).trans h.e, ht, hB, h.fmt.kept hg h.r (by simp) (by simp), h.g0, ?_⟩, own_mono ho h.B.size⟩
  have hg0 := h.g0
  exact h.g.of_blocks hg.size (fun k hk => hg.block k (Nat.lt_of_lt_of_le hk h.g.size) (by
    have : k < 10 := hk
    have : (10 : Nat) ≤ w.heap.size := hg0
    simp; omega))
theorem RSt.drew {w W : World} {q : List UInt8} {v : Value} {acc : List Sec} (h : RSt w q v acc W) : RSt w q v acc W.drew := ⟨h.f, h.e, h.r, h.B.drew, h.fmt, h.g0, h.g.drew⟩
/-- Behind an append and the store of what it gave. -/
theorem RSt.appended {w W w1 : World} {q : List UInt8} {v v' u : Value} {acc : List Sec} {s : Sec} {vs : List Value} {o : Obj} (h : RSt w q v acc W) (hl : vs.length = acc.length) (ho : W.ownsRow w.heap.size 51 3 v acc.length (flatSecs acc vs))
    (hp : ∀ (i : Nat) (s : Sec) (u : Value), acc[i]? = some s → vs[i]? = some u → W.ownsRow w.heap.size 98 2 u s.ps.length (flatPs s.ps)) (hu : W.ownsRow w.heap.size 98 2 u s.ps.length (flatPs s.ps))
    (hg : (W.alloc o).grownBy w1 v.ownBlock) (ho' : w1.ownsRow w.heap.size 51 3 v' (acc.length + 1) (flatSecs acc vs ++ [.int .i64 s.kind, u, .int .i64 s.hundreds])) :
    (w1.cell? ⟨w.heap.size, 0, none⟩ = some v ∧ w1.frozen? ⟨w.heap.size, 0, none⟩ = false) ∧ RSt w q v' (acc ++ [s]) (w1.setCell ⟨w.heap.size, 0, none⟩ v') := by
  have hoA := ho.alloc o
  have hB : ∀ {k : Nat} {x : Obj}, W.heap[k]? = some x → (∀ cs, x ≠ .cells cs 51 (0, 0)) → w1.heap[k]? = some x := fun {k x} hk hx => by
    have hkA : (W.alloc o).heap[k]? = some x := (get_old (Array.getElem?_eq_some_iff.1 hk).1).trans hk
    refine (hg.block k (Array.getElem?_eq_some_iff.1 hkA).1 ?_).trans hkA
    rcases own_ne hoA hkA hx with h | h
    · rw [h]; simp
    · exact fun e => h e.symm
  have hf1 := hB h.f (by simp)
  have he1 := hB h.e (by simp)
  have hr1 : RD w1 (w.heap.size + 2) q := hB h.r (by simp)
  have hge := hoA.lt
  have hB1 : Below w.heap.size w w1 := by
    have hA : Below w.heap.size w (W.alloc o) := h.B.alloc h.B.size o
    exact hA.grown hg (Nat.le_trans h.B.size (by simp)) (fun k e => (hge k e).1)
  have hG1 : G w1 := h.g.of_blocks (Nat.le_trans (by simp) hg.size) (fun k hk => by
    have hk' : k < 10 := hk
    have hg0 : (10 : Nat) ≤ w.heap.size := h.g0
    have hs := h.B.size
    rw [hg.block k (by simp; omega) (fun e => by have := (hge k e.symm).1; omega), get_old (by omega)])
  have hF : FmtP w.heap.size v' (acc ++ [s]) w1 := FmtP.snoc (W := W.alloc o) hl hoA (fun i s u h1 h2 => (hp i s u h1 h2).alloc o) (hu.alloc o) hg ho'
  refine ⟨⟨by simp [World.cell?, hf1], by simp [World.frozen?, hf1]⟩, ?_⟩
  have hgs := grown_set' w1 w.heap.size 0 v'
  refine ⟨?_, (Below.heap_setCell _ _ _ _ (by simp)).trans he1, hr1.far (by simp) _, hB1.setCell (p := ⟨w.heap.size, 0, none⟩) (Nat.le_refl _) _, hF.kept hgs hf1 (by simp) (by simp), h.g0, hG1.setCell h.g0 _⟩
  rw [heap_set_same hf1]; simp
theorem RSt.cut {w W W' : World} {q t : List UInt8} {v : Value} {acc : List Sec} (h : RSt w q v acc W) (hg : W.grownBy W' (some (w.heap.size + 2))) (ht : RD W' (w.heap.size + 2) t) : RSt w t v acc W' := by
  have hB := below_grown h.B hg (by omega)
  refine ⟨(hg.block _ (Array.getElem?_eq_some_iff.1 h.f).1 (by simp)).trans h.f, (hg.block _ (Array.getElem?_eq_some_iff.1 h.e).1 (by simp)).trans h.e, ht, hB, h.fmt.kept hg h.r (by simp) (by simp), h.g0, ?_⟩
  have hg0 := h.g0
  exact h.g.of_blocks hg.size (fun k hk => hg.block k (Nat.lt_of_lt_of_le hk h.g.size) (by
    have : k < 10 := hk
    have : (10 : Nat) ≤ w.heap.size := hg0
    simp; omega))
theorem FmtP.form {base : Nat} {v : Value} {l : List Sec} {W : World} (h : FmtP base v l W) : ∃ a cap, v = .slice a l.length cap := by
  obtain ⟨vs, hl, ho, hp⟩ := h
  rcases ho.2 with ⟨rfl, h0⟩ | ⟨g, cap, cur, rfl, _⟩
  · exact ⟨_, _, by rw [h0]⟩
  · exact ⟨_, _, rfl⟩
theorem read_out {tmps : Array Value} {q : List UInt8} {v : Value} {acc : List Sec} {w W : World} (h : RSt w [] v acc W) (hq : readL q = (some acc, 0)) (h2 : tmps.getD 2 undef = .pointer (some ⟨w.heap.size, 0, none⟩)) (h3 : tmps.getD 3 undef = .pointer (some ⟨w.heap.size + 1, 0, none⟩)) :
    Leaves Tryz.prog Tryz.f20 tmps (ReadPost q w) (readD w.heap.size) .returning ((W.setCell ⟨w.heap.size, 0, none⟩ v).setCell ⟨w.heap.size + 1, 0, none⟩ (.int .i64 0)) := by
  have g1 := heap_set_same (i := 0) h.f v
  have g2 : ((W.setCell ⟨w.heap.size, 0, none⟩ v).setCell ⟨w.heap.size + 1, 0, none⟩ (.int .i64 0)).heap[w.heap.size]? = some (.cells #[v] 42 (0, 0)) := by
    rw [Below.heap_setCell _ _ _ _ (by simp), g1]; simp
  have g3 : (W.setCell ⟨w.heap.size, 0, none⟩ v).heap[w.heap.size + 1]? = some (.cells #[.int .i64 0] 22 (0, 0)) := by
    rw [Below.heap_setCell _ _ _ _ (by simp)]; exact h.e
  have g4 := heap_set_same (i := 0) g3 (.int .i64 0)
  refine leave_ok w.heap.size h2 h3 g2 (by simpa using g4) ⟨(h.B.setCell (p := ⟨w.heap.size, 0, none⟩) (Nat.le_refl _) _).setCell (p := ⟨w.heap.size + 1, 0, none⟩) (by simp) _, v, by rw [hq], ?_⟩
  rw [hq]
  exact (h.fmt.kept (grown_set' _ _ _ _) h.f (by simp) (by simp)).kept (grown_set' _ _ _ _) g3 (by simp) (by simp)
theorem infoSec : (Tryz.prog.info? 51).map (fun i => (i.zero, i.size, i.bytes)) = some (some (.agg #[.int .i64 0, .slice none 0 0, .int .i64 0]), 3, 40) := by kernel_rfl
theorem own_slice {W : World} {base : Nat} {e : TypeId} {size : Nat} {v : Value} {n : Nat} {xs : List Value} (h : W.ownsRow base e size v n xs) : ∃ a len cap, v = .slice a len cap := by
  rcases h.2 with ⟨rfl, _⟩ | ⟨g, cap, cur, rfl, _⟩
  · exact ⟨_, _, _, rfl⟩
  · exact ⟨_, _, _, rfl⟩

theorem runL_len {σ : Type} (step : σ → Pc → Option σ) : ∀ (k : Nat) (st st' : σ) (q t : List UInt8), runL step k st q = some (st', t) → t.length ≤ q.length
  | 0, st, st', q, t, h => by simp [runL] at h
  | k + 1, st, st', q, t, h => by
    rw [runL] at h
    split at h
    · cases h; omega
    · cases hn : nextL q with
      | none => rw [hn] at h; cases h
      | some x =>
        rw [hn] at h
        simp only [Option.bind_some] at h
        cases hs : step st x.1 with
        | none => rw [hs] at h; cases h
        | some st1 =>
          rw [hs] at h
          have h1 := runL_len step k st1 st' x.2 t h
          cases q with
          | nil => cases hn
          | cons c r =>
            have := nextL_lt c r x.1 x.2 hn
            omega
theorem sectionL_len (q : List UInt8) (s : Sec) (t : List UInt8) (h : sectionL q = some (s, t)) : t.length ≤ q.length := by
  unfold sectionL at h
  cases hr : runL stepS (q.length + 1) ⟨0, [], 0, 0⟩ q with
  | none => rw [hr] at h; cases h
  | some x =>
    rw [hr] at h
    simp only [Option.bind_some] at h
    split at h
    · simp only [Option.some.injEq, Prod.mk.injEq] at h
      rw [← h.2]; exact runL_len stepS _ _ _ _ _ hr
    · cases h

set_option maxRecDepth 100000 in
set_option maxHeartbeats 3200000 in
theorem read_any (q : List UInt8) (w : World) (hG : G w) (hl : q.length ≤ 60) :
    Calls Tryz.prog 20 #[.string ⟨q.toArray⟩] w (ReadPost q w) := by
  have hmf : ∀ (fn : Fn) (first cap : Array Value) (w : World), (Instr.makeFunc fn first cap).run Tryz.prog w = .ok (.func fn first cap) w := fun _ _ _ _ => rfl
  have hd : decide ((60 : Int) < (q.length : Int)) = false := by simp; omega
  go_enter_defers Tryz.func20, Tryz.ntmps20
  go_wp2_with fail
  generalize hW1 : ((w.alloc (.cells #[.slice none 0 0] 42)).alloc (.cells #[.int .i64 0] 22)).alloc (.cells #[.string ⟨q.toArray⟩] 78) = W1
  have hR : RSt w q (.slice none 0 0) [] W1 := by
    have hB1 : Below w.heap.size w W1 := by rw [← hW1]; exact (((Below.refl _ _).alloc (Nat.le_refl _) _).alloc (by simp only [World.size_alloc] <;> omega) _).alloc (by simp only [World.size_alloc] <;> omega) _
    refine ⟨by rw [← hW1, get_old (by simp only [World.size_alloc] <;> omega), get_old (by simp only [World.size_alloc] <;> omega)]; exact get_new rfl, by rw [← hW1, get_old (by simp only [World.size_alloc] <;> omega)]; exact get_new (by simp only [World.size_alloc] <;> omega), by unfold RD; rw [← hW1]; exact get_new (by simp only [World.size_alloc] <;> omega), hB1, FmtP.nil _ _, hG.size, hG.below' hB1⟩
  clear hW1 hd
  obtain ⟨v0, hv0⟩ : ∃ v0, Value.slice none 0 0 = v0 := ⟨_, rfl⟩
  rw [hv0] at hR
  have HR := Lib.hid hR
  have c0 : W1.cell? ⟨w.heap.size, 0, none⟩ = some v0 := by simp [World.cell?, hR.f]
  clear hR hv0
  have hgs : gN ≤ w.heap.size + 2 := Nat.le_trans hG.size (by omega)
  go_cut [] from 12 to 33 (fun wx => ∃ v t s, sectionL q = some (s, t) ∧ RSt w t v [s] wx)
  case first =>
    have HL := Lib.hid hl
    refine wp_region_orders (by kernel_rfl) [[0, 1, 2, 3, 4, 5], [1, 0, 2, 3, 4, 5], [1, 2, 0, 3, 4, 5], [1, 2, 3, 0, 4, 5]] (by kernel_rfl) ?_
    intro l hl2
    simp only [List.mem_cons, List.mem_nil_iff, or_false] at hl2
    show wpOps _ _ _ _ _ W1.drew
    obtain ⟨i0, hi0, hz0, hz1, hz2⟩ := info_parts infoSec
    have HI0 := Lib.hid hi0; have HZ0 := Lib.hid hz0; have HZ1 := Lib.hid hz1; have HZ2 := Lib.hid hz2
    clear hi0 hz0 hz1 hz2
    cases hs : sectionL q with
    | none =>
      have HS := Lib.hid hs; clear hs
      rcases hl2 with rfl | rfl | rfl | rfl
      all_goals
        refine wpOps_to _ [_, _, _, _, _, _] rfl _ _ ?_
        simp only [List.getElem_toArray, List.getElem_cons_zero, List.getElem_cons_succ]
        go_wp2_with fail
        refine (section_any (w.heap.size + 2) q W1.drew HR.out.r HR.out.g.drew hgs HL.out).mono ?_
        rw [HS.out]
        rintro e w' ⟨hg, rfl⟩
        replace hg : W1.grownBy w' (some (w.heap.size + 2)) := ⟨hg.os, hg.tape, hg.output, hg.size, hg.block⟩
        go_wp2_with fail
        have hq : readL q = (none, 5) := by unfold readL; rw [if_neg (by omega), HS.out]; rfl
        exact leave_broken w.heap.size rfl rfl rfl ((hg.block _ (Array.getElem?_eq_some_iff.1 HR.out.f).1 (by simp)).trans HR.out.f) ((hg.block _ (Array.getElem?_eq_some_iff.1 HR.out.e).1 (by simp)).trans HR.out.e) (below_grown HR.out.B hg (by omega)) hq
    | some pt =>
      obtain ⟨s, t⟩ := pt
      have HS := Lib.hid hs; clear hs
      rcases hl2 with rfl | rfl | rfl | rfl
      all_goals
        refine wpOps_to _ [_, _, _, _, _, _] rfl _ _ ?_
        simp only [List.getElem_toArray, List.getElem_cons_zero, List.getElem_cons_succ]
        go_wp2_with fail
        refine (section_any (w.heap.size + 2) q W1.drew HR.out.r HR.out.g.drew hgs HL.out).mono ?_
        rw [HS.out]
        rintro e w' ⟨hg, u, rfl, hO, ht⟩
        replace hg : W1.grownBy w' (some (w.heap.size + 2)) := ⟨hg.os, hg.tape, hg.output, hg.size, hg.block⟩
        obtain ⟨hRS, hU⟩ := HR.out.section_ hg (own_mono hO (Nat.le_refl _)) ht
        obtain ⟨a0, len0, cap0, rfl⟩ := own_slice hU
        obtain ⟨vs, hvl, hov, hpv⟩ := hRS.fmt
        have c0' : w'.cell? ⟨w.heap.size, 0, none⟩ = some v0 := by simp [World.cell?, hRS.f]
        have c1' : (w'.alloc (.cells #[.int .i64 s.kind, .slice a0 len0 cap0, .int .i64 s.hundreds] 51)).cell? ⟨w.heap.size, 0, none⟩ = some v0 := cell_old c0'
        have HRS := Lib.hid hRS; have HU := Lib.hid hU; have HVL := Lib.hid hvl; have HOV := Lib.hid hov; have HPV := Lib.hid hpv
        clear hRS hU hvl hov hpv hO ht hg
        go_wp2_with (at_builtin; go_must ((refine wpList_append_own _ rfl _ _ 42 rfl w.heap.size 51 i0 (.agg #[.int .i64 0, .slice none 0 0, .int .i64 0]) 3 40 Tryz.underlying42 HI0.out HZ0.out HZ1.out HZ2.out rfl (by decide) v0 ([] : List Sec).length (flatSecs ([] : List Sec) vs) rfl (World.ownsRow.alloc HOV.out _) ⟨w'.heap.size, 0, none⟩ 1 1 [.int .i64 s.kind, .slice a0 len0 cap0, .int .i64 s.hundreds] rfl rfl (World.news_of_block (cs := #[.int .i64 s.kind, .slice a0 len0 cap0, .int .i64 s.hundreds]) (t := 51) (fr := (0, 0)) (heap_alloc_new w' _)) (by simp [Value.oneCell']) (by unfold maxLen; first | omega | simp) (by first | omega | simp) (by have := HRS.out.B.size; simp; omega) ?_; intro v' w1 hown' hgrow hnil; obtain ⟨g', cap', rfl⟩ := ownsRow_succ hown'; obtain ⟨⟨cf, ff⟩, hR2⟩ := HRS.out.appended HVL.out HOV.out HPV.out HU.out hgrow hown'; have HR2 := Lib.hid hR2; clear hR2 hown' hgrow hnil)))
        go_meet
        exact ⟨_, t, s, HS.out, HR2.out⟩
  case rest =>
    obtain ⟨v, t, s, hs, hR⟩ := hcut
    have hq0 : readL q = match contL (t.length + 1) [s] t with
        | none => (none, 5)
        | some l => if l.length ≤ 3 then (some l, 0) else (none, 5) := by
      unfold readL; rw [if_neg (by omega), hs]; rfl
    have hlen := sectionL_len q s t hs
    obtain ⟨X, hX⟩ : ∃ X, contL (t.length + 1) [s] t = X := ⟨_, rfl⟩
    rw [hX] at hq0
    have HQ0 := Lib.hid hq0; have HX := Lib.hid hX; have HR0 := Lib.hid hR
    clear hq0 hX hs HR c0
    go_wp2_with fail
    go_loopw [] (fun wr => ∃ v t acc k, RSt w t v acc wr ∧ t.length < k ∧ t.length + acc.length ≤ 61 ∧ Hid (contL k acc t = X)) (fun wr => rdLen wr (w.heap.size + 2))
    case atStart => exact ⟨v, t, [s], t.length + 1, hR, by omega, by simp; omega, HX.out⟩
    case round =>
      clear hR HR0 HX hlen
      obtain ⟨v, t, acc, k, hR, hk, hta, HX⟩ := hrel
      obtain ⟨k, rfl⟩ : ∃ k', k = k' + 1 := ⟨k - 1, by omega⟩
      have hrc := hR.r.cell
      have HR := Lib.hid hR
      have c0 : wr.cell? ⟨w.heap.size, 0, none⟩ = some v := by simp [World.cell?, hR.f]
      clear hR
      cases t with
      | nil =>
        have HF : Hid (X = some acc) := HX.out.symm
        obtain ⟨a9, cap9, rfl⟩ := HR.out.fmt.form
        have ff : wr.frozen? ⟨w.heap.size, 0, none⟩ = false := by simp [World.frozen?, HR.out.f]
        have c1 : wr.cell? ⟨w.heap.size + 1, 0, none⟩ = some (.int .i64 0) := by simp [World.cell?, HR.out.e]
        have fe : wr.frozen? ⟨w.heap.size + 1, 0, none⟩ = false := by simp [World.frozen?, HR.out.e]
        by_cases h3 : acc.length ≤ 3
        · have d3 : decide ((acc.length : Int) ≤ 3) = true := by simp; omega
          have HQ1 : Hid (readL q = (some acc, 0)) := by show _ = _; rw [HQ0.out, HF.out]; simp only []; rw [if_pos h3]
          clear h3
          go_wp2_with fail
          refine (must_true _).mono ?_
          rintro e w5 ⟨rfl, rfl⟩
          go_wp2_with fail
          exact read_out HR.out HQ1.out rfl rfl
        · have d3 : decide ((acc.length : Int) ≤ 3) = false := by simp; omega
          have HQ1 : Hid (readL q = (none, 5)) := by show _ = _; rw [HQ0.out, HF.out]; simp only []; rw [if_neg h3]
          clear h3
          go_wp2_with fail
          refine (must_false _).mono ?_
          rintro e w5 ⟨rfl, rfl⟩
          go_wp2_with fail
          exact leave_broken w.heap.size rfl rfl rfl HR.out.f HR.out.e HR.out.B HQ1.out
      | cons ch t1 =>
        go_wp2_with fail
        refine (cut_any _ (w.heap.size + 2) 1 (ch :: t1) (by simp) HR.out.r).mono ?_
        rintro e W1 ⟨rfl, hR1, hg1⟩
        simp only [List.drop_succ_cons, List.drop_zero] at hR1
        have hR2 := HR.out.cut hg1 hR1
        clear hR1 hg1 c0 hrc
        have HRM : Hid (rdLen wr (w.heap.size + 2) = t1.length + 1) := rdLen_of HR.out.r
        clear HR
        have HR := Lib.hid hR2
        have c0 : W1.cell? ⟨w.heap.size, 0, none⟩ = some v := by simp [World.cell?, hR2.f]
        clear hR2
        have hl1 : t1.length ≤ 60 := by simp at hta; omega
        have HL := Lib.hid hl1
        have HXC : Hid (X = (sectionL t1).bind fun x => contL k (acc ++ [x.1]) x.2) := HX.out.symm
        have hac : acc.length ≤ 61 := by simp at hta; omega
        go_wp2_with fail
        refine wp_region_orders (by kernel_rfl) [[0, 1, 2, 3, 4, 5], [1, 0, 2, 3, 4, 5], [1, 2, 0, 3, 4, 5], [1, 2, 3, 0, 4, 5]] (by kernel_rfl) ?_
        intro l hl2
        simp only [List.mem_cons, List.mem_nil_iff, or_false] at hl2
        show wpOps _ _ _ _ _ W1.drew
        obtain ⟨i0, hi0, hz0, hz1, hz2⟩ := info_parts infoSec
        have HI0 := Lib.hid hi0; have HZ0 := Lib.hid hz0; have HZ1 := Lib.hid hz1; have HZ2 := Lib.hid hz2
        clear hi0 hz0 hz1 hz2
        cases hs : sectionL t1 with
        | none =>
          have HS := Lib.hid hs; clear hs
          rcases hl2 with rfl | rfl | rfl | rfl
          all_goals
            refine wpOps_to _ [_, _, _, _, _, _] rfl _ _ ?_
            simp only [List.getElem_toArray, List.getElem_cons_zero, List.getElem_cons_succ]
            go_wp2_with fail
            refine (section_any (w.heap.size + 2) t1 W1.drew HR.out.r HR.out.g.drew hgs HL.out).mono ?_
            rw [HS.out]
            rintro e w' ⟨hg, rfl⟩
            replace hg : W1.grownBy w' (some (w.heap.size + 2)) := ⟨hg.os, hg.tape, hg.output, hg.size, hg.block⟩
            go_wp2_with fail
            have hq : readL q = (none, 5) := by rw [HQ0.out, HXC.out, HS.out]; rfl
            exact leave_broken w.heap.size rfl rfl rfl ((hg.block _ (Array.getElem?_eq_some_iff.1 HR.out.f).1 (by simp)).trans HR.out.f) ((hg.block _ (Array.getElem?_eq_some_iff.1 HR.out.e).1 (by simp)).trans HR.out.e) (below_grown HR.out.B hg (by omega)) hq
        | some pt =>
          obtain ⟨s, t⟩ := pt
          have HS := Lib.hid hs; clear hs
          rcases hl2 with rfl | rfl | rfl | rfl
          all_goals
            refine wpOps_to _ [_, _, _, _, _, _] rfl _ _ ?_
            simp only [List.getElem_toArray, List.getElem_cons_zero, List.getElem_cons_succ]
            go_wp2_with fail
            refine (section_any (w.heap.size + 2) t1 W1.drew HR.out.r HR.out.g.drew hgs HL.out).mono ?_
            rw [HS.out]
            rintro e w' ⟨hg, u, rfl, hO, ht⟩
            replace hg : W1.grownBy w' (some (w.heap.size + 2)) := ⟨hg.os, hg.tape, hg.output, hg.size, hg.block⟩
            obtain ⟨hRS, hU⟩ := HR.out.section_ hg (own_mono hO (Nat.le_refl _)) ht
            obtain ⟨a0, len0, cap0, rfl⟩ := own_slice hU
            obtain ⟨vs, hvl, hov, hpv⟩ := hRS.fmt
            have c0' : w'.cell? ⟨w.heap.size, 0, none⟩ = some v := by simp [World.cell?, hRS.f]
            have c1' : (w'.alloc (.cells #[.int .i64 s.kind, .slice a0 len0 cap0, .int .i64 s.hundreds] 51)).cell? ⟨w.heap.size, 0, none⟩ = some v := cell_old c0'
            have HRS := Lib.hid hRS; have HU := Lib.hid hU; have HVL := Lib.hid hvl; have HOV := Lib.hid hov; have HPV := Lib.hid hpv
            clear hRS hU hvl hov hpv hO ht hg
            go_wp2_with (at_builtin; go_must ((refine wpList_append_own _ rfl _ _ 42 rfl w.heap.size 51 i0 (.agg #[.int .i64 0, .slice none 0 0, .int .i64 0]) 3 40 Tryz.underlying42 HI0.out HZ0.out HZ1.out HZ2.out rfl (by decide) v acc.length (flatSecs acc vs) rfl (World.ownsRow.alloc HOV.out _) ⟨w'.heap.size, 0, none⟩ 1 1 [.int .i64 s.kind, .slice a0 len0 cap0, .int .i64 s.hundreds] rfl rfl (World.news_of_block (cs := #[.int .i64 s.kind, .slice a0 len0 cap0, .int .i64 s.hundreds]) (t := 51) (fr := (0, 0)) (heap_alloc_new w' _)) (by simp [Value.oneCell']) (by unfold maxLen; first | omega | simp) (by first | omega | simp) (by have := HRS.out.B.size; simp; omega) ?_; intro v' w1 hown' hgrow hnil; obtain ⟨g', cap', rfl⟩ := ownsRow_succ hown'; obtain ⟨⟨cf, ff⟩, hR2⟩ := HRS.out.appended HVL.out HOV.out HPV.out HU.out hgrow hown'; have HR2 := Lib.hid hR2; clear hR2 hown' hgrow hnil)))
            have hsl := sectionL_len t1 s t HS.out
            refine ⟨⟨_, t, acc ++ [s], k, HR2.out, by simp at hk; omega, by simp at hta ⊢; omega, ?_⟩, ?_⟩
            · show _ = _
              rw [HXC.out, HS.out]; rfl
            · rw [rdLen_of HR2.out.r, HRM.out]; omega
end Go.Proofs.YtpknbdgmpfhcnaaGreatDoor
