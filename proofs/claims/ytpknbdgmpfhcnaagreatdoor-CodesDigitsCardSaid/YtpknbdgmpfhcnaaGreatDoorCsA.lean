/- The walk of codes.read. -/
import Derived.Test.YtpknbdgmpfhcnaaGreatDoorCs9
import Derived.Deep.RegionHeld3
import Derived.Test.YtpknbdgmpfhcnaaGreatDoorRo
import Derived.Deep.DeepMust
namespace Go.Proofs.YtpknbdgmpfhcnaaGreatDoor
set_option linter.unusedVariables false
set_option linter.unusedSimpArgs false
open Go.RowKit

theorem section_any (b : Nat) (q : List UInt8) (w : World) (hr : RD w b q) (hG : G w) (hgb : gN ≤ b) (hl : q.length ≤ 60) :
    Calls Tryz.prog 34 #[.pointer (some ⟨b, 0, none⟩)] w (SecPost b (sectionL q) w) :=
  callsIn_wide.1 (section_in b 0 q w hr hG hgb hl)

/-- What is read, behind a first section. -/
def contL : Nat → List Sec → List UInt8 → Option (List Sec)
  | 0, _, _ => none
  | k + 1, acc, [] => some acc
  | k + 1, acc, _ :: q => (sectionL q).bind fun x => contL k (acc ++ [x.1]) x.2
def readL (q : List UInt8) : Option (List Sec) × Int :=
  if 60 < q.length then (none, 7)
  else match (sectionL q).bind fun x => contL (x.2.length + 1) [x.1] x.2 with
    | none => (none, 5)
    | some l => if l.length ≤ 3 then (some l, 0) else (none, 5)

/-- Sections as cells: vs: the rows of their pieces. -/
def flatSecs : List Sec → List Value → List Value
  | s :: l, v :: vs => .int .i64 s.kind :: v :: .int .i64 s.hundreds :: flatSecs l vs
  | _, _ => []
/-- A format: a row of sections, each with a row of pieces; all in blocks from base on. -/
def FmtP (base : Nat) (v : Value) (l : List Sec) (W : World) : Prop :=
  ∃ vs : List Value, vs.length = l.length ∧ W.ownsRow base 51 3 v l.length (flatSecs l vs) ∧ ∀ (i : Nat) (s : Sec) (u : Value), l[i]? = some s → vs[i]? = some u → W.ownsRow base 98 2 u s.ps.length (flatPs s.ps)
theorem own_ne {W : World} {base : Nat} {e : TypeId} {size : Nat} {v : Value} {n : Nat} {xs : List Value} (h : W.ownsRow base e size v n xs) {k : Nat} {o : Obj} (hk : W.heap[k]? = some o) (ho : ∀ cs, o ≠ .cells cs e (0, 0)) : v.ownBlock = none ∨ v.ownBlock ≠ some k := by
  by_cases hn : v.ownBlock = none
  · exact .inl hn
  · refine .inr fun e => ?_
    rcases h.2 with ⟨rfl, _⟩ | ⟨g, cap, cur, rfl, hb, hg, _⟩
    · simp [Value.ownBlock] at e
    · simp [Value.ownBlock] at e
      subst e
      rw [hk] at hg
      exact ho cur (by injection hg)
theorem own_mono {W : World} {base base' : Nat} {e : TypeId} {size : Nat} {v : Value} {n : Nat} {xs : List Value} (h : W.ownsRow base e size v n xs) (hb : base' ≤ base) : W.ownsRow base' e size v n xs := by
  obtain ⟨h1, h2⟩ := h
  refine ⟨h1, ?_⟩
  rcases h2 with h2 | ⟨g, cap, cur, hv, hg, r⟩
  · exact .inl h2
  · exact .inr ⟨g, cap, cur, hv, Nat.le_trans hb hg, r⟩
/-- Two rows of other element types lie in other blocks. -/
theorem own_apart {W : World} {b1 b2 : Nat} {e1 e2 : TypeId} {s1 s2 : Nat} {v1 v2 : Value} {n1 n2 : Nat} {x1 x2 : List Value} (h1 : W.ownsRow b1 e1 s1 v1 n1 x1) (h2 : W.ownsRow b2 e2 s2 v2 n2 x2) (he : e1 ≠ e2) : v1.ownBlock = none ∨ v1.ownBlock ≠ v2.ownBlock := by
  rcases h2.2 with ⟨rfl, _⟩ | ⟨g, cap, cur, rfl, hb, hg, _⟩
  · cases h : v1.ownBlock
    · exact .inl rfl
    · exact .inr (by simp [Value.ownBlock])
  · have := own_ne h1 hg (fun cs e => he (by injection e with _ e _; exact e.symm))
    simpa [Value.ownBlock] using this
theorem FmtP.kept {base : Nat} {v : Value} {l : List Sec} {W W' : World} {k : Nat} {o : Obj} (h : FmtP base v l W) (hg : W.grownBy W' (some k)) (hk : W.heap[k]? = some o) (h1 : ∀ cs, o ≠ .cells cs 51 (0, 0)) (h2 : ∀ cs, o ≠ .cells cs 98 (0, 0)) : FmtP base v l W' := by
  obtain ⟨vs, hl, ho, hp⟩ := h
  exact ⟨vs, hl, ho.kept hg (own_ne ho hk h1), fun i s u hs hu => (hp i s u hs hu).kept hg (own_ne (hp i s u hs hu) hk h2)⟩
theorem FmtP.below {base : Nat} {v : Value} {l : List Sec} {W W' : World} (h : FmtP base v l W) (hg : Below W.heap.size W W') : FmtP base v l W' := by
  obtain ⟨vs, hl, ho, hp⟩ := h
  have hg' : W.grownBy W' none := grown_below hg _
  have hn : ∀ v : Value, v.ownBlock = none ∨ v.ownBlock ≠ none := fun v => by cases v.ownBlock <;> simp
  exact ⟨vs, hl, ho.kept hg' (hn _), fun i s u hs hu => (hp i s u hs hu).kept hg' (hn _)⟩
theorem flatSecs_len : ∀ (l : List Sec) (vs : List Value), vs.length = l.length → (flatSecs l vs).length = l.length * 3
  | [], _, _ => rfl
  | s :: l, [], h => by simp at h
  | s :: l, v :: vs, h => by
    simp only [flatSecs, List.length_cons]
    rw [flatSecs_len l vs (by simpa using h)]; omega
theorem flatSecs_snoc (s : Sec) (u : Value) : ∀ (l : List Sec) (vs : List Value), vs.length = l.length → flatSecs (l ++ [s]) (vs ++ [u]) = flatSecs l vs ++ [.int .i64 s.kind, u, .int .i64 s.hundreds]
  | [], [], _ => rfl
  | [], _ :: _, h => by simp at h
  | _ :: _, [], h => by simp at h
  | x :: l, v :: vs, h => by
    simp only [List.cons_append, flatSecs]
    rw [flatSecs_snoc s u l vs (by simpa using h)]
theorem flatSecs_get : ∀ (l : List Sec) (vs : List Value) (i : Nat) (s : Sec), vs.length = l.length → l[i]? = some s → ∃ u, vs[i]? = some u ∧ (flatSecs l vs)[i * 3]? = some (.int .i64 s.kind) ∧ (flatSecs l vs)[i * 3 + 1]? = some u ∧ (flatSecs l vs)[i * 3 + 2]? = some (.int .i64 s.hundreds)
  | [], _, i, s, _, hs => by simp at hs
  | x :: l, [], i, s, h, _ => by simp at h
  | x :: l, v :: vs, 0, s, h, hs => by
    simp at hs; subst hs
    exact ⟨v, rfl, rfl, rfl, rfl⟩
  | x :: l, v :: vs, i + 1, s, h, hs => by
    obtain ⟨u, h1, h2, h3, h4⟩ := flatSecs_get l vs i s (by simpa using h) (by simpa using hs)
    refine ⟨u, by simpa using h1, ?_, ?_, ?_⟩
    · rw [show (i + 1) * 3 = i * 3 + 3 by omega]; simpa [flatSecs] using h2
    · rw [show (i + 1) * 3 + 1 = i * 3 + 1 + 3 by omega]; simpa [flatSecs] using h3
    · rw [show (i + 1) * 3 + 2 = i * 3 + 2 + 3 by omega]; simpa [flatSecs] using h4
theorem add_off (g j : Nat) : (⟨g, 0, none⟩ : Addr).add j = ⟨g, j, none⟩ := by unfold Addr.add; split <;> simp_all
/-- A format, read: its sections' cells. -/
theorem FmtP.cells {base : Nat} {v : Value} {l : List Sec} {W : World} (h : FmtP base v l W) (hl : l ≠ []) : ∃ g cap, v = .slice (some ⟨g, 0, none⟩) l.length cap ∧ l.length ≤ cap ∧ base ≤ g ∧ g < W.heap.size ∧
    ∀ (i : Nat) (s : Sec), l[i]? = some s → ∃ u, W.cell? ⟨g, i * 3, none⟩ = some (.int .i64 s.kind) ∧ W.cell? ⟨g, i * 3 + 1, none⟩ = some u ∧ W.cell? ⟨g, i * 3 + 2, none⟩ = some (.int .i64 s.hundreds) ∧ W.ownsRow base 98 2 u s.ps.length (flatPs s.ps) := by
  obtain ⟨vs, hv, ho, hp⟩ := h
  rcases ho.2 with ⟨_, h0⟩ | ⟨g, cap, cur, rfl, hb, hg, hc, hx⟩
  · exact absurd (List.length_eq_zero_iff.1 h0) hl
  · have hcells := ho.cells (g := g) (by simp [Value.ownBlock])
    refine ⟨g, cap, rfl, hc, hb, (Array.getElem?_eq_some_iff.1 hg).1, fun i s hs => ?_⟩
    obtain ⟨u, h1, h2, h3, h4⟩ := flatSecs_get l vs i s hv hs
    have a2 := hcells _ _ h2; have a3 := hcells _ _ h3; have a4 := hcells _ _ h4
    rw [add_off] at a2 a3 a4
    exact ⟨u, a2, a3, a4, hp i s u hs h1⟩
theorem FmtP.nil (base : Nat) (W : World) : FmtP base (.slice none 0 0) [] W := ⟨[], rfl, World.ownsRow_nil _ _ _ _, fun i s u hs => by simp at hs⟩
/-- Behind an append of a section. -/
theorem FmtP.snoc {base : Nat} {v v' u : Value} {l : List Sec} {s : Sec} {vs : List Value} {W W' : World} (hl : vs.length = l.length) (ho : W.ownsRow base 51 3 v l.length (flatSecs l vs))
    (hp : ∀ (i : Nat) (s : Sec) (u : Value), l[i]? = some s → vs[i]? = some u → W.ownsRow base 98 2 u s.ps.length (flatPs s.ps)) (hu : W.ownsRow base 98 2 u s.ps.length (flatPs s.ps))
    (hg : W.grownBy W' v.ownBlock) (ho' : W'.ownsRow base 51 3 v' (l.length + 1) (flatSecs l vs ++ [.int .i64 s.kind, u, .int .i64 s.hundreds])) : FmtP base v' (l ++ [s]) W' := by
  refine ⟨vs ++ [u], by simp [hl], ?_, fun i s' u' hs hu' => ?_⟩
  · rw [flatSecs_snoc s u l vs hl, List.length_append]; exact ho'
  · by_cases hi : i < l.length
    · rw [List.getElem?_append_left hi] at hs
      rw [List.getElem?_append_left (by omega)] at hu'
      exact (hp i s' u' hs hu').kept hg (own_apart (hp i s' u' hs hu') ho (by decide))
    · rw [List.getElem?_append_right (by omega)] at hs hu'
      have h0 : i - l.length = 0 := by
        rcases Nat.eq_zero_or_pos (i - l.length) with h | h
        · exact h
        · rw [List.getElem?_eq_none (by simp; omega)] at hs; cases hs
      rw [h0] at hs
      rw [hl, h0] at hu'
      simp at hs hu'
      subst hs; subst hu'
      exact hu.kept hg (own_apart hu ho (by decide))
def ReadPost (q : List UInt8) (w : World) (e : Ending) (w' : World) : Prop :=
  Below w.heap.size w w' ∧ ∃ v, e = .returned (.tuple #[v, .int .i64 (readL q).2]) ∧ match (readL q).1 with
    | some l => FmtP w.heap.size v l w'
    | none => v = .slice none 0 0

theorem results_read {tmps : Array Value} {n : Nat} {v : Value} {x : Int} {W : World} (h2 : tmps.getD 2 undef = .pointer (some ⟨n, 0, none⟩)) (h3 : tmps.getD 3 undef = .pointer (some ⟨n + 1, 0, none⟩))
    (hf : W.heap[n]? = some (.cells #[v] 42 (0, 0))) (he : W.heap[n + 1]? = some (.cells #[.int .i64 x] 22 (0, 0))) : (results Tryz.f20 tmps).run Tryz.prog W = .ok (.tuple #[v, .int .i64 x]) W := by
  have c0 : W.cell? ⟨n, 0, none⟩ = some v := by simp [World.cell?, hf]
  have c1 : W.cell? ⟨n + 1, 0, none⟩ = some (.int .i64 x) := by simp [World.cell?, he]
  simp only [results, Tryz.results20]
  have h2' : tmps[2]?.getD undef = .pointer (some ⟨n, 0, none⟩) := by simpa using h2
  have h3' : tmps[3]?.getD undef = .pointer (some ⟨n + 1, 0, none⟩) := by simpa using h3
  simp [h2', h3', go_sem, c0, c1]
theorem below_grown {w W W' : World} {b : Nat} (hB : Below w.heap.size w W) (hg : W.grownBy W' (some b)) (hb : w.heap.size ≤ b) : Below w.heap.size w W' :=
  ⟨hg.os.trans hB.os, hg.tape.trans hB.tape, hg.output.trans hB.output, Nat.le_trans hB.size hg.size, fun k hk => (hg.block k (Nat.lt_of_lt_of_le hk hB.size) (by simp; omega)).trans (hB.block k hk)⟩
def readD (n : Nat) : List Deferred := [{ target := .fn (.func 33) #[.pointer (some ⟨n, 0, none⟩), .pointer (some ⟨n + 1, 0, none⟩)], args := #[] }]
theorem leave_ok {tmps : Array Value} {v : Value} {x : Int} {W : World} {R : Ending → World → Prop} (n : Nat) (h2 : tmps.getD 2 undef = .pointer (some ⟨n, 0, none⟩)) (h3 : tmps.getD 3 undef = .pointer (some ⟨n + 1, 0, none⟩))
    (hf : W.heap[n]? = some (.cells #[v] 42 (0, 0))) (he : W.heap[n + 1]? = some (.cells #[.int .i64 x] 22 (0, 0))) (hR : R (.returned (.tuple #[v, .int .i64 x])) W) :
    Leaves Tryz.prog Tryz.f20 tmps R (readD n) .returning W := by
  refine leaves_cons (f := 33) (args := #[.pointer (some ⟨n, 0, none⟩), .pointer (some ⟨n + 1, 0, none⟩)]) (by simp) (by simp [go_sem]) ?_
  refine (catch_idle _ _ W).mono ?_
  rintro e u' w'' ⟨rfl, rfl, rfl⟩
  exact ⟨_, results_read h2 h3 hf he, hR⟩
theorem leave_broken {tmps : Array Value} {v : Value} {x : Int} {w W : World} {q : List UInt8} (n : Nat) (hn : n = w.heap.size) (h2 : tmps.getD 2 undef = .pointer (some ⟨n, 0, none⟩)) (h3 : tmps.getD 3 undef = .pointer (some ⟨n + 1, 0, none⟩))
    (hf : W.heap[n]? = some (.cells #[v] 42 (0, 0))) (he : W.heap[n + 1]? = some (.cells #[.int .i64 x] 22 (0, 0))) (hB : Below n w W) (hq : readL q = (none, 5)) :
    Leaves Tryz.prog Tryz.f20 tmps (ReadPost q w) (readD n) (.panicking [{ v := brokenV, recovered := false }]) W := by
  refine leaves_cons (f := 33) (args := #[.pointer (some ⟨n, 0, none⟩), .pointer (some ⟨n + 1, 0, none⟩)]) (by simp) (by simp [go_sem]) ?_
  refine (catch_broken n (n + 1) v x W hf he (by omega)).mono ?_
  rintro e u' w'' ⟨rfl, rfl, rfl⟩
  have hz := (Array.getElem?_eq_some_iff.1 hf).1
  have hz2 := (Array.getElem?_eq_some_iff.1 he).1
  have g1 := heap_set_same (i := 0) ((get_old (o := .cells #[] 74) hz).trans hf) (.slice none 0 0)
  have g2 : (((W.alloc (.cells #[] 74)).setCell ⟨n, 0, none⟩ (.slice none 0 0)).setCell ⟨n + 1, 0, none⟩ (.int .i64 5)).heap[n]? = some (.cells #[.slice none 0 0] 42 (0, 0)) := by
    rw [Below.heap_setCell _ _ _ _ (by simp), g1]; simp
  have g3 : ((W.alloc (.cells #[] 74)).setCell ⟨n, 0, none⟩ (.slice none 0 0)).heap[n + 1]? = some (.cells #[.int .i64 x] 22 (0, 0)) := by
    rw [Below.heap_setCell _ _ _ _ (by simp), get_old hz2]; exact he
  have g4 := heap_set_same (i := 0) g3 (.int .i64 5)
  have hB2 : Below n w (((W.alloc (.cells #[] 74)).setCell ⟨n, 0, none⟩ (.slice none 0 0)).setCell ⟨n + 1, 0, none⟩ (.int .i64 5)) :=
    (((hB.alloc (by omega) _).setCell (p := ⟨n, 0, none⟩) (Nat.le_refl _) _).setCell (p := ⟨n + 1, 0, none⟩) (by simp) _)
  refine ⟨_, results_read h2 h3 g2 (by simpa using g4), ?_⟩
  subst hn
  refine ⟨hB2, _, by rw [hq], ?_⟩
  rw [hq]

end Go.Proofs.YtpknbdgmpfhcnaaGreatDoor
