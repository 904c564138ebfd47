/- The walk of codes.reader.section. -/
import Derived.Test.YtpknbdgmpfhcnaaGreatDoorCs7
import Derived.Shelf.Abstract
import Derived.Deep.DeepMust
import Derived.Deep.AppendLies
namespace Go.Proofs.YtpknbdgmpfhcnaaGreatDoor
set_option linter.unusedVariables false
set_option linter.unusedSimpArgs false
open Go.RowKit
attribute [local go_sem] Oper.semAt_some

/-- A section as far as it is read: its kind, pieces, hundreds; how many numbers. -/
structure St where
  kind : Int
  ps : List Pc
  hundreds : Int
  num : Int
def stepS (st : St) (p : Pc) : Option St :=
  if p.kind = 0 then some { st with ps := st.ps ++ [p] }
  else if p.kind = 4 then some { st with ps := st.ps ++ [p], hundreds := st.hundreds + 1 }
  else if st.kind = 0 ∨ st.kind = p.kind then some ⟨p.kind, st.ps ++ [p], st.hundreds, if p.kind = 1 then st.num + 1 else st.num⟩
  else none


theorem pieces_any (b : Nat) (w : World) :
    Calls Tryz.prog 55 #[.pointer (some ⟨b, 0, none⟩)] w fun e w' => e = .returned (.func (.func 87) #[] #[.pointer (some ⟨w.heap.size, 0, none⟩)]) ∧ w' = w.alloc (.cells #[.pointer (some ⟨b, 0, none⟩)] 76) := by
  have hmf : ∀ (fn : Fn) (first cap : Array Value) (w : World), (Instr.makeFunc fn first cap).run Tryz.prog w = .ok (.func fn first cap) w := fun _ _ _ _ => rfl
  go_enter Tryz.func55, Tryz.ntmps55
  go_wp2
  go_ret
  exact ⟨rfl, rfl⟩

theorem get_new {w : World} {o : Obj} {k : Nat} (hk : k = w.heap.size) : (w.alloc o).heap[k]? = some o := by subst hk; exact heap_alloc_new w o
theorem get_old {w : World} {o : Obj} {k : Nat} (hk : k < w.heap.size) : (w.alloc o).heap[k]? = w.heap[k]? := Below.heap_alloc w o k hk
theorem cell_old {w : World} {a : Addr} {v : Value} (hc : w.cell? a = some v) {o : Obj} : (w.alloc o).cell? a = some v := by
  rw [World.cell?_of_block (w := w) (Below.heap_alloc w o a.block (World.block_lt_of_cell? w a hc))]; exact hc
def flatPs (ps : List Pc) : List Value := ps.flatMap fun p => [.int .i64 p.kind, .string ⟨p.s.toArray⟩]
theorem flatPs_len (ps : List Pc) : (flatPs ps).length = ps.length * 2 := by
  unfold flatPs
  induction ps with
  | nil => rfl
  | cons p ps ih => rw [List.flatMap_cons, List.length_append, ih]; simp; omega
theorem flatPs_snoc (ps : List Pc) (p : Pc) : flatPs (ps ++ [p]) = flatPs ps ++ [.int .i64 p.kind, .string ⟨p.s.toArray⟩] := by
  unfold flatPs
  rw [List.flatMap_append]; simp

theorem recOf_assign (fn : FuncId) (t : Array Value) (ps : Array Tmp) (a b : Code) (d : Nat) : (recOf fn t ps a b d).assign = a := rfl
theorem recOf_body (fn : FuncId) (t : Array Value) (ps : Array Tmp) (a b : Code) (d : Nat) : (recOf fn t ps a b d).body = b := rfl
theorem recOf_tmps (fn : FuncId) (t : Array Value) (ps : Array Tmp) (a b : Code) (d : Nat) : (recOf fn t ps a b d).tmps = t := rfl
theorem recOf_params (fn : FuncId) (t : Array Value) (ps : Array Tmp) (a b : Code) (d : Nat) : (recOf fn t ps a b d).params = ps := rfl
/-- What the loop over the pieces keeps: w: the world in which the section began; r: the loop's record. -/
structure SecJ (w : World) (b z : Nat) (r : Loop) (st : St) (W : World) : Prop where
  keep : w.grownBy W (some b)
  loop : W.heap[z + 1]? = some (.loop r)
  dfr : W.heap[z]? = some (.deferred (some []))
  hz : z = w.heap.size + 4
  res : W.heap[w.heap.size]? = some (.cells #[.int .i64 0, .slice none 0 0, .int .i64 0] 51 (0, 0))
  bn : W.heap[w.heap.size + 3]? = some (.cells #[.pointer (some ⟨b, 0, none⟩)] 76 (0, 0))
  num : W.heap[w.heap.size + 2]? = some (.cells #[.int .i64 st.num] 3 (0, 0))
  x : ∃ v, W.heap[w.heap.size + 1]? = some (.cells #[.int .i64 st.kind, v, .int .i64 st.hundreds] 51 (0, 0)) ∧ W.ownsRow w.heap.size 98 2 v st.ps.length (flatPs st.ps)
  n0 : 0 ≤ st.num
  n1 : st.num ≤ st.ps.length
  h0 : 0 ≤ st.hundreds
  h1 : st.hundreds ≤ st.ps.length
/-- What holds where it breaks off. -/
def SecK (w : World) (b z : Nat) (W : World) : Prop := w.grownBy W (some b) ∧ W.heap[z]? = some (.deferred (some []))
theorem SecJ.grown {w : World} {b z : Nat} {r : Loop} {st : St} {W W' : World} (h : SecJ w b z r st W) (hb : b < w.heap.size) (hg : W.grownBy W' (some b)) : SecJ w b z r st W' := by
  have hz := h.hz
  have hB : ∀ {k : Nat} {o : Obj}, w.heap.size ≤ k → W.heap[k]? = some o → W'.heap[k]? = some o := fun {k o} hk ho =>
    (hg.block k (Array.getElem?_eq_some_iff.1 ho).1 (by simp; omega)).trans ho
  obtain ⟨v, hv, hown⟩ := h.x
  refine ⟨grown_trans h.keep hg, hB (by omega) h.loop, hB (by omega) h.dfr, hz, hB (by omega) h.res, hB (by omega) h.bn, hB (by omega) h.num, ⟨v, hB (by omega) hv, hown.kept hg ?_⟩, h.n0, h.n1, h.h0, h.h1⟩
  by_cases hn : v.ownBlock = none
  · exact .inl hn
  · refine .inr fun e => ?_
    have := hown.lt b e
    omega

/-- The pieces read so far, in a row of the call's own. -/
def OwnP (w : World) (v : Value) (ps : List Pc) (W : World) : Prop := W.ownsRow w.heap.size 98 2 v ps.length (flatPs ps)
/-- The same in a round: the record is busy; the parts by themselves. -/
structure SecB (w : World) (b z : Nat) (rb : Loop) (kind : Int) (v : Value) (hundreds num : Int) (W : World) : Prop where
  keep : w.grownBy W (some b)
  loop : W.heap[z + 1]? = some (.loop rb)
  dfr : W.heap[z]? = some (.deferred (some []))
  hz : z = w.heap.size + 4
  res : W.heap[w.heap.size]? = some (.cells #[.int .i64 0, .slice none 0 0, .int .i64 0] 51 (0, 0))
  bn : W.heap[w.heap.size + 3]? = some (.cells #[.pointer (some ⟨b, 0, none⟩)] 76 (0, 0))
  num : W.heap[w.heap.size + 2]? = some (.cells #[.int .i64 num] 3 (0, 0))
  x : W.heap[w.heap.size + 1]? = some (.cells #[.int .i64 kind, v, .int .i64 hundreds] 51 (0, 0))
theorem heap_set_same {W : World} {k i : Nat} {cs : Array Value} {t : TypeId} {fr : Nat × Nat} (h : W.heap[k]? = some (.cells cs t fr)) (u : Value) : (W.setCell ⟨k, i, none⟩ u).heap[k]? = some (.cells (cs.setIfInBounds i u) t fr) := by
  simp [World.setCell, Array.getElem?_modify, h]
theorem grown_set' (w : World) (k i : Nat) (v : Value) : w.grownBy (w.setCell ⟨k, i, none⟩ v) (some k) :=
  ⟨rfl, rfl, rfl, by simp [World.setCell], fun j _ hj => Below.heap_setCell _ _ _ _ (fun e => hj (by rw [e]))⟩
section
variable {w W : World} {b z : Nat} {rb : Loop} {kind hundreds num : Int} {v : Value} {ps : List Pc}
theorem OwnP.ne (h : OwnP w v ps W) {k : Nat} {o : Obj} (hk : W.heap[k]? = some o) (ho : ∀ cs, o ≠ .cells cs 98 (0, 0)) : v.ownBlock = none ∨ v.ownBlock ≠ some k := by
  by_cases hn : v.ownBlock = none
  · exact .inl hn
  · refine .inr fun e => ?_
    rcases h.2 with ⟨rfl, _⟩ | ⟨g, cap, cur, rfl, hb, hg, _⟩
    · simp [Value.ownBlock] at e
    · simp [Value.ownBlock] at e
      subst e
      rw [hk] at hg
      exact ho cur (by injection hg)
theorem OwnP.ne' (h : OwnP w v ps W) {k : Nat} {o : Obj} (hk : W.heap[k]? = some o) (ho : ∀ cs, o ≠ .cells cs 98 (0, 0)) : v.ownBlock ≠ some k := by
  rcases h.ne hk ho with h | h
  · rw [h]; simp
  · exact h
theorem OwnP.set (h : OwnP w v ps W) (k i : Nat) (u : Value) {o : Obj} (hk : W.heap[k]? = some o) (ho : ∀ cs, o ≠ .cells cs 98 (0, 0)) : OwnP w v ps (W.setCell ⟨k, i, none⟩ u) :=
  World.ownsRow.kept h (grown_set' W k i u) (h.ne hk ho)
theorem SecB.grown {W' : World} {row : Option Nat} (h : SecB w b z rb kind v hundreds num W) (hg : W.grownBy W' row) (hr : ∀ k, row = some k → w.heap.size ≤ k) (h1 : row ≠ some (z + 1)) (h2 : row ≠ some z) (h3 : row ≠ some w.heap.size) (h4 : row ≠ some (w.heap.size + 2)) (h5 : row ≠ some (w.heap.size + 1)) (h6 : row ≠ some (w.heap.size + 3)) :
    SecB w b z rb kind v hundreds num W' := by
  have hB : ∀ {k : Nat} {o : Obj}, row ≠ some k → W.heap[k]? = some o → W'.heap[k]? = some o := fun {k o} hk ho =>
    (hg.block k (Array.getElem?_eq_some_iff.1 ho).1 (fun e => hk e.symm)).trans ho
  refine ⟨⟨hg.os.trans h.keep.os, hg.tape.trans h.keep.tape, hg.output.trans h.keep.output, Nat.le_trans h.keep.size hg.size, fun k hk hkb => ?_⟩, hB h1 h.loop, hB h2 h.dfr, h.hz, hB h3 h.res, hB h6 h.bn, hB h4 h.num, hB h5 h.x⟩
  rw [hg.block k (Nat.lt_of_lt_of_le hk h.keep.size) (fun e => by have := hr k e.symm; omega)]
  exact h.keep.block k hk hkb
theorem SecB.alloc (h : SecB w b z rb kind v hundreds num W) (o : Obj) : SecB w b z rb kind v hundreds num (W.alloc o) :=
  h.grown (row := none) (World.grownBy_alloc _ _ _) (by simp) (by simp) (by simp) (by simp) (by simp) (by simp) (by simp)
/-- Behind an append to the row of pieces. -/
theorem SecB.appended {W' : World} (h : SecB w b z rb kind v hundreds num W) (ho : OwnP w v ps W) (hg : W.grownBy W' v.ownBlock) : SecB w b z rb kind v hundreds num W' :=
  h.grown hg (fun k e => (ho.lt k e).1) (ho.ne' h.loop (by simp)) (ho.ne' h.dfr (by simp)) (ho.ne' h.res (by simp)) (ho.ne' h.num (by simp)) (ho.ne' h.x (by simp)) (ho.ne' h.bn (by simp))
theorem SecB.setX (h : SecB w b z rb kind v hundreds num W) (i : Nat) (u : Value) {kind' hundreds' : Int} {v' : Value}
    (hc : (#[Value.int .i64 kind, v, .int .i64 hundreds]).setIfInBounds i u = #[.int .i64 kind', v', .int .i64 hundreds']) :
    SecB w b z rb kind' v' hundreds' num (W.setCell ⟨w.heap.size + 1, i, none⟩ u) := by
  have hz := h.hz
  have hg := grown_set' W (w.heap.size + 1) i u
  have hB : ∀ {k : Nat} {o : Obj}, k ≠ w.heap.size + 1 → W.heap[k]? = some o → (W.setCell ⟨w.heap.size + 1, i, none⟩ u).heap[k]? = some o := fun {k o} hk ho =>
    (hg.block k (Array.getElem?_eq_some_iff.1 ho).1 (by simpa using hk)).trans ho
  refine ⟨⟨h.keep.os, h.keep.tape, h.keep.output, Nat.le_trans h.keep.size hg.size, fun k hk hkb => ?_⟩, hB (by omega) h.loop, hB (by omega) h.dfr, h.hz, hB (by omega) h.res, hB (by omega) h.bn, hB (by omega) h.num, ?_⟩
  · rw [hg.block k (Nat.lt_of_lt_of_le hk h.keep.size) (by simp; omega)]; exact h.keep.block k hk hkb
  · rw [heap_set_same h.x, hc]
theorem SecB.setKind (h : SecB w b z rb kind v hundreds num W) (k : Int) : SecB w b z rb k v hundreds num (W.setCell ⟨w.heap.size + 1, 0, none⟩ (.int .i64 k)) := h.setX 0 _ (by simp)
theorem SecB.setV (h : SecB w b z rb kind v hundreds num W) (u : Value) : SecB w b z rb kind u hundreds num (W.setCell ⟨w.heap.size + 1, 1, none⟩ u) := h.setX 1 _ (by simp)
theorem SecB.setHundreds (h : SecB w b z rb kind v hundreds num W) (k : Int) : SecB w b z rb kind v k num (W.setCell ⟨w.heap.size + 1, 2, none⟩ (.int .i64 k)) := h.setX 2 _ (by simp)
theorem SecB.setNum (h : SecB w b z rb kind v hundreds num W) (k : Int) : SecB w b z rb kind v hundreds k (W.setCell ⟨w.heap.size + 2, 0, none⟩ (.int .i64 k)) := by
  have hz := h.hz
  have hg := grown_set' W (w.heap.size + 2) 0 (.int .i64 k)
  have hB : ∀ {j : Nat} {o : Obj}, j ≠ w.heap.size + 2 → W.heap[j]? = some o → (W.setCell ⟨w.heap.size + 2, 0, none⟩ (.int .i64 k)).heap[j]? = some o := fun {j o} hk ho =>
    (hg.block j (Array.getElem?_eq_some_iff.1 ho).1 (by simpa using hk)).trans ho
  refine ⟨⟨h.keep.os, h.keep.tape, h.keep.output, Nat.le_trans h.keep.size hg.size, fun k hk hkb => ?_⟩, hB (by omega) h.loop, hB (by omega) h.dfr, h.hz, hB (by omega) h.res, hB (by omega) h.bn, ?_, hB (by omega) h.x⟩
  · rw [hg.block k (Nat.lt_of_lt_of_le hk h.keep.size) (by simp; omega)]; exact h.keep.block k hk hkb
  · rw [heap_set_same h.num]; simp
theorem SecB.x0 (h : SecB w b z rb kind v hundreds num W) : W.cell? ⟨w.heap.size + 1, 0, none⟩ = some (.int .i64 kind) := by simp [World.cell?, h.x]
theorem SecB.x1 (h : SecB w b z rb kind v hundreds num W) : W.cell? ⟨w.heap.size + 1, 1, none⟩ = some v := by simp [World.cell?, h.x]
theorem SecB.x2 (h : SecB w b z rb kind v hundreds num W) : W.cell? ⟨w.heap.size + 1, 2, none⟩ = some (.int .i64 hundreds) := by simp [World.cell?, h.x]
theorem SecB.n0 (h : SecB w b z rb kind v hundreds num W) : W.cell? ⟨w.heap.size + 2, 0, none⟩ = some (.int .i64 num) := by simp [World.cell?, h.num]
theorem SecB.fx (h : SecB w b z rb kind v hundreds num W) (i : Nat) : W.frozen? ⟨w.heap.size + 1, i, none⟩ = false := by simp [World.frozen?, h.x]
theorem SecB.fn (h : SecB w b z rb kind v hundreds num W) : W.frozen? ⟨w.heap.size + 2, 0, none⟩ = false := by simp [World.frozen?, h.num]
/-- The round is over: the record is ready again. -/
theorem SecB.done {r : Loop} (h : SecB w b z rb kind v hundreds num W) (ho : OwnP w v ps W) (n0 : 0 ≤ num) (n1 : num ≤ ps.length) (h0 : 0 ≤ hundreds) (h1 : hundreds ≤ ps.length) : SecJ w b z r ⟨kind, ps, hundreds, num⟩ (W.putObj (z + 1) (.loop r)) := by
  have hz := h.hz
  have hB : ∀ {k : Nat} {o : Obj}, k ≠ z + 1 → W.heap[k]? = some o → (W.putObj (z + 1) (.loop r)).heap[k]? = some o := fun hk ho => by rw [World.putObj_heap_other hk]; exact ho
  have hg : W.grownBy (W.putObj (z + 1) (.loop r)) (some (z + 1)) := ⟨rfl, rfl, rfl, by simp, fun k _ hk => World.putObj_heap_other (by simpa using hk)⟩
  refine ⟨⟨h.keep.os, h.keep.tape, h.keep.output, Nat.le_trans h.keep.size hg.size, fun k hk hkb => ?_⟩, World.putObj_heap_same (Array.getElem?_eq_some_iff.1 h.loop).1, hB (by omega) h.dfr, hz, hB (by omega) h.res, hB (by omega) h.bn, hB (by omega) h.num, ⟨v, hB (by omega) h.x, World.ownsRow.kept ho hg (ho.ne h.loop (by simp))⟩, n0, n1, h0, h1⟩
  rw [hg.block k (Nat.lt_of_lt_of_le hk h.keep.size) (by simp; omega)]; exact h.keep.block k hk hkb
/-- The round begins. -/
theorem SecJ.begin_ {r rb : Loop} {st : St} (h : SecJ w b z r st W) (hv0 : W.heap[w.heap.size + 1]? = some (.cells #[.int .i64 st.kind, v, .int .i64 st.hundreds] 51 (0, 0))) : SecB w b z rb st.kind v st.hundreds st.num (W.putObj (z + 1) (.loop rb)) ∧ OwnP w v st.ps (W.putObj (z + 1) (.loop rb)) := by
  obtain ⟨v', hv, hown⟩ := h.x
  obtain rfl : v' = v := by
    rw [hv0] at hv
    injection hv with e; injection e with e; injection e with e; injection e with _ e; injection e with e _; exact e.symm
  have hz := h.hz
  have hB : ∀ {k : Nat} {o : Obj}, k ≠ z + 1 → W.heap[k]? = some o → (W.putObj (z + 1) (.loop rb)).heap[k]? = some o := fun hk ho => by rw [World.putObj_heap_other hk]; exact ho
  have hg : W.grownBy (W.putObj (z + 1) (.loop rb)) (some (z + 1)) := ⟨rfl, rfl, rfl, by simp, fun k _ hk => World.putObj_heap_other (by simpa using hk)⟩
  refine ⟨⟨⟨h.keep.os, h.keep.tape, h.keep.output, Nat.le_trans h.keep.size hg.size, fun k hk hkb => ?_⟩, World.putObj_heap_same (Array.getElem?_eq_some_iff.1 h.loop).1, hB (by omega) h.dfr, hz, hB (by omega) h.res, hB (by omega) h.bn, hB (by omega) h.num, hB (by omega) hv⟩, World.ownsRow.kept hown hg ?_⟩
  · rw [hg.block k (Nat.lt_of_lt_of_le hk h.keep.size) (by simp; omega)]; exact h.keep.block k hk hkb
  · exact OwnP.ne (w := w) (ps := st.ps) hown h.loop (by simp)
end

theorem OwnP.snoc {w W : World} {v : Value} {ps : List Pc} {p : Pc} (h : W.ownsRow w.heap.size 98 2 v (ps.length + 1) (flatPs ps ++ [.int .i64 p.kind, .string ⟨p.s.toArray⟩])) : OwnP w v (ps ++ [p]) W := by
  unfold OwnP
  rw [flatPs_snoc, List.length_append]; exact h
theorem grown_put {w W : World} {b z : Nat} {o o' : Obj} (hk : w.grownBy W (some b)) (hz : w.heap.size ≤ z) (hd : W.heap[z]? = some o') : w.grownBy (W.putObj z o) (some b) :=
  ⟨hk.os, hk.tape, hk.output, by simpa using hk.size, fun k h1 h2 => by rw [World.putObj_heap_other (by omega)]; exact hk.block k h1 h2⟩
theorem low_set {w W : World} {p : Addr} (hp : w.heap.size ≤ p.block) (u : Value) : ∀ k, k < w.heap.size → (W.setCell p u).heap[k]? = W.heap[k]? := fun k hk => Below.heap_setCell _ _ _ _ (by omega)
theorem low_app {w W W2 w1 : World} {v : Value} {o : Obj} (hg : (W2.alloc o).grownBy w1 v.ownBlock) (hl : ∀ k, k < w.heap.size → W2.heap[k]? = W.heap[k]?) (hv : ∀ k, v.ownBlock = some k → w.heap.size ≤ k ∧ k < W.heap.size) {k : Nat} (hk : k < w.heap.size) (hs : w.heap.size ≤ W2.heap.size) : w1.heap[k]? = W.heap[k]? := by
  rw [hg.block k (by simp; omega) (fun e => by have := (hv k e.symm).1; omega), get_old (by omega)]
  exact hl k hk
theorem round_end {w W W4 : World} {b z : Nat} {r rb : Loop} {st st' : St} {v : Value} (hlt : b < w.heap.size) (hgb : gN ≤ b) (hj : SecJ w b z r st W) (hG : G W) (hB : SecB w b z rb st'.kind v st'.hundreds st'.num W4) (hO : OwnP w v st'.ps W4)
    (hlow : ∀ k, k < w.heap.size → W4.heap[k]? = W.heap[k]?) (hs : W.heap.size ≤ W4.heap.size) (n0 : 0 ≤ st'.num) (n1 : st'.num ≤ st'.ps.length) (h0 : 0 ≤ st'.hundreds) (h1 : st'.hundreds ≤ st'.ps.length) :
    W4.heap[z + 1]? = some (.loop rb) ∧ RoundPost (SecJ w b z r) (SecK w b z) b (w.heap.size + 3) (some st') W (.returned (.bool true)) (W4.putObj (z + 1) (.loop r)) := by
  have hz := hB.hz
  have hd := hB.done (r := r) hO n0 n1 h0 h1
  refine ⟨hB.loop, rfl, hd, ?_, hd.bn.trans hj.bn.symm, ?_⟩
  · rw [World.putObj_heap_other (by omega)]; exact hlow b hlt
  · exact hG.of_blocks (by simpa using hs) (fun k hk => by
      have : k < 10 := hk
      have : (10 : Nat) ≤ b := hgb
      rw [World.putObj_heap_other (by omega)]; exact hlow k (by omega))
theorem infoPc : (Tryz.prog.info? 98).map (fun i => (i.zero, i.size, i.bytes)) = some (some (.agg #[.int .i64 0, .string ⟨#[]⟩]), 2, 24) := by kernel_rfl

/-- A section. -/
structure Sec where
  kind : Int
  ps : List Pc
  hundreds : Int
def sectionL (q : List UInt8) : Option (Sec × List UInt8) :=
  (runL stepS (q.length + 1) ⟨0, [], 0, 0⟩ q).bind fun x =>
    if x.1.num ≤ 1 ∧ x.1.hundreds ≤ 2 ∧ (x.1.hundreds = 0 ∨ x.1.kind = 1) then some (⟨x.1.kind, x.1.ps, x.1.hundreds⟩, x.2) else none
/-- A section as a value, whose pieces lie in a row of the call's own. -/
def SecPost (b : Nat) (x : Option (Sec × List UInt8)) (w : World) (e : Ending) (w' : World) : Prop :=
  w.grownBy w' (some b) ∧ match x with
    | some (s, t) => ∃ v, e = .returned (.agg #[.int .i64 s.kind, v, .int .i64 s.hundreds]) ∧ OwnP w v s.ps w' ∧ RD w' b t
    | none => Broke e

/-- The section is stored into the result's variable; the mark of the loop is come to. -/
theorem section_out {P : Program} {fn : Func} {m : Nat} {tmps : Array Value} {w W : World} {b z : Nat} {st : St} {t : List UInt8} {a0 : Option Addr} {len0 cap0 : Nat} {x : Option (Sec × List UInt8)}
    (hX : W.heap[w.heap.size + 1]? = some (.cells #[.int .i64 st.kind, .slice a0 len0 cap0, .int .i64 st.hundreds] 51 (0, 0)))
    (hR : W.heap[w.heap.size]? = some (.cells #[.int .i64 0, .slice none 0 0, .int .i64 0] 51 (0, 0))) (hD : W.heap[z]? = some (.deferred (some []))) (hT : RD W b t) (hK : w.grownBy W (some b)) (hO : OwnP w (.slice a0 len0 cap0) st.ps W)
    (hz : w.heap.size < z) (hb : b < w.heap.size)
    (hres : ∀ W5 : World, (W5.cell? ⟨w.heap.size, 0, none⟩ = some (.int .i64 st.kind) ∧ W5.cell? ⟨w.heap.size, 1, none⟩ = some (.slice a0 len0 cap0) ∧ W5.cell? ⟨w.heap.size, 2, none⟩ = some (.int .i64 st.hundreds)) → ∃ v, (results fn tmps).run P W5 = .ok v W5 ∧ v = .agg #[.int .i64 st.kind, .slice a0 len0 cap0, .int .i64 st.hundreds])
    (hx : x = some (⟨st.kind, st.ps, st.hundreds⟩, t)) :
    LeavesInM Fence.wide m P fn tmps (SecPost b x w) [{ target := .collected z, args := #[] }] .returning (((W.setCell ⟨w.heap.size, 0, none⟩ (.int .i64 st.kind)).setCell ⟨w.heap.size, 1, none⟩ (.slice a0 len0 cap0)).setCell ⟨w.heap.size, 2, none⟩ (.int .i64 st.hundreds)) := by
  have h1 := heap_set_same (i := 0) hR (.int .i64 st.kind)
  have h2 := heap_set_same (i := 1) h1 (.slice a0 len0 cap0)
  have h3 := heap_set_same (i := 2) h2 (.int .i64 st.hundreds)
  have hgr : W.grownBy (((W.setCell ⟨w.heap.size, 0, none⟩ (.int .i64 st.kind)).setCell ⟨w.heap.size, 1, none⟩ (.slice a0 len0 cap0)).setCell ⟨w.heap.size, 2, none⟩ (.int .i64 st.hundreds)) (some w.heap.size) :=
    grown_trans (grown_trans (grown_set' W _ _ _) (grown_set' _ _ _ _)) (grown_set' _ _ _ _)
  have hD3 := (hgr.block z (Array.getElem?_eq_some_iff.1 hD).1 (by simp; omega)).trans hD
  have hT3 : RD _ b t := (hgr.block b (Array.getElem?_eq_some_iff.1 hT).1 (by simp; omega)).trans hT
  have hO3 : OwnP w (.slice a0 len0 cap0) st.ps _ := World.ownsRow.kept hO hgr (hO.ne hR (by simp))
  generalize ((W.setCell ⟨w.heap.size, 0, none⟩ (.int .i64 st.kind)).setCell ⟨w.heap.size, 1, none⟩ (.slice a0 len0 cap0)).setCell ⟨w.heap.size, 2, none⟩ (.int .i64 st.hundreds) = W4 at *
  refine ⟨by simp, .inl ⟨_, _, rfl, run_takeDeferred hD3, ?_⟩⟩
  have h4 : (W4.putObj z (.deferred none)).heap[w.heap.size]? = some (.cells #[.int .i64 st.kind, .slice a0 len0 cap0, .int .i64 st.hundreds] 51 (0, 0)) := by
    rw [World.putObj_heap_other (by omega), h3]; simp
  obtain ⟨v, hv, rfl⟩ := hres (W4.putObj z (.deferred none)) ⟨by simp [World.cell?, h4], by simp [World.cell?, h4], by simp [World.cell?, h4]⟩
  refine ⟨_, hv, ?_⟩
  subst hx
  have hgz : W4.grownBy (W4.putObj z (.deferred none)) (some z) := ⟨rfl, rfl, rfl, by simp, fun k _ hk => World.putObj_heap_other (by simpa using hk)⟩
  refine ⟨?_, _, rfl, World.ownsRow.kept hO3 hgz (hO3.ne hD3 (by simp)), ?_⟩
  · refine ⟨hgz.os.trans (hgr.os.trans hK.os), hgz.tape.trans (hgr.tape.trans hK.tape), hgz.output.trans (hgr.output.trans hK.output), Nat.le_trans hK.size (Nat.le_trans hgr.size hgz.size), fun k hk hkb => ?_⟩
    have := hK.size
    rw [World.putObj_heap_other (by omega), hgr.block k (by omega) (by simp; omega)]
    exact hK.block k hk hkb
  · exact (World.putObj_heap_other (by omega)).trans hT3

set_option maxRecDepth 100000 in
set_option maxHeartbeats 3200000 in
theorem section_in (b m : Nat) (q : List UInt8) (w : World) (hr : RD w b q) (hG : G w) (hgb : gN ≤ b) (hl : q.length ≤ 60) :
    CallsIn Fence.wide m Tryz.prog 34 #[.pointer (some ⟨b, 0, none⟩)] w (SecPost b (sectionL q) w) := by
  have hlt := hr.lt
  refine callsIn_of_wpAt_marks Tryz.func34 rfl trivial ?_ rfl
  simp only [Tryz.ntmps34, List.size_toArray, List.length_cons, List.length_nil, Nat.reduceAdd, Nat.reduceSub, Array.replicate_succ, Array.replicate_zero, List.push_toArray, List.append_toArray, List.nil_append, List.cons_append]
  refine wpAt_seq (wpAt_of_wpIn ?_)
  gi_wp2
  refine wpAt_seq (wpAt_of_wpIn ?_)
  gi_wp2
  refine wpAt_seq (wpAt_of_wpIn ?_)
  gi_wp2
  refine wpAt_seq (wpAt_seq (wpAt_of_wpIn ?_))
  gi_wp2_with fail
  refine ⟨trivial, fun h => by simp [Fence.wide] at h, (callsIn_wide.2 (pieces_any b _)).mono ?_⟩
  rintro e w1 ⟨rfl, rfl⟩
  gi_wp2_with fail
  generalize hW0 : (((w.alloc (.cells #[.int .i64 0, .slice none 0 0, .int .i64 0] 51)).alloc (.cells #[.int .i64 0, .slice none 0 0, .int .i64 0] 51)).alloc (.cells #[.int .i64 0] 3)).alloc (.cells #[.pointer (some ⟨b, 0, none⟩)] 76) = W0
  have hz : W0.heap.size = w.heap.size + 4 := by rw [← hW0]; simp
  have hres : W0.heap[w.heap.size]? = some (.cells #[.int .i64 0, .slice none 0 0, .int .i64 0] 51 (0, 0)) := by
    rw [← hW0, get_old (by simp only [World.size_alloc] <;> omega), get_old (by simp only [World.size_alloc] <;> omega), get_old (by simp only [World.size_alloc] <;> omega)]; exact get_new rfl
  have hx : W0.heap[w.heap.size + 1]? = some (.cells #[.int .i64 0, .slice none 0 0, .int .i64 0] 51 (0, 0)) := by
    rw [← hW0, get_old (by simp only [World.size_alloc] <;> omega), get_old (by simp only [World.size_alloc] <;> omega)]; exact get_new (by simp only [World.size_alloc] <;> omega)
  have hnum : W0.heap[w.heap.size + 2]? = some (.cells #[.int .i64 0] 3 (0, 0)) := by
    rw [← hW0, get_old (by simp only [World.size_alloc] <;> omega)]; exact get_new (by simp only [World.size_alloc] <;> omega)
  have hbn : W0.heap[w.heap.size + 3]? = some (.cells #[.pointer (some ⟨b, 0, none⟩)] 76 (0, 0)) := by
    rw [← hW0]; exact get_new (by simp only [World.size_alloc] <;> omega)
  have hbel : Below w.heap.size w W0 := by
    rw [← hW0]; exact ((((Below.refl _ _).alloc (Nat.le_refl _) _).alloc (by simp only [World.size_alloc] <;> omega) _).alloc (by simp only [World.size_alloc] <;> omega) _).alloc (by simp only [World.size_alloc] <;> omega) _
  have hr0 : RD W0 b q := hr.below hbel
  clear hW0
  refine wpAt_block (wpAt_rangeFunc rfl (fun h => by simp [Fence.wide] at h) (gf := 87) (lb := #[.pointer (some ⟨w.heap.size + 3, 0, none⟩)]) rfl trivial (enters_of Tryz.func87 (by kernel_rfl) rfl) ?_)
  have hJ0 : ∀ r, SecJ w b W0.heap.size r ⟨0, [], 0, 0⟩ ((W0.alloc (.deferred (some []))).alloc (.loop r)) := fun r => by
    have hB : Below W0.heap.size W0 ((W0.alloc (.deferred (some []))).alloc (.loop r)) := ((Below.refl _ _).alloc (Nat.le_refl _) _).alloc (by simp) _
    refine ⟨grown_below (hbel.trans (hB.mono (by omega))) _, get_new (by simp only [World.size_alloc] <;> omega), (get_old (by simp only [World.size_alloc] <;> omega)).trans (get_new rfl), hz, ?_, ?_, ?_, ⟨.slice none 0 0, ?_, World.ownsRow_nil _ _ _ _⟩, by simp, by simp, by simp, by simp⟩
    · rw [hB.block _ (by omega)]; exact hres
    · rw [hB.block _ (by omega)]; exact hbn
    · rw [hB.block _ (by omega)]; exact hnum
    · rw [hB.block _ (by omega)]; exact hx
  refine (pieces1_in (SecJ w b W0.heap.size _) (SecK w b W0.heap.size) stepS (W0.heap.size + 1) b (w.heap.size + 3) (m - 1) (fun st W W' h hg => h.grown hlt hg) (fun st W h => ⟨h.keep, h.dfr⟩) (fun st => st.ps.length) ?_ ?_ ⟨0, [], 0, 0⟩ q _ (hJ0 _) ?_ ?_ ?_ hgb (by simpa using hl) (by omega)).mono ?_
  rotate_left 2
  · exact hr0.below (((Below.refl _ _).alloc (Nat.le_refl _) _).alloc (by simp only [World.size_alloc] <;> omega) _)
  · rw [World.cell?_of_block (w := W0) ((get_old (by simp only [World.size_alloc] <;> omega)).trans (get_old (by simp only [World.size_alloc] <;> omega)))]
    simp [World.cell?, hbn]
  · exact ((hG.below' hbel).alloc _).alloc _
  · have hsl : sectionL q = (runL stepS (q.length + 1) ⟨0, [], 0, 0⟩ q).bind fun x =>
        if x.1.num ≤ 1 ∧ x.1.hundreds ≤ 2 ∧ (x.1.hundreds = 0 ∨ x.1.kind = 1) then some (⟨x.1.kind, x.1.ps, x.1.hundreds⟩, x.2) else none := rfl
    intro e W' hq
    generalize runL stepS (q.length + 1) ⟨0, [], 0, 0⟩ q = x at hq hsl
    cases x with
    | none =>
      obtain ⟨rfl, hk, hd⟩ := hq
      rw [hsl]
      refine ⟨by simp, .inl ⟨_, _, rfl, run_takeDeferred hd, ?_⟩⟩
      refine ⟨(grown_put (hd := hd) hk (by omega)), rfl⟩
    | some pt =>
      obtain ⟨st, t⟩ := pt
      obtain ⟨⟨v0, rfl⟩, hj, hrt⟩ := hq
      refine ⟨hj.loop, ?_⟩
      obtain ⟨v, hxv, hown⟩ := hj.x
      obtain ⟨a0, len0, cap0, rfl⟩ : ∃ a0 len cap, v = .slice a0 len cap := by
        rcases hown.2 with ⟨rfl, _⟩ | ⟨g, cap, cur, rfl, _⟩
        · exact ⟨_, _, _, rfl⟩
        · exact ⟨_, _, _, rfl⟩
      have hO : OwnP w (.slice a0 len0 cap0) st.ps W' := hown
      generalize hrx : Loop.mk LoopState.exhausted _ _ _ _ _ _ _ = rx
      clear hrx
      have hg2 : W'.grownBy (W'.putObj (W0.heap.size + 1) (.loop rx)) (some (W0.heap.size + 1)) := ⟨rfl, rfl, rfl, by simp, fun k _ hk => World.putObj_heap_other (by simpa using hk)⟩
      have hO2 : OwnP w (.slice a0 len0 cap0) st.ps (W'.putObj (W0.heap.size + 1) (.loop rx)) := World.ownsRow.kept hO hg2 (hO.ne hj.loop (by simp))
      have hB2 : ∀ {k : Nat} {o : Obj}, k ≠ W0.heap.size + 1 → W'.heap[k]? = some o → (W'.putObj (W0.heap.size + 1) (.loop rx)).heap[k]? = some o := fun hk ho => by rw [World.putObj_heap_other hk]; exact ho
      have hX2 := hB2 (by omega) hxv
      have hN2 := hB2 (by omega) hj.num
      have hR2 := hB2 (by omega) hj.res
      have hD2 := hB2 (by omega) hj.dfr
      have hT2 : RD (W'.putObj (W0.heap.size + 1) (.loop rx)) b t := hB2 (by omega) hrt
      have hK2 : w.grownBy (W'.putObj (W0.heap.size + 1) (.loop rx)) (some b) := ⟨hj.keep.os, hj.keep.tape, hj.keep.output, by simpa using hj.keep.size, fun k hk hkb => by rw [World.putObj_heap_other (by omega)]; exact hj.keep.block k hk hkb⟩
      have hn0 := hj.n0; have hn1 := hj.n1; have hh0 := hj.h0; have hh1 := hj.h1
      generalize W'.putObj (W0.heap.size + 1) (.loop rx) = W2 at *
      clear hrt hj hown hO hg2 hxv hB2
      have x0 : W2.cell? ⟨w.heap.size + 1, 0, none⟩ = some (.int .i64 st.kind) := by simp [World.cell?, hX2]
      have x1 : W2.cell? ⟨w.heap.size + 1, 1, none⟩ = some (.slice a0 len0 cap0) := by simp [World.cell?, hX2]
      have x2 : W2.cell? ⟨w.heap.size + 1, 2, none⟩ = some (.int .i64 st.hundreds) := by simp [World.cell?, hX2]
      have n0 : W2.cell? ⟨w.heap.size + 2, 0, none⟩ = some (.int .i64 st.num) := by simp [World.cell?, hN2]
      have r0 : W2.cell? ⟨w.heap.size, 0, none⟩ = some (.int .i64 0) := by simp [World.cell?, hR2]
      have r1 : W2.cell? ⟨w.heap.size, 1, none⟩ = some (.slice none 0 0) := by simp [World.cell?, hR2]
      have r2 : W2.cell? ⟨w.heap.size, 2, none⟩ = some (.int .i64 0) := by simp [World.cell?, hR2]
      have f0 : W2.frozen? ⟨w.heap.size, 0, none⟩ = false := by simp [World.frozen?, hR2]
      have f1 : W2.frozen? ⟨w.heap.size, 1, none⟩ = false := by simp [World.frozen?, hR2]
      have f2 : W2.frozen? ⟨w.heap.size, 2, none⟩ = false := by simp [World.frozen?, hR2]
      have HX2 := Lib.hid hX2; have HN2 := Lib.hid hN2; have HR2 := Lib.hid hR2; have HD2 := Lib.hid hD2; have HT2 := Lib.hid hT2; have HK2 := Lib.hid hK2; have HO2 := Lib.hid hO2; have HSL := Lib.hid hsl; have HZ := Lib.hid hz
      clear hX2 hN2 hR2 hD2 hT2 hK2 hO2 hsl hz hres hx hnum hbn hbel
      obtain ⟨i1, hi1⟩ : ∃ i1, i1 = decide (st.num ≤ 1) := ⟨_, rfl⟩
      obtain ⟨i2, hi2⟩ : ∃ i2, i2 = decide (st.hundreds ≤ 2) := ⟨_, rfl⟩
      obtain ⟨i3, hi3⟩ : ∃ i3, i3 = (st.hundreds == 0) := ⟨_, rfl⟩
      obtain ⟨i4, hi4⟩ : ∃ i4, i4 = (st.kind == 1) := ⟨_, rfl⟩
      have HE : Hid (sectionL q = if (i1 && i2 && (i3 || i4)) = true then some (⟨st.kind, st.ps, st.hundreds⟩, t) else none) := by
        show _ = _
        rw [HSL.out, hi1, hi2, hi3, hi4]
        simp [and_assoc]
      have hi1' := hi1.symm; have hi2' := hi2.symm; have hi3' := hi3.symm; have hi4' := hi4.symm
      clear hi1 hi2 hi3 hi4
      show wpAt _ _ _ _ _ _ _ _
      refine wpAt_seq (wpAt_of_wpIn ?_)
      cases i1 with
      | false =>
        gi_wp2_with fail
        refine ⟨trivial, fun h => by simp [Fence.wide] at h, (callsIn_wide.2 (must_false _)).mono ?_⟩
        rintro e w3 ⟨rfl, rfl⟩
        gi_wp2_with fail
        refine ⟨by simp, .inl ⟨_, _, rfl, run_takeDeferred HD2.out, ?_⟩⟩
        rw [HE.out]
        exact ⟨grown_put (hd := HD2.out) HK2.out (by have := HZ.out; omega), rfl⟩
      | true =>
        cases i2 with
        | false =>
          gi_wp2_with fail
          refine ⟨trivial, fun h => by simp [Fence.wide] at h, (callsIn_wide.2 (must_false _)).mono ?_⟩
          rintro e w3 ⟨rfl, rfl⟩
          gi_wp2_with fail
          refine ⟨by simp, .inl ⟨_, _, rfl, run_takeDeferred HD2.out, ?_⟩⟩
          rw [HE.out]
          exact ⟨grown_put (hd := HD2.out) HK2.out (by have := HZ.out; omega), rfl⟩
        | true =>
          cases i3 with
          | true =>
            gi_wp2_with fail
            refine ⟨trivial, fun h => by simp [Fence.wide] at h, (callsIn_wide.2 (must_true _)).mono ?_⟩
            rintro e w3 ⟨rfl, rfl⟩
            gi_wp2_with fail
            refine wpAt_seq (wpAt_of_wpIn ?_)
            gi_wp2_with fail
            refine wpAt_of_wpIn ?_
            gi_wp2_with fail
            refine section_out HX2.out HR2.out HD2.out HT2.out HK2.out HO2.out (by have := HZ.out; omega) hlt (fun W5 hW5 => ?_) (by rw [HE.out]; rfl)
            have c0 := hW5.1; have c1 := hW5.2.1; have c2 := hW5.2.2
            exact ⟨.agg #[.int .i64 st.kind, .slice a0 len0 cap0, .int .i64 st.hundreds], by simp [results, Tryz.results34, go_sem, c0, c1, c2]⟩
          | false =>
            cases i4 with
            | false =>
              gi_wp2_with fail
              refine ⟨trivial, fun h => by simp [Fence.wide] at h, (callsIn_wide.2 (must_false _)).mono ?_⟩
              rintro e w3 ⟨rfl, rfl⟩
              gi_wp2_with fail
              refine ⟨by simp, .inl ⟨_, _, rfl, run_takeDeferred HD2.out, ?_⟩⟩
              rw [HE.out]
              exact ⟨grown_put (hd := HD2.out) HK2.out (by have := HZ.out; omega), rfl⟩
            | true =>
              gi_wp2_with fail
              refine ⟨trivial, fun h => by simp [Fence.wide] at h, (callsIn_wide.2 (must_true _)).mono ?_⟩
              rintro e w3 ⟨rfl, rfl⟩
              gi_wp2_with fail
              refine wpAt_seq (wpAt_of_wpIn ?_)
              gi_wp2_with fail
              refine wpAt_of_wpIn ?_
              gi_wp2_with fail
              refine section_out HX2.out HR2.out HD2.out HT2.out HK2.out HO2.out (by have := HZ.out; omega) hlt (fun W5 hW5 => ?_) (by rw [HE.out]; rfl)
              have c0 := hW5.1; have c1 := hW5.2.1; have c2 := hW5.2.2
              exact ⟨.agg #[.int .i64 st.kind, .slice a0 len0 cap0, .int .i64 st.hundreds], by simp [results, Tryz.results34, go_sem, c0, c1, c2]⟩
  · intro st p st' h
    unfold stepS at h
    split at h
    · cases h; simp
    · split at h
      · cases h; simp
      · split at h
        · cases h; simp
        · cases h
  · intro m' st p W hj hG' hlen
    refine ⟨_, _, _, _, run_yield hj.loop rfl, ?_⟩
    refine round_pan trivial Tryz.func34 rfl ?_
    simp only [recOf_assign, recOf_body, recOf_tmps, recOf_params, List.zip_toArray, List.zip_cons_cons, List.zip_nil_right, List.foldl_toArray', List.size_toArray, List.foldl_cons, List.foldl_nil, List.length_cons, List.length_nil]
    generalize hrr : recOf _ _ _ _ _ _ = r at *
    generalize hrb : Loop.mk LoopState.busy _ _ _ _ _ _ _ = rb
    generalize hrd : Loop.mk LoopState.ready none _ _ _ _ _ _ = rd
    have HRD : Hid (rd = r) := by show rd = r; rw [← hrd, ← hrr]; rfl
    clear hrr hrb hrd
    unfold pcV
    gi_wp2
    refine ⟨(get_old (Array.getElem?_eq_some_iff.1 hj.loop).1).trans hj.loop, ?_⟩
    obtain ⟨v, hxv, hown0⟩ := hj.x
    have hvlt := hown0.lt
    obtain ⟨hB, hO⟩ := (hj.grown hlt (World.grownBy_alloc W (.cells #[.int .i64 p.kind, .string ⟨p.s.toArray⟩] 98) (some b))).begin_ (rb := rb) ((get_old (Array.getElem?_eq_some_iff.1 hxv).1).trans hxv)
    clear hxv hown0
    have HVLT := Lib.hid hvlt; clear hvlt
    have hlW := (Array.getElem?_eq_some_iff.1 hj.loop).1
    have hp2 : ((W.alloc (.cells #[.int .i64 p.kind, .string ⟨p.s.toArray⟩] 98)).putObj (W0.heap.size + 1) (.loop rb)).heap[W.heap.size]? = some (.cells #[.int .i64 p.kind, .string ⟨p.s.toArray⟩] 98 (0, 0)) := by
      rw [World.putObj_heap_other (by omega)]; exact get_new rfl
    have hG2 : G ((W.alloc (.cells #[.int .i64 p.kind, .string ⟨p.s.toArray⟩] 98)).putObj (W0.heap.size + 1) (.loop rb)) := by
      have := hG.size
      exact (hG'.alloc _).of_blocks (by simp) (fun k hk => World.putObj_heap_other (by have : k < 10 := hk; omega))
    have hbb : ((W.alloc (.cells #[.int .i64 p.kind, .string ⟨p.s.toArray⟩] 98)).putObj (W0.heap.size + 1) (.loop rb)).heap[b]? = W.heap[b]? := by
      rw [World.putObj_heap_other (by omega), get_old (by omega)]
    have hbn2 : ((W.alloc (.cells #[.int .i64 p.kind, .string ⟨p.s.toArray⟩] 98)).putObj (W0.heap.size + 1) (.loop rb)).heap[w.heap.size + 3]? = W.heap[w.heap.size + 3]? := by
      rw [World.putObj_heap_other (by omega), get_old (by omega)]
    have hs2 : ((W.alloc (.cells #[.int .i64 p.kind, .string ⟨p.s.toArray⟩] 98)).putObj (W0.heap.size + 1) (.loop rb)).heap.size = W.heap.size + 1 := by simp
    have hlow2 : ∀ k, k < w.heap.size → ((W.alloc (.cells #[.int .i64 p.kind, .string ⟨p.s.toArray⟩] 98)).putObj (W0.heap.size + 1) (.loop rb)).heap[k]? = W.heap[k]? := fun k hk => by
      rw [World.putObj_heap_other (by omega), get_old (by omega)]
    generalize (W.alloc (.cells #[.int .i64 p.kind, .string ⟨p.s.toArray⟩] 98)).putObj (W0.heap.size + 1) (.loop rb) = W2 at *
    have x0 := hB.x0; have x1 := hB.x1; have x2 := hB.x2; have n0 := hB.n0
    have p0 : W2.cell? ⟨W.heap.size, 0, none⟩ = some (.int .i64 p.kind) := by simp [World.cell?, hp2]
    have p1 : W2.cell? ⟨W.heap.size, 1, none⟩ = some (.string ⟨p.s.toArray⟩) := by simp [World.cell?, hp2]
    obtain ⟨i0, hi0, hz0, hz1, hz2⟩ := info_parts infoPc
    have hsz2 : w.heap.size ≤ W2.heap.size := by omega
    have HB := Lib.hid hB; have HO := Lib.hid hO; have HJ := Lib.hid hj; have HZ := Lib.hid hz; have HS2 := Lib.hid hs2; have HP2 := Lib.hid hp2; have HBB := Lib.hid hbb; have HBN2 := Lib.hid hbn2
    have HRES := Lib.hid hres; have HXX := Lib.hid hx; have HNUM := Lib.hid hnum; have HBN := Lib.hid hbn; have HI0 := Lib.hid hi0; have HZ0 := Lib.hid hz0; have HZ1 := Lib.hid hz1; have HZ2 := Lib.hid hz2
    clear hB hO hj hz hs2 hp2 hbb hbn2 hres hx hnum hbn hi0 hz0 hz1 hz2
    have h0 := HJ.out.h0; have h1 := HJ.out.h1; have n0b := HJ.out.n0; have n1b := HJ.out.n1
    have HLOW2 : Hid (∀ k, k < w.heap.size → W2.heap[k]? = W.heap[k]?) := Lib.hid hlow2
    clear hlow2
    have hWz := (Array.getElem?_eq_some_iff.1 HJ.out.loop).1
    have hzz := HZ.out
    have ne1 : ¬ W.heap.size = w.heap.size + 1 := by omega
    have ne2 : ¬ W.heap.size = w.heap.size + 2 := by omega
    have ne3 : ¬ W.heap.size = w.heap.size + 1 + 1 := by omega
    have ne4 : ¬ w.heap.size + 1 = W.heap.size := by omega
    have ne5 : ¬ w.heap.size + 1 + 1 = W.heap.size := by omega
    clear hzz hWz
    by_cases k0 : p.kind = 0
    · have t0 : (p.kind == 0) = true := by simpa using k0
      have HST : Hid (stepS st p = some ⟨st.kind, st.ps ++ [p], st.hundreds, st.num⟩) := by show _ = _; unfold stepS; rw [if_pos k0]
      clear k0
      gi_wp2_with (gi_at_builtin; go_must ((refine wpListIn_append_own _ rfl _ _ 49 rfl w.heap.size 98 i0 (.agg #[.int .i64 0, .string ⟨#[]⟩]) 2 24 Tryz.underlying49 HI0.out HZ0.out HZ1.out HZ2.out rfl (by decide) v st.ps.length (flatPs st.ps) rfl (World.ownsRow.alloc HO.out _) ⟨W2.heap.size, 0, none⟩ 1 1 [.int .i64 p.kind, .string ⟨p.s.toArray⟩] rfl rfl (World.news_of_block (cs := #[.int .i64 p.kind, .string ⟨p.s.toArray⟩]) (t := 98) (fr := (0, 0)) (heap_alloc_new W2 _)) (by simp [Value.oneCell']) (by unfold maxLen; omega) (by omega) (by simp; omega) ?_; intro v' w1 hown' hgrow hnil; obtain ⟨g', cap', rfl⟩ := ownsRow_succ hown'; have hB1 := (HB.out.alloc (.cells #[.int .i64 p.kind, .string ⟨p.s.toArray⟩] 98)).appended (World.ownsRow.alloc HO.out _) hgrow; have x0' := hB1.x0; have x1' := hB1.x1; have x2' := hB1.x2; have n0' := hB1.n0; have f0' := hB1.fx 0; have f1' := hB1.fx 1; have f2' := hB1.fx 2; have fn' := hB1.fn; have p0' : w1.cell? ⟨W.heap.size, 0, none⟩ = some (.int .i64 p.kind) := hgrow.cell (cell_old p0) (fun e => by have := HVLT.out _ e.symm; simp at this); have HLOW : Hid (∀ k, k < w.heap.size → w1.heap[k]? = W.heap[k]?) := (fun k hk => low_app hgrow HLOW2.out HVLT.out hk (by have := HS2.out; omega)); have hsg := hgrow.size; have HSG : Hid (W.heap.size ≤ w1.heap.size) := (by have := HS2.out; show _ ≤ _; simp at hsg; omega); clear hsg x1 x0 x2 n0 p0 p1; have HOWN1 : Hid (OwnP w _ (st.ps ++ [p]) w1) := OwnP.snoc hown'; have HB1 := Lib.hid hB1; clear hown' hB1)))
      rw [HST.out, HRD.out]
      exact round_end (st' := ⟨st.kind, st.ps ++ [p], st.hundreds, st.num⟩) hlt hgb HJ.out hG' (HB1.out.setV _) (HOWN1.out.set _ _ _ HB1.out.x (by simp)) (fun k hk => ((low_set (by simp <;> omega) _ k hk).trans (HLOW.out k hk))) (by have := HSG.out; simpa [World.setCell] using this) n0b (by simp; omega) h0 (by simp; omega)
    have t0 : (p.kind == 0) = false := by simpa using k0
    by_cases k4 : p.kind = 4
    · have t4 : (p.kind == 4) = true := by simpa using k4
      have HST : Hid (stepS st p = some ⟨st.kind, st.ps ++ [p], st.hundreds + 1, st.num⟩) := by show _ = _; unfold stepS; rw [if_neg k0, if_pos k4]
      clear k0 k4
      gi_wp2_with (gi_at_builtin; go_must ((refine wpListIn_append_own _ rfl _ _ 49 rfl w.heap.size 98 i0 (.agg #[.int .i64 0, .string ⟨#[]⟩]) 2 24 Tryz.underlying49 HI0.out HZ0.out HZ1.out HZ2.out rfl (by decide) v st.ps.length (flatPs st.ps) rfl (World.ownsRow.alloc HO.out _) ⟨W2.heap.size, 0, none⟩ 1 1 [.int .i64 p.kind, .string ⟨p.s.toArray⟩] rfl rfl (World.news_of_block (cs := #[.int .i64 p.kind, .string ⟨p.s.toArray⟩]) (t := 98) (fr := (0, 0)) (heap_alloc_new W2 _)) (by simp [Value.oneCell']) (by unfold maxLen; omega) (by omega) (by simp; omega) ?_; intro v' w1 hown' hgrow hnil; obtain ⟨g', cap', rfl⟩ := ownsRow_succ hown'; have hB1 := (HB.out.alloc (.cells #[.int .i64 p.kind, .string ⟨p.s.toArray⟩] 98)).appended (World.ownsRow.alloc HO.out _) hgrow; have x0' := hB1.x0; have x1' := hB1.x1; have x2' := hB1.x2; have n0' := hB1.n0; have f0' := hB1.fx 0; have f1' := hB1.fx 1; have f2' := hB1.fx 2; have fn' := hB1.fn; have p0' : w1.cell? ⟨W.heap.size, 0, none⟩ = some (.int .i64 p.kind) := hgrow.cell (cell_old p0) (fun e => by have := HVLT.out _ e.symm; simp at this); have HLOW : Hid (∀ k, k < w.heap.size → w1.heap[k]? = W.heap[k]?) := (fun k hk => low_app hgrow HLOW2.out HVLT.out hk (by have := HS2.out; omega)); have hsg := hgrow.size; have HSG : Hid (W.heap.size ≤ w1.heap.size) := (by have := HS2.out; show _ ≤ _; simp at hsg; omega); clear hsg x1 x0 x2 n0 p0 p1; have HOWN1 : Hid (OwnP w _ (st.ps ++ [p]) w1) := OwnP.snoc hown'; have HB1 := Lib.hid hB1; clear hown' hB1)))
      rw [HST.out, HRD.out]
      exact round_end (st' := ⟨st.kind, st.ps ++ [p], st.hundreds + 1, st.num⟩) hlt hgb HJ.out hG' ((HB1.out.setV _).setHundreds _) ((HOWN1.out.set _ _ _ HB1.out.x (by simp)).set _ _ _ (HB1.out.setV _).x (by simp)) (fun k hk => ((low_set (by simp <;> omega) _ k hk).trans ((low_set (by simp <;> omega) _ k hk).trans (HLOW.out k hk)))) (by have := HSG.out; simpa [World.setCell] using this) n0b (by simp; omega) (by simp; omega) (by simp; omega)
    have t4 : (p.kind == 4) = false := by simpa using k4
    by_cases k1 : p.kind = 1
    · have t1 : (p.kind == 1) = true := by simpa using k1
      by_cases ks : st.kind = 0
      · have ts : (st.kind == 0) = true := by simpa using ks
        have HST : Hid (stepS st p = some ⟨p.kind, st.ps ++ [p], st.hundreds, st.num + 1⟩) := by show _ = _; unfold stepS; rw [if_neg k0, if_neg k4, if_pos (.inl ks), if_pos k1]
        clear k0 k4 k1 ks
        gi_wp2_with (gi_at_builtin; go_must ((refine wpListIn_append_own _ rfl _ _ 49 rfl w.heap.size 98 i0 (.agg #[.int .i64 0, .string ⟨#[]⟩]) 2 24 Tryz.underlying49 HI0.out HZ0.out HZ1.out HZ2.out rfl (by decide) v st.ps.length (flatPs st.ps) rfl (World.ownsRow.alloc HO.out _) ⟨W2.heap.size, 0, none⟩ 1 1 [.int .i64 p.kind, .string ⟨p.s.toArray⟩] rfl rfl (World.news_of_block (cs := #[.int .i64 p.kind, .string ⟨p.s.toArray⟩]) (t := 98) (fr := (0, 0)) (heap_alloc_new W2 _)) (by simp [Value.oneCell']) (by unfold maxLen; omega) (by omega) (by simp; omega) ?_; intro v' w1 hown' hgrow hnil; obtain ⟨g', cap', rfl⟩ := ownsRow_succ hown'; have hB1 := (HB.out.alloc (.cells #[.int .i64 p.kind, .string ⟨p.s.toArray⟩] 98)).appended (World.ownsRow.alloc HO.out _) hgrow; have x0' := hB1.x0; have x1' := hB1.x1; have x2' := hB1.x2; have n0' := hB1.n0; have f0' := hB1.fx 0; have f1' := hB1.fx 1; have f2' := hB1.fx 2; have fn' := hB1.fn; have p0' : w1.cell? ⟨W.heap.size, 0, none⟩ = some (.int .i64 p.kind) := hgrow.cell (cell_old p0) (fun e => by have := HVLT.out _ e.symm; simp at this); have HLOW : Hid (∀ k, k < w.heap.size → w1.heap[k]? = W.heap[k]?) := (fun k hk => low_app hgrow HLOW2.out HVLT.out hk (by have := HS2.out; omega)); have hsg := hgrow.size; have HSG : Hid (W.heap.size ≤ w1.heap.size) := (by have := HS2.out; show _ ≤ _; simp at hsg; omega); clear hsg x1 x0 x2 n0 p0 p1; have HOWN1 : Hid (OwnP w _ (st.ps ++ [p]) w1) := OwnP.snoc hown'; have HB1 := Lib.hid hB1; clear hown' hB1)))
        refine ⟨trivial, fun h => by simp [Fence.wide] at h, (CallsIn.inRound _ (callsIn_wide.2 (must_true _))).mono ?_⟩
        rintro e w5 ⟨rfl, rfl⟩
        gi_wp2_with fail
        rw [HST.out, HRD.out]
        exact round_end (st' := ⟨p.kind, st.ps ++ [p], st.hundreds, st.num + 1⟩) hlt hgb HJ.out hG' (((HB1.out.setV _).setNum _).setKind _) (((HOWN1.out.set _ _ _ HB1.out.x (by simp)).set _ _ _ (HB1.out.setV _).num (by simp)).set _ _ _ ((HB1.out.setV _).setNum _).x (by simp)) (fun k hk => ((low_set (by simp <;> omega) _ k hk).trans ((low_set (by simp <;> omega) _ k hk).trans ((low_set (by simp <;> omega) _ k hk).trans (HLOW.out k hk))))) (by have := HSG.out; simpa [World.setCell] using this) (by simp; omega) (by simp; omega) h0 (by simp; omega)
      have ts : (st.kind == 0) = false := by simpa using ks
      by_cases kp : st.kind = p.kind
      · have tp : (st.kind == p.kind) = true := by simpa using kp
        have HST : Hid (stepS st p = some ⟨p.kind, st.ps ++ [p], st.hundreds, st.num + 1⟩) := by show _ = _; unfold stepS; rw [if_neg k0, if_neg k4, if_pos (.inr kp), if_pos k1]
        clear k0 k4 k1 ks kp
        gi_wp2_with (gi_at_builtin; go_must ((refine wpListIn_append_own _ rfl _ _ 49 rfl w.heap.size 98 i0 (.agg #[.int .i64 0, .string ⟨#[]⟩]) 2 24 Tryz.underlying49 HI0.out HZ0.out HZ1.out HZ2.out rfl (by decide) v st.ps.length (flatPs st.ps) rfl (World.ownsRow.alloc HO.out _) ⟨W2.heap.size, 0, none⟩ 1 1 [.int .i64 p.kind, .string ⟨p.s.toArray⟩] rfl rfl (World.news_of_block (cs := #[.int .i64 p.kind, .string ⟨p.s.toArray⟩]) (t := 98) (fr := (0, 0)) (heap_alloc_new W2 _)) (by simp [Value.oneCell']) (by unfold maxLen; omega) (by omega) (by simp; omega) ?_; intro v' w1 hown' hgrow hnil; obtain ⟨g', cap', rfl⟩ := ownsRow_succ hown'; have hB1 := (HB.out.alloc (.cells #[.int .i64 p.kind, .string ⟨p.s.toArray⟩] 98)).appended (World.ownsRow.alloc HO.out _) hgrow; have x0' := hB1.x0; have x1' := hB1.x1; have x2' := hB1.x2; have n0' := hB1.n0; have f0' := hB1.fx 0; have f1' := hB1.fx 1; have f2' := hB1.fx 2; have fn' := hB1.fn; have p0' : w1.cell? ⟨W.heap.size, 0, none⟩ = some (.int .i64 p.kind) := hgrow.cell (cell_old p0) (fun e => by have := HVLT.out _ e.symm; simp at this); have HLOW : Hid (∀ k, k < w.heap.size → w1.heap[k]? = W.heap[k]?) := (fun k hk => low_app hgrow HLOW2.out HVLT.out hk (by have := HS2.out; omega)); have hsg := hgrow.size; have HSG : Hid (W.heap.size ≤ w1.heap.size) := (by have := HS2.out; show _ ≤ _; simp at hsg; omega); clear hsg x1 x0 x2 n0 p0 p1; have HOWN1 : Hid (OwnP w _ (st.ps ++ [p]) w1) := OwnP.snoc hown'; have HB1 := Lib.hid hB1; clear hown' hB1)))
        refine ⟨trivial, fun h => by simp [Fence.wide] at h, (CallsIn.inRound _ (callsIn_wide.2 (must_true _))).mono ?_⟩
        rintro e w5 ⟨rfl, rfl⟩
        gi_wp2_with fail
        rw [HST.out, HRD.out]
        exact round_end (st' := ⟨p.kind, st.ps ++ [p], st.hundreds, st.num + 1⟩) hlt hgb HJ.out hG' (((HB1.out.setV _).setNum _).setKind _) (((HOWN1.out.set _ _ _ HB1.out.x (by simp)).set _ _ _ (HB1.out.setV _).num (by simp)).set _ _ _ ((HB1.out.setV _).setNum _).x (by simp)) (fun k hk => ((low_set (by simp <;> omega) _ k hk).trans ((low_set (by simp <;> omega) _ k hk).trans ((low_set (by simp <;> omega) _ k hk).trans (HLOW.out k hk))))) (by have := HSG.out; simpa [World.setCell] using this) (by simp; omega) (by simp; omega) h0 (by simp; omega)
      · have tp : (st.kind == p.kind) = false := by simpa using kp
        have HST : Hid (stepS st p = none) := by show _ = _; unfold stepS; rw [if_neg k0, if_neg k4, if_neg (fun h => h.elim ks kp)]
        clear k0 k4 k1 ks kp
        gi_wp2_with (gi_at_builtin; go_must ((refine wpListIn_append_own _ rfl _ _ 49 rfl w.heap.size 98 i0 (.agg #[.int .i64 0, .string ⟨#[]⟩]) 2 24 Tryz.underlying49 HI0.out HZ0.out HZ1.out HZ2.out rfl (by decide) v st.ps.length (flatPs st.ps) rfl (World.ownsRow.alloc HO.out _) ⟨W2.heap.size, 0, none⟩ 1 1 [.int .i64 p.kind, .string ⟨p.s.toArray⟩] rfl rfl (World.news_of_block (cs := #[.int .i64 p.kind, .string ⟨p.s.toArray⟩]) (t := 98) (fr := (0, 0)) (heap_alloc_new W2 _)) (by simp [Value.oneCell']) (by unfold maxLen; omega) (by omega) (by simp; omega) ?_; intro v' w1 hown' hgrow hnil; obtain ⟨g', cap', rfl⟩ := ownsRow_succ hown'; have hB1 := (HB.out.alloc (.cells #[.int .i64 p.kind, .string ⟨p.s.toArray⟩] 98)).appended (World.ownsRow.alloc HO.out _) hgrow; have x0' := hB1.x0; have x1' := hB1.x1; have x2' := hB1.x2; have n0' := hB1.n0; have f0' := hB1.fx 0; have f1' := hB1.fx 1; have f2' := hB1.fx 2; have fn' := hB1.fn; have p0' : w1.cell? ⟨W.heap.size, 0, none⟩ = some (.int .i64 p.kind) := hgrow.cell (cell_old p0) (fun e => by have := HVLT.out _ e.symm; simp at this); have HLOW : Hid (∀ k, k < w.heap.size → w1.heap[k]? = W.heap[k]?) := (fun k hk => low_app hgrow HLOW2.out HVLT.out hk (by have := HS2.out; omega)); have hsg := hgrow.size; have HSG : Hid (W.heap.size ≤ w1.heap.size) := (by have := HS2.out; show _ ≤ _; simp at hsg; omega); clear hsg x1 x0 x2 n0 p0 p1; have HOWN1 : Hid (OwnP w _ (st.ps ++ [p]) w1) := OwnP.snoc hown'; have HB1 := Lib.hid hB1; clear hown' hB1)))
        refine ⟨trivial, fun h => by simp [Fence.wide] at h, (CallsIn.inRound _ (callsIn_wide.2 (must_false _))).mono ?_⟩
        rintro e w5 ⟨rfl, rfl⟩
        gi_wp2_with fail
        rw [HST.out]
        exact ⟨rfl, ((HB1.out.setV _).setNum _).keep, ((HB1.out.setV _).setNum _).dfr⟩
    · have t1 : (p.kind == 1) = false := by simpa using k1
      by_cases ks : st.kind = 0
      · have ts : (st.kind == 0) = true := by simpa using ks
        have HST : Hid (stepS st p = some ⟨p.kind, st.ps ++ [p], st.hundreds, st.num⟩) := by show _ = _; unfold stepS; rw [if_neg k0, if_neg k4, if_pos (.inl ks), if_neg k1]
        clear k0 k4 k1 ks
        gi_wp2_with (gi_at_builtin; go_must ((refine wpListIn_append_own _ rfl _ _ 49 rfl w.heap.size 98 i0 (.agg #[.int .i64 0, .string ⟨#[]⟩]) 2 24 Tryz.underlying49 HI0.out HZ0.out HZ1.out HZ2.out rfl (by decide) v st.ps.length (flatPs st.ps) rfl (World.ownsRow.alloc HO.out _) ⟨W2.heap.size, 0, none⟩ 1 1 [.int .i64 p.kind, .string ⟨p.s.toArray⟩] rfl rfl (World.news_of_block (cs := #[.int .i64 p.kind, .string ⟨p.s.toArray⟩]) (t := 98) (fr := (0, 0)) (heap_alloc_new W2 _)) (by simp [Value.oneCell']) (by unfold maxLen; omega) (by omega) (by simp; omega) ?_; intro v' w1 hown' hgrow hnil; obtain ⟨g', cap', rfl⟩ := ownsRow_succ hown'; have hB1 := (HB.out.alloc (.cells #[.int .i64 p.kind, .string ⟨p.s.toArray⟩] 98)).appended (World.ownsRow.alloc HO.out _) hgrow; have x0' := hB1.x0; have x1' := hB1.x1; have x2' := hB1.x2; have n0' := hB1.n0; have f0' := hB1.fx 0; have f1' := hB1.fx 1; have f2' := hB1.fx 2; have fn' := hB1.fn; have p0' : w1.cell? ⟨W.heap.size, 0, none⟩ = some (.int .i64 p.kind) := hgrow.cell (cell_old p0) (fun e => by have := HVLT.out _ e.symm; simp at this); have HLOW : Hid (∀ k, k < w.heap.size → w1.heap[k]? = W.heap[k]?) := (fun k hk => low_app hgrow HLOW2.out HVLT.out hk (by have := HS2.out; omega)); have hsg := hgrow.size; have HSG : Hid (W.heap.size ≤ w1.heap.size) := (by have := HS2.out; show _ ≤ _; simp at hsg; omega); clear hsg x1 x0 x2 n0 p0 p1; have HOWN1 : Hid (OwnP w _ (st.ps ++ [p]) w1) := OwnP.snoc hown'; have HB1 := Lib.hid hB1; clear hown' hB1)))
        refine ⟨trivial, fun h => by simp [Fence.wide] at h, (CallsIn.inRound _ (callsIn_wide.2 (must_true _))).mono ?_⟩
        rintro e w5 ⟨rfl, rfl⟩
        gi_wp2_with fail
        rw [HST.out, HRD.out]
        exact round_end (st' := ⟨p.kind, st.ps ++ [p], st.hundreds, st.num⟩) hlt hgb HJ.out hG' ((HB1.out.setV _).setKind _) ((HOWN1.out.set _ _ _ HB1.out.x (by simp)).set _ _ _ (HB1.out.setV _).x (by simp)) (fun k hk => ((low_set (by simp <;> omega) _ k hk).trans ((low_set (by simp <;> omega) _ k hk).trans (HLOW.out k hk)))) (by have := HSG.out; simpa [World.setCell] using this) (by simp; omega) (by simp; omega) h0 (by simp; omega)
      have ts : (st.kind == 0) = false := by simpa using ks
      by_cases kp : st.kind = p.kind
      · have tp : (st.kind == p.kind) = true := by simpa using kp
        have HST : Hid (stepS st p = some ⟨p.kind, st.ps ++ [p], st.hundreds, st.num⟩) := by show _ = _; unfold stepS; rw [if_neg k0, if_neg k4, if_pos (.inr kp), if_neg k1]
        clear k0 k4 k1 ks kp
        gi_wp2_with (gi_at_builtin; go_must ((refine wpListIn_append_own _ rfl _ _ 49 rfl w.heap.size 98 i0 (.agg #[.int .i64 0, .string ⟨#[]⟩]) 2 24 Tryz.underlying49 HI0.out HZ0.out HZ1.out HZ2.out rfl (by decide) v st.ps.length (flatPs st.ps) rfl (World.ownsRow.alloc HO.out _) ⟨W2.heap.size, 0, none⟩ 1 1 [.int .i64 p.kind, .string ⟨p.s.toArray⟩] rfl rfl (World.news_of_block (cs := #[.int .i64 p.kind, .string ⟨p.s.toArray⟩]) (t := 98) (fr := (0, 0)) (heap_alloc_new W2 _)) (by simp [Value.oneCell']) (by unfold maxLen; omega) (by omega) (by simp; omega) ?_; intro v' w1 hown' hgrow hnil; obtain ⟨g', cap', rfl⟩ := ownsRow_succ hown'; have hB1 := (HB.out.alloc (.cells #[.int .i64 p.kind, .string ⟨p.s.toArray⟩] 98)).appended (World.ownsRow.alloc HO.out _) hgrow; have x0' := hB1.x0; have x1' := hB1.x1; have x2' := hB1.x2; have n0' := hB1.n0; have f0' := hB1.fx 0; have f1' := hB1.fx 1; have f2' := hB1.fx 2; have fn' := hB1.fn; have p0' : w1.cell? ⟨W.heap.size, 0, none⟩ = some (.int .i64 p.kind) := hgrow.cell (cell_old p0) (fun e => by have := HVLT.out _ e.symm; simp at this); have HLOW : Hid (∀ k, k < w.heap.size → w1.heap[k]? = W.heap[k]?) := (fun k hk => low_app hgrow HLOW2.out HVLT.out hk (by have := HS2.out; omega)); have hsg := hgrow.size; have HSG : Hid (W.heap.size ≤ w1.heap.size) := (by have := HS2.out; show _ ≤ _; simp at hsg; omega); clear hsg x1 x0 x2 n0 p0 p1; have HOWN1 : Hid (OwnP w _ (st.ps ++ [p]) w1) := OwnP.snoc hown'; have HB1 := Lib.hid hB1; clear hown' hB1)))
        refine ⟨trivial, fun h => by simp [Fence.wide] at h, (CallsIn.inRound _ (callsIn_wide.2 (must_true _))).mono ?_⟩
        rintro e w5 ⟨rfl, rfl⟩
        gi_wp2_with fail
        rw [HST.out, HRD.out]
        exact round_end (st' := ⟨p.kind, st.ps ++ [p], st.hundreds, st.num⟩) hlt hgb HJ.out hG' ((HB1.out.setV _).setKind _) ((HOWN1.out.set _ _ _ HB1.out.x (by simp)).set _ _ _ (HB1.out.setV _).x (by simp)) (fun k hk => ((low_set (by simp <;> omega) _ k hk).trans ((low_set (by simp <;> omega) _ k hk).trans (HLOW.out k hk)))) (by have := HSG.out; simpa [World.setCell] using this) (by simp; omega) (by simp; omega) h0 (by simp; omega)
      · have tp : (st.kind == p.kind) = false := by simpa using kp
        have HST : Hid (stepS st p = none) := by show _ = _; unfold stepS; rw [if_neg k0, if_neg k4, if_neg (fun h => h.elim ks kp)]
        clear k0 k4 k1 ks kp
        gi_wp2_with (gi_at_builtin; go_must ((refine wpListIn_append_own _ rfl _ _ 49 rfl w.heap.size 98 i0 (.agg #[.int .i64 0, .string ⟨#[]⟩]) 2 24 Tryz.underlying49 HI0.out HZ0.out HZ1.out HZ2.out rfl (by decide) v st.ps.length (flatPs st.ps) rfl (World.ownsRow.alloc HO.out _) ⟨W2.heap.size, 0, none⟩ 1 1 [.int .i64 p.kind, .string ⟨p.s.toArray⟩] rfl rfl (World.news_of_block (cs := #[.int .i64 p.kind, .string ⟨p.s.toArray⟩]) (t := 98) (fr := (0, 0)) (heap_alloc_new W2 _)) (by simp [Value.oneCell']) (by unfold maxLen; omega) (by omega) (by simp; omega) ?_; intro v' w1 hown' hgrow hnil; obtain ⟨g', cap', rfl⟩ := ownsRow_succ hown'; have hB1 := (HB.out.alloc (.cells #[.int .i64 p.kind, .string ⟨p.s.toArray⟩] 98)).appended (World.ownsRow.alloc HO.out _) hgrow; have x0' := hB1.x0; have x1' := hB1.x1; have x2' := hB1.x2; have n0' := hB1.n0; have f0' := hB1.fx 0; have f1' := hB1.fx 1; have f2' := hB1.fx 2; have fn' := hB1.fn; have p0' : w1.cell? ⟨W.heap.size, 0, none⟩ = some (.int .i64 p.kind) := hgrow.cell (cell_old p0) (fun e => by have := HVLT.out _ e.symm; simp at this); have HLOW : Hid (∀ k, k < w.heap.size → w1.heap[k]? = W.heap[k]?) := (fun k hk => low_app hgrow HLOW2.out HVLT.out hk (by have := HS2.out; omega)); have hsg := hgrow.size; have HSG : Hid (W.heap.size ≤ w1.heap.size) := (by have := HS2.out; show _ ≤ _; simp at hsg; omega); clear hsg x1 x0 x2 n0 p0 p1; have HOWN1 : Hid (OwnP w _ (st.ps ++ [p]) w1) := OwnP.snoc hown'; have HB1 := Lib.hid hB1; clear hown' hB1)))
        refine ⟨trivial, fun h => by simp [Fence.wide] at h, (CallsIn.inRound _ (callsIn_wide.2 (must_false _))).mono ?_⟩
        rintro e w5 ⟨rfl, rfl⟩
        gi_wp2_with fail
        rw [HST.out]
        exact ⟨rfl, (HB1.out.setV _).keep, (HB1.out.setV _).dfr⟩
end Go.Proofs.YtpknbdgmpfhcnaaGreatDoor
