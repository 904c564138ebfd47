/- The walk of codes' write of a section. -/
import Derived.Test.YtpknbdgmpfhcnaaGreatDoorCsO
import Derived.Test.YtpknbdgmpfhcnaaGreatDoorCsQ
namespace Go.Proofs.YtpknbdgmpfhcnaaGreatDoor
set_option linter.unusedVariables false
set_option linter.unusedSimpArgs false
open Go.RowKit

/-- What a piece is written as. -/
def pieceW (n : Nat) (text : List UInt8) (p : Pc) : Option (List UInt8) :=
  if p.kind = 1 then numberL n p.s else if p.kind = 2 then some (dayL p.s) else if p.kind = 3 then some text else some p.s
def writeL (n : Nat) (text : List UInt8) : List Pc → Option (List UInt8)
  | [] => some []
  | p :: r => match pieceW n text p, writeL n text r with
    | some a, some t => some (a ++ t)
    | _, _ => none
/-- A part of a day that can be written. -/
def DayOk (day : Int) (p : Pc) : Prop := p.kind = 2 → day = 45000 ∧ 0 < p.s.length ∧ p.s.length ≤ 4
def WPost (n : Nat) (day : Int) (text : List UInt8) (b : Nat) (q : Option (List UInt8)) (w : World) (e : Ending) (w' : World) : Prop := w.grownBy w' (some b) ∧ match q with
  | some t => e = .returned (.tuple #[.string ⟨t.toArray⟩, .int .i64 0])
  | none => e = .returned (.tuple #[.string ⟨#[]⟩, .int .i64 5])
theorem outL_len (m : Nat) (x : List UInt8) (hm : m ≤ 1000000000000000000) (hx : x.length ≤ 60) : (outL m x).length ≤ 170 := by
  have h1 : ∀ o : List UInt8, o.length ≤ 21 → (Lib.repeatL [48] (x.count 48 - o.length) ++ o).length ≤ 81 := by
    intro o ho
    have : x.count 48 ≤ x.length := List.count_le_length
    rw [List.length_append, Lib.repeatL_length]; simp; omega
  have h2 : (if 1000000 ≤ m then Lib.itoa ((m / 1000000 : Nat) : Int) else []).length ≤ 21 := by
    split
    · exact Lib.itoa_length_le _ (by omega) (by omega)
    · simp
  unfold outL
  simp only
  have h3 := h1 _ h2
  split
  · have := commasFrom_len true (Lib.repeatL [48] (x.count 48 - (if 1000000 ≤ m then Lib.itoa ((m / 1000000 : Nat) : Int) else []).length) ++ (if 1000000 ≤ m then Lib.itoa ((m / 1000000 : Nat) : Int) else []))
    unfold commasL; omega
  · omega
theorem fracL_len (m : Nat) (y : List UInt8) (hy : y.length ≤ 60) : (fracL m y).length ≤ 120 := by
  unfold fracL
  simp only
  rw [List.length_append]
  have h1 : ∀ l : List UInt8, (l.take (y.count 48)).length ≤ 60 := by
    intro l
    have : y.count 48 ≤ y.length := List.count_le_length
    simp; omega
  have h2 : ∀ l : List UInt8, (Lib.trimRightB (l.take (y.length - y.count 48)) 48).length ≤ 60 := by
    intro l
    refine Nat.le_trans (trimRightB_len _ _) ?_
    simp; omega
  have := h1 ((Lib.itoa ((1000000 + m % 1000000 : Nat) : Int)).drop 1 ++ Lib.repeatL [48] y.length)
  have := h2 (((Lib.itoa ((1000000 + m % 1000000 : Nat) : Int)).drop 1 ++ Lib.repeatL [48] y.length).drop (y.count 48))
  omega
theorem roundL_le (n p : Nat) (h : (roundL n p).2 = 0) : (roundL n p).1.toNat ≤ 1000000000000000000 := by
  unfold roundL toldL at *
  split at h
  · rename_i hf
    rw [if_pos hf]
    unfold fitsB at hf
    rw [Bool.and_eq_true, decide_eq_true_iff, decide_eq_true_iff] at hf
    simp only
    generalize divR n (10 ^ (6 - p)) * 10 ^ (6 - p) = D at *
    omega
  · simp at h
theorem numberL_len (n : Nat) (s t : List UInt8) (hs : s.length ≤ 60) (h : numberL n s = some t) : t.length ≤ 300 := by
  have hl := cut_len s [46]
  unfold numberL at h
  simp only at h
  generalize Lib.cut s [46] = c at *
  split at h
  · cases h
  · rename_i hr
    have hr' := roundL_le n (min c.2.1.length 6) (by simpa using hr)
    have h1 := outL_len (roundL n (min c.2.1.length 6)).1.toNat c.1 hr' (by omega)
    have h2 := fracL_len (roundL n (min c.2.1.length 6)).1.toNat c.2.1 (by omega)
    split at h
    · cases h; simp; omega
    · cases h; omega
theorem padL_len (n : Int) (h0 : -9223372036854775808 ≤ n) (h1 : n ≤ 9223372036854775807) (k : Nat) (hk : k ≤ 60) : (padL n k).length ≤ 81 := by
  have := Lib.itoa_length_le n h0 h1
  unfold padL
  rw [List.length_append, Lib.repeatL_length]; simp; omega
theorem dayL_len (s : List UInt8) (h : s.length ≤ 4) : (dayL s).length ≤ 81 := by
  unfold dayL
  split
  · have := padL_len 2023 (by omega) (by omega) 4 (by omega); simp; omega
  · split
    · exact padL_len 3 (by omega) (by omega) _ (by omega)
    · exact padL_len 16 (by omega) (by omega) _ (by omega)
theorem pieceW_len (n : Nat) (text t : List UInt8) (p : Pc) (hp : p.s.length ≤ 60) (htl : text.length ≤ 255) (hd : p.kind = 2 → p.s.length ≤ 4) (h : pieceW n text p = some t) : t.length ≤ 300 := by
  unfold pieceW at h
  split at h
  · exact numberL_len n _ _ hp h
  · split at h
    · cases h; have := dayL_len p.s (hd (by assumption)); omega
    · split at h <;> (cases h; omega)
/-- What a call for one piece does. -/
def PW (n : Nat) (day c : Int) (text : List UInt8) (b : Nat) (p : Pc) (w : World) (e : Ending) (w' : World) : Prop :=
  ∃ (t : List UInt8) (c' : Int), e = .returned (.string ⟨t.toArray⟩) ∧ t.length ≤ 300 ∧ w'.heap[b]? = some (.cells (WV n day c' text) 61 (0, 0)) ∧ w.grownBy w' (some b) ∧ ((pieceW n text p = some t ∧ c' = c) ∨ (pieceW n text p = none ∧ c' = 5))
theorem writer_is (k : Int) (F : Nat) (h : writerF k = F) (b : Nat) (w : World) : Calls Tryz.prog 44 #[.pointer (some ⟨b, 0, none⟩), .int .i64 k] w fun e w' => e = .returned (.func (.func F) #[.pointer (some ⟨b, 0, none⟩)] #[]) ∧ w' = w := by
  subst h; exact writer_any k b w
theorem writerF_cases (k : Int) : (writerF k = 69 ∧ k = 1) ∨ (writerF k = 70 ∧ k = 2) ∨ (writerF k = 71 ∧ k = 3) ∨ (writerF k = 72 ∧ k ≠ 1 ∧ k ≠ 2 ∧ k ≠ 3) := by
  unfold writerF
  by_cases h1 : k = 1
  · exact .inl ⟨if_pos h1, h1⟩
  · by_cases h2 : k = 2
    · exact .inr (.inl ⟨by rw [if_neg h1, if_pos h2], h2⟩)
    · by_cases h3 : k = 3
      · exact .inr (.inr (.inl ⟨by rw [if_neg h1, if_neg h2, if_pos h3], h3⟩))
      · exact .inr (.inr (.inr ⟨by rw [if_neg h1, if_neg h2, if_neg h3], h1, h2, h3⟩))
theorem grown_refl (w : World) (row : Option Nat) : w.grownBy w row := ⟨rfl, rfl, rfl, Nat.le_refl _, fun _ _ _ => rfl⟩
theorem piece_call (n : Nat) (day c : Int) (text : List UInt8) (b : Nat) (p : Pc) (F : Nat) (hF : writerF p.kind = F) (w : World) (hn : n ≤ 1000000000000000000) (hp : p.s.length ≤ 60) (htl : text.length ≤ 255) (hd : DayOk day p)
    (hw : w.heap[b]? = some (.cells (WV n day c text) 61 (0, 0))) (hG : G w) : Calls Tryz.prog F #[.pointer (some ⟨b, 0, none⟩), .string ⟨p.s.toArray⟩] w (PW n day c text b p w) := by
  subst hF
  have hbl := (Array.getElem?_eq_some_iff.1 hw).1
  rcases writerF_cases p.kind with ⟨hF, hk⟩ | ⟨hF, hk⟩ | ⟨hF, hk⟩ | ⟨hF, hk1, hk2, hk3⟩ <;> rw [hF]
  · refine (number_any n day c text p.s b w hn hp hw hG).mono ?_
    intro e w' h
    have hpw : pieceW n text p = numberL n p.s := by unfold pieceW; rw [if_pos hk]
    unfold NPost at h
    cases hq : numberL n p.s with
    | none => rw [hq] at h; exact ⟨[], 5, h.1, by simp, h.2.1, h.2.2, .inr ⟨hpw.trans hq, rfl⟩⟩
    | some t => rw [hq] at h; exact ⟨t, c, h.1, numberL_len n _ _ hp hq, (h.2.block b hbl).trans hw, grown_below h.2 _, .inl ⟨hpw.trans hq, rfl⟩⟩
  · obtain ⟨hd1, hd2, hd3⟩ := hd hk
    subst hd1
    refine (part_day n c text p.s b w hd2 hd3 hw hG).mono ?_
    rintro e w' ⟨rfl, hB⟩
    have hpw : pieceW n text p = some (dayL p.s) := by unfold pieceW; rw [if_neg (by omega), if_pos hk]
    exact ⟨_, c, rfl, by have := dayL_len p.s hd3; omega, (hB.block b hbl).trans hw, grown_below hB _, .inl ⟨hpw, rfl⟩⟩
  · refine (whole_any n day c text b ⟨p.s.toArray⟩ w hw).mono ?_
    rintro e w' ⟨rfl, rfl⟩
    have hpw : pieceW n text p = some text := by unfold pieceW; rw [if_neg (by omega), if_neg (by omega), if_pos hk]
    exact ⟨_, c, rfl, by omega, hw, grown_refl _ _, .inl ⟨hpw, rfl⟩⟩
  · refine (wwords_any (.pointer (some ⟨b, 0, none⟩)) ⟨p.s.toArray⟩ w).mono ?_
    rintro e w' ⟨rfl, rfl⟩
    have hpw : pieceW n text p = some p.s := by unfold pieceW; rw [if_neg hk1, if_neg hk2, if_neg hk3]
    exact ⟨_, c, rfl, by omega, hw, grown_refl _ _, .inl ⟨hpw, rfl⟩⟩
theorem G.grown {w w' : World} {b : Nat} (h : G w) (hg : w.grownBy w' (some b)) (hb : gN ≤ b) : G w' := h.of_blocks hg.size fun k hk => hg.block k (Nat.lt_of_lt_of_le hk h.size) (by intro e; injection e; omega)
/-- The loop over the pieces: what has been written. -/
structure WrB (w : World) (b B n : Nat) (day : Int) (text : List UInt8) (ps : List Pc) (i : Nat) (wr : World) : Prop where
  ex : ∃ (acc : List UInt8) (c : Int), wr.heap[b]? = some (.cells (WV n day c text) 61 (0, 0)) ∧ BB B B acc wr ∧ acc.length ≤ 300 * i ∧
    ((c = 0 ∧ ∀ t, writeL n text (ps.drop i) = some t → writeL n text ps = some (acc ++ t)) ∧ (writeL n text (ps.drop i) = none → writeL n text ps = none) ∨ (c = 5 ∧ writeL n text ps = none))
  g : w.grownBy wr (some b)
  sz : B ≤ wr.heap.size
theorem writeL_step {n : Nat} {text : List UInt8} {ps : List Pc} {i : Nat} {p : Pc} (h : ps[i]? = some p) : writeL n text (ps.drop i) = match pieceW n text p, writeL n text (ps.drop (i + 1)) with
    | some a, some t => some (a ++ t)
    | _, _ => none := by
  obtain ⟨h', rfl⟩ := List.getElem?_eq_some_iff.1 h
  rw [List.drop_eq_getElem_cons h']; rfl
theorem WrB.step {w w2 : World} {b B n : Nat} {day c c' : Int} {text acc t : List UInt8} {ps : List Pc} {i : Nat} {p : Pc} (h : ps[i]? = some p) (hl : acc.length ≤ 300 * i) (htl : t.length ≤ 300)
    (hx : ((c = 0 ∧ ∀ t, writeL n text (ps.drop i) = some t → writeL n text ps = some (acc ++ t)) ∧ (writeL n text (ps.drop i) = none → writeL n text ps = none) ∨ (c = 5 ∧ writeL n text ps = none)))
    (hp : (pieceW n text p = some t ∧ c' = c) ∨ (pieceW n text p = none ∧ c' = 5)) (hW : w2.heap[b]? = some (.cells (WV n day c' text) 61 (0, 0))) (hB : BB B B (acc ++ t) w2) (hg : w.grownBy w2 (some b)) (hs : B ≤ w2.heap.size) :
    WrB w b B n day text ps (i + 1) w2 := by
  refine ⟨⟨acc ++ t, c', hW, hB, by simp; omega, ?_⟩, hg, hs⟩
  rcases hx with ⟨⟨h0, h1⟩, h2⟩ | ⟨h5, hn⟩
  · rcases hp with ⟨hp, hc⟩ | ⟨hp, hc⟩
    · refine .inl ⟨⟨by omega, fun u hu => ?_⟩, fun hu => ?_⟩
      · have := h1 (t ++ u) (by rw [writeL_step h, hp, hu])
        rw [this, List.append_assoc]
      · exact h2 (by rw [writeL_step h, hp, hu])
    · refine .inr ⟨hc, h2 ?_⟩
      rw [writeL_step h, hp]
  · refine .inr ⟨?_, hn⟩
    rcases hp with ⟨hp, hc⟩ | ⟨hp, hc⟩ <;> omega
theorem grown_at {w w1 w2 : World} {row : Option Nat} {B : Nat} (hg : w.grownBy w1 row) (hB : Below B w1 w2) (hw : w.heap.size ≤ B) : w.grownBy w2 row :=
  ⟨hB.os.trans hg.os, hB.tape.trans hg.tape, hB.output.trans hg.output, Nat.le_trans hg.size hB.size, fun k hk hr => (hB.block k (by omega)).trans (hg.block k hk hr)⟩
theorem WrB.kept {w wr w' : World} {b B n : Nat} {day : Int} {text : List UInt8} {ps : List Pc} {i : Nat} (h : WrB w b B n day text ps i wr) (hg : wr.grownBy w' none) : WrB w b B n day text ps i w' := by
  obtain ⟨⟨acc, c, hW, hB, hl, hx⟩, hgr, hs⟩ := h
  refine ⟨⟨acc, c, (hg.block b (Array.getElem?_eq_some_iff.1 hW).1 (by simp)).trans hW, hB.kept hg (by simp), hl, hx⟩, ?_, Nat.le_trans hs hg.size⟩
  exact grown_trans hgr ⟨hg.os, hg.tape, hg.output, hg.size, fun k hk _ => hg.block k hk (by simp)⟩
structure WrA (w : World) (b m : Nat) (day : Int) (text : List UInt8) (kind : Int) (v : Value) (h : Nat) (base : Nat) (ps : List Pc) (wr : World) : Prop where
  W : wr.heap[b]? = some (.cells (WV m day 0 text) 61 (0, 0))
  g : w.grownBy wr (some b)
  x : wr.heap[w.heap.size]? = some (.cells #[.int .i64 kind, v, .int .i64 h] 51 (0, 0))
  v : wr.ownsRow base 98 2 v ps.length (flatPs ps)
set_option maxRecDepth 100000 in
set_option maxHeartbeats 2000000 in
theorem write_any (ps : List Pc) (v : Value) (base h : Nat) (kind : Int) (n N : Nat) (day : Int) (text : List UInt8) (b : Nat) (w : World) (hn : n ≤ 1000000000000000000) (hh : (h = 0 ∧ N = n) ∨ (h = 1 ∧ n ≤ 100000000000 ∧ N = n * 100)) (hv : w.ownsRow base 98 2 v ps.length (flatPs ps))
    (hw : w.heap[b]? = some (.cells (WV n day 0 text) 61 (0, 0))) (hgb : gN ≤ b) (hG : G w) (hps : ps.length ≤ 60) (hpl : ∀ p ∈ ps, p.s.length ≤ 60) (htl : text.length ≤ 255) (hday : ∀ p ∈ ps, DayOk day p) :
    Calls Tryz.prog 27 #[.agg #[.int .i64 kind, v, .int .i64 h], .pointer (some ⟨b, 0, none⟩)] w (WPost N day text b (writeL N text ps) w) := by
  have hbl := (Array.getElem?_eq_some_iff.1 hw).1
  have hA : Hid (WrA w b n day text kind v h base ps (w.alloc (.cells #[.int .i64 kind, v, .int .i64 h] 51))) := by
    have hgg : w.grownBy (w.alloc (.cells #[.int .i64 kind, v, .int .i64 h] 51)) (some b) := World.grownBy_alloc _ _ _
    exact ⟨(get_old hbl).trans hw, hgg, heap_alloc_new _ _, hv.kept hgg (own_ne hv hw (fun cs e => by injection e with _ e; exact absurd e (by decide)))⟩
  have HPS := Lib.hid hpl; have HG := Lib.hid hG; have HD := Lib.hid hday; have HV := Lib.hid hv; have HN := Lib.hid hn; have HH := Lib.hid hh
  obtain ⟨a, n0, cap, rfl⟩ := own_slice hv
  have hn0 : n0 = ps.length := by
    rcases hv.2 with ⟨e, h⟩ | ⟨g, cap', cur, e, _⟩
    · injection e with _ e2 _; omega
    · injection e
  subst hn0
  have hL : Hid (∀ (i : Nat) (hi : i < ps.length), ∃ g p, ps[i]? = some p ∧ a = some ⟨g, 0, none⟩ ∧ g < w.heap.size ∧ g ≠ b ∧ w.cell? ⟨g, i * 2, none⟩ = some (.int .i64 p.kind) ∧ w.cell? ⟨g, i * 2 + 1, none⟩ = some (.string ⟨p.s.toArray⟩)) := by
    intro i hi
    have hne := own_ne hv hw (fun cs e => by injection e with _ e; exact absurd e (by decide))
    obtain ⟨g, cap', h1, h2, h3⟩ := pieces_read hv (by rintro rfl; simp at hi)
    injection h1 with h1 _ _
    refine ⟨g, ps[i], List.getElem?_eq_getElem hi, h1, h2, ?_, (h3 i hi).1, (h3 i hi).2⟩
    rw [h1] at hne
    intro e
    subst e
    rcases hne with h | h <;> simp [Value.ownBlock] at h
  clear hpl hG hday hv hw hn hh
  go_enter Tryz.func27, Tryz.ntmps27
  go_wp2_with fail
  go_loopw [13] (fun k wr => ∃ j m : Nat, k = .int .i64 j ∧ j ≤ h ∧ Hid (m = if j = 0 then n else n * 100) ∧ Hid (WrA w b m day text kind (.slice a ps.length cap) h base ps wr)) (fun k _ => h - (intOf k).toNat)
  case atStart => exact ⟨0, n, rfl, by omega, by show _ = _; rfl, hA⟩
  case round =>
    obtain ⟨j, m, rfl, hj, HM, HA⟩ := hrel
    by_cases hlt : j < h
    · have hd := lss_nat hlt
      have c0 : wr.cell? ⟨b, 0, none⟩ = some (.int .i64 m) := by simp [World.cell?, HA.out.W, WV]
      have f0 : wr.frozen? ⟨b, 0, none⟩ = false := by simp [World.frozen?, HA.out.W, WV]
      have hj0 : j = 0 := by have := HH.out; omega
      have hm : m = n := by rw [HM.out, if_pos hj0]
      have hn11 : n ≤ 100000000000 := by have := HH.out; omega
      subst hm
      go_wp2_with fail
      refine (mul_hundred m hn11 _).mono ?_
      rintro e w1 ⟨rfl, hB⟩
      have hbl2 : b < wr.heap.size := (Array.getElem?_eq_some_iff.1 HA.out.W).1
      have hW1 : w1.heap[b]? = some (.cells (WV m day 0 text) 61 (0, 0)) := (hB.block b hbl2).trans HA.out.W
      have c0' : w1.cell? ⟨b, 0, none⟩ = some (.int .i64 m) := by simp [World.cell?, hW1, WV]
      have f0' : w1.frozen? ⟨b, 0, none⟩ = false := by simp [World.frozen?, hW1, WV]
      have HW1 := Lib.hid hW1; have HB := Lib.hid hB
      clear hW1 hB c0 f0
      go_wp2_with fail
      have hg1 : wr.grownBy (w1.setCell ⟨b, 0, none⟩ (.int .i64 (m * 100 : Nat))) (some b) := grown_trans (grown_below HB.out _) (grown_set' _ _ _ _)
      refine ⟨⟨1, m * 100, by simp [hj0], by omega, rfl, ?_⟩, by simp only [intOf]; omega⟩
      refine ⟨?_, grown_trans HA.out.g hg1, (hg1.block _ (Array.getElem?_eq_some_iff.1 HA.out.x).1 (by intro e; injection e; omega)).trans HA.out.x, HA.out.v.kept hg1 (own_ne HA.out.v HA.out.W (fun cs e => by injection e with _ e; exact absurd e (by decide)))⟩
      exact heap_set_same (i := 0) HW1.out (.int .i64 (m * 100 : Nat))
    · have hd := lss_nat' hlt
      have hjh : j = h := by omega
      subst hjh
      have hmN : m = N := by
        rw [HM.out]; rcases HH.out with ⟨h1, h2⟩ | ⟨h1, _, h2⟩
        · rw [if_pos h1, h2]
        · rw [if_neg (by omega), h2]
      have HNN : Hid (N ≤ 1000000000000000000) := by
        show _ ≤ _; have := HN.out; rcases HH.out with ⟨h1, h2⟩ | ⟨h1, h3, h2⟩ <;> omega
      have x1 : (wr.alloc (.cells #[.pointer none, .slice none 0 0] 96)).cell? ⟨w.heap.size, 1, none⟩ = some (.slice a ps.length cap) := by
        have := get_old (o := .cells #[.pointer none, .slice none 0 0] 96) (Array.getElem?_eq_some_iff.1 HA.out.x).1
        simp [World.cell?, this, HA.out.x]
      subst hmN
      have HS : Hid (WrB w b wr.heap.size m day text ps 0 (wr.alloc (.cells #[.pointer none, .slice none 0 0] 96))) :=
        ⟨⟨[], 0, (get_old (Array.getElem?_eq_some_iff.1 HA.out.W).1).trans HA.out.W, BB.new wr, by simp, .inl ⟨⟨rfl, fun t ht => by simpa using ht⟩, fun ht => by simpa using ht⟩⟩, grown_trans HA.out.g (World.grownBy_alloc _ _ _), by simp⟩
      clear HM HH hA hd hlt
      go_wp2_with fail
      obtain ⟨bb, hbb⟩ : ∃ bb, wr.heap.size = bb := ⟨_, rfl⟩
      have HBB : Hid (w.heap.size ≤ bb) := by show _ ≤ _; have := HA.out.g.size; omega
      rw [hbb] at HS
      rw [hbb]
      have hbb2 : b < bb := by have := HBB.out; omega
      obtain ⟨wo, hwo⟩ : ∃ wo, wr = wo := ⟨_, rfl⟩
      rw [hwo] at HS HA ⊢
      clear x1 hbb hwo
      go_loopw [33] (fun k wi => ∃ i : Nat, k = .int .i64 i ∧ i ≤ ps.length ∧ Hid (WrB w b bb m day text ps i wi)) (fun k _ => ps.length - (intOf k).toNat)
      case atStart => exact ⟨0, rfl, by omega, HS⟩
      case round =>
        obtain ⟨i, rfl, hi, HI⟩ := hrel
        by_cases hlt : i < ps.length
        · have hd := lss_nat hlt
          obtain ⟨g, p, hp, rfl, hg1, hg2, e0, e1⟩ := hL.out i hlt
          have e0' := HI.out.g.cell e0 (by intro e; injection e with e; exact hg2 e)
          have e1' := HI.out.g.cell e1 (by intro e; injection e with e; exact hg2 e)
          have HPl := Lib.hid (HPS.out p (List.mem_of_getElem? hp)); have HDd := Lib.hid (HD.out p (List.mem_of_getElem? hp))
          have HP := Lib.hid hp
          have HLt := Lib.hid hlt
          clear e0 e1 hp
          go_wp2_with fail
          have k0 := new_cell wr #[.int .i64 p.kind, .string ⟨p.s.toArray⟩] 98 0
          have k1 := new_cell wr #[.int .i64 p.kind, .string ⟨p.s.toArray⟩] 98 1
          simp only [List.getElem?_toArray, List.getElem?_cons_succ, List.getElem?_cons_zero] at k0 k1
          have hI2 := HI.out.kept (World.grownBy_alloc wr (.cells #[.int .i64 p.kind, .string ⟨p.s.toArray⟩] 98) none)
          clear e0' e1' hd hlt
          generalize wr.alloc (.cells #[.int .i64 p.kind, .string ⟨p.s.toArray⟩] 98) = wp at *
          generalize wr.heap.size = pb at *
          obtain ⟨⟨acc, c, hW, hB, hal, hx⟩, hgr, hs⟩ := hI2
          have HW : Hid (wp.drew.heap[b]? = some (.cells (WV m day c text) 61 (0, 0))) := hW
          have HB := Lib.hid hB; have HX := Lib.hid hx; have HGr := Lib.hid hgr
          have HGw := Lib.hid (HG.out.grown (grown_drew hgr) hgb)
          clear hW hB hx hgr HI
          have hF4 : writerF p.kind = 69 ∨ writerF p.kind = 70 ∨ writerF p.kind = 71 ∨ writerF p.kind = 72 := by
            rcases writerF_cases p.kind with h | h | h | h <;> simp [h.1]
          rcases hF4 with hF | hF | hF | hF
          · have HF := Lib.hid hF
            clear hF
            (
              go_region_with (first
                | (go_at_call 44; refine (writer_is p.kind _ HF.out b _).mono ?_; rintro e w1 ⟨rfl, rfl⟩)
                | (go_at_call 69; refine (piece_call m day c text b p _ HF.out _ HNN.out HPl.out htl HDd.out HW.out HGw.out).mono ?_; rintro e w2 ⟨t, c', rfl, htl', hW1, hg1, hx1⟩)
                | (go_at_call 43; refine (c_WriteString bb bb acc t _ (HB.out.kept (grown_trans (grown_drew (grown_refl wp _)) (by assumption)) (by intro k e; injection e; omega)) (by omega) (by omega) (by have := hg1.size; simp only [World.size_drew] at this; omega)).mono ?_; rintro e w3 ⟨rfl, hBB2, hB2⟩))
              all_goals
                have hst : WrB w b bb m day text ps (i + 1) w3 := WrB.step HP.out hal htl' HX.out hx1 ((hB2.block b hbb2).trans hW1) hBB2 (grown_at (grown_trans (grown_drew HGr.out) hg1) hB2 HBB.out) (Nat.le_trans (by have := hg1.size; simp only [World.size_drew] at this; omega) hB2.size)
                have HSt := Lib.hid hst
                clear hst hx1 hBB2 hB2 hW1 hg1 htl'
                go_wp2_with fail
                exact ⟨⟨i + 1, by simp, by have := HLt.out; omega, HSt.out⟩, by have := HLt.out; simp only [intOf]; omega⟩)
          · have HF := Lib.hid hF
            clear hF
            (
              go_region_with (first
                | (go_at_call 44; refine (writer_is p.kind _ HF.out b _).mono ?_; rintro e w1 ⟨rfl, rfl⟩)
                | (go_at_call 70; refine (piece_call m day c text b p _ HF.out _ HNN.out HPl.out htl HDd.out HW.out HGw.out).mono ?_; rintro e w2 ⟨t, c', rfl, htl', hW1, hg1, hx1⟩)
                | (go_at_call 43; refine (c_WriteString bb bb acc t _ (HB.out.kept (grown_trans (grown_drew (grown_refl wp _)) (by assumption)) (by intro k e; injection e; omega)) (by omega) (by omega) (by have := hg1.size; simp only [World.size_drew] at this; omega)).mono ?_; rintro e w3 ⟨rfl, hBB2, hB2⟩))
              all_goals
                have hst : WrB w b bb m day text ps (i + 1) w3 := WrB.step HP.out hal htl' HX.out hx1 ((hB2.block b hbb2).trans hW1) hBB2 (grown_at (grown_trans (grown_drew HGr.out) hg1) hB2 HBB.out) (Nat.le_trans (by have := hg1.size; simp only [World.size_drew] at this; omega) hB2.size)
                have HSt := Lib.hid hst
                clear hst hx1 hBB2 hB2 hW1 hg1 htl'
                go_wp2_with fail
                exact ⟨⟨i + 1, by simp, by have := HLt.out; omega, HSt.out⟩, by have := HLt.out; simp only [intOf]; omega⟩)
          · have HF := Lib.hid hF
            clear hF
            (
              go_region_with (first
                | (go_at_call 44; refine (writer_is p.kind _ HF.out b _).mono ?_; rintro e w1 ⟨rfl, rfl⟩)
                | (go_at_call 71; refine (piece_call m day c text b p _ HF.out _ HNN.out HPl.out htl HDd.out HW.out HGw.out).mono ?_; rintro e w2 ⟨t, c', rfl, htl', hW1, hg1, hx1⟩)
                | (go_at_call 43; refine (c_WriteString bb bb acc t _ (HB.out.kept (grown_trans (grown_drew (grown_refl wp _)) (by assumption)) (by intro k e; injection e; omega)) (by omega) (by omega) (by have := hg1.size; simp only [World.size_drew] at this; omega)).mono ?_; rintro e w3 ⟨rfl, hBB2, hB2⟩))
              all_goals
                have hst : WrB w b bb m day text ps (i + 1) w3 := WrB.step HP.out hal htl' HX.out hx1 ((hB2.block b hbb2).trans hW1) hBB2 (grown_at (grown_trans (grown_drew HGr.out) hg1) hB2 HBB.out) (Nat.le_trans (by have := hg1.size; simp only [World.size_drew] at this; omega) hB2.size)
                have HSt := Lib.hid hst
                clear hst hx1 hBB2 hB2 hW1 hg1 htl'
                go_wp2_with fail
                exact ⟨⟨i + 1, by simp, by have := HLt.out; omega, HSt.out⟩, by have := HLt.out; simp only [intOf]; omega⟩)
          · have HF := Lib.hid hF
            clear hF
            (
              go_region_with (first
                | (go_at_call 44; refine (writer_is p.kind _ HF.out b _).mono ?_; rintro e w1 ⟨rfl, rfl⟩)
                | (go_at_call 72; refine (piece_call m day c text b p _ HF.out _ HNN.out HPl.out htl HDd.out HW.out HGw.out).mono ?_; rintro e w2 ⟨t, c', rfl, htl', hW1, hg1, hx1⟩)
                | (go_at_call 43; refine (c_WriteString bb bb acc t _ (HB.out.kept (grown_trans (grown_drew (grown_refl wp _)) (by assumption)) (by intro k e; injection e; omega)) (by omega) (by omega) (by have := hg1.size; simp only [World.size_drew] at this; omega)).mono ?_; rintro e w3 ⟨rfl, hBB2, hB2⟩))
              all_goals
                have hst : WrB w b bb m day text ps (i + 1) w3 := WrB.step HP.out hal htl' HX.out hx1 ((hB2.block b hbb2).trans hW1) hBB2 (grown_at (grown_trans (grown_drew HGr.out) hg1) hB2 HBB.out) (Nat.le_trans (by have := hg1.size; simp only [World.size_drew] at this; omega) hB2.size)
                have HSt := Lib.hid hst
                clear hst hx1 hBB2 hB2 hW1 hg1 htl'
                go_wp2_with fail
                exact ⟨⟨i + 1, by simp, by have := HLt.out; omega, HSt.out⟩, by have := HLt.out; simp only [intOf]; omega⟩)
        · have hd := lss_nat' hlt
          obtain ⟨⟨acc, c, hW, hB, hal, hx⟩, hgr, hs⟩ := HI.out
          have hi' : i = ps.length := by omega
          have hdr : ps.drop i = [] := List.drop_of_length_le (by omega)
          rw [hdr] at hx
          have c3 : wr.cell? ⟨b, 3, none⟩ = some (.int .i64 c) := by simp [World.cell?, hW, WV]
          have HB := Lib.hid hB; have HGr := Lib.hid hgr; have HSz := Lib.hid hs
          have hacc : acc.length ≤ 18000 := by omega
          clear hW hB hgr HI hdr hs hi hi' hal
          rcases hx with ⟨⟨rfl, hx⟩, _⟩ | ⟨rfl, hx⟩
          · have HQ := Lib.hid (hx [] rfl)
            clear hx
            go_wp2_with fail
            refine (c_BString bb bb acc _ HB.out HSz.out).mono ?_
            rintro e w2 ⟨rfl, hB2⟩
            go_wp2_with fail
            refine bodyPost_ret (v := .tuple #[.string ⟨acc.toArray⟩, .int .i64 0]) (by simp [results, Tryz.results27, go_sem]) rfl ?_
            refine ⟨grown_at HGr.out hB2 HBB.out, ?_⟩
            rw [HQ.out, List.append_nil]
          · have HQ := Lib.hid hx
            clear hx
            go_wp2_with fail
            go_region
            all_goals
              go_wp2_with fail
              refine bodyPost_ret (v := .tuple #[.string ⟨#[]⟩, .int .i64 5]) (by simp [results, Tryz.results27, go_sem]) rfl ?_
              refine ⟨grown_drew HGr.out, ?_⟩
              rw [HQ.out]
end Go.Proofs.YtpknbdgmpfhcnaaGreatDoor
