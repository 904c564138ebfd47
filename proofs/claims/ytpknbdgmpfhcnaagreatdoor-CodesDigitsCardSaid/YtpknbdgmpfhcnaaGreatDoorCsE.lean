/- The walk of the reference's piece. -/
import Derived.Test.YtpknbdgmpfhcnaaGreatDoorCsD
namespace Go.Proofs.YtpknbdgmpfhcnaaGreatDoor
set_option linter.unusedVariables false
set_option linter.unusedSimpArgs false
open Go.RowKit

def daysR (c : UInt8) (n : Nat) : Bool := (decide (n ≤ 2) && c != 121) || (c == 121 && (n == 2 || n == 4))
/-- The piece at the front of a text, as the reference reads it. -/
def nextR : List UInt8 → Option (Pc × List UInt8)
  | [] => none
  | c :: r =>
    if c = 34 then (quoteL r).map fun q => (⟨0, q.1⟩, q.2)
    else if c = 92 then backL r
    else if wordSet.contains c = true then some (⟨0, [c]⟩, r)
    else if numSet.contains c = true then (if placeR (rowL numSet (c :: r)) = true then some (⟨1, rowL numSet (c :: r)⟩, cutL numSet (c :: r)) else none)
    else if c = 37 then some (⟨4, [37]⟩, r)
    else if [121, 109, 100].contains c = true then (if daysR c (rowL [c] (c :: r)).length = true then some (⟨2, rowL [c] (c :: r)⟩, cutL [c] (c :: r)) else none)
    else if c = 64 then some (⟨3, [64]⟩, r)
    else none
def RPost (q : List UInt8) (x : Option (Pc × List UInt8)) (w : World) (e : Ending) (w' : World) : Prop := Below w.heap.size w w' ∧
  match x with
  | some (p, t) => e = .returned (.tuple #[pcV p, .int .i64 (q.length - t.length : Nat)])
  | none => e = .returned (.tuple #[pcV ⟨0, []⟩, .int .i64 0])

theorem extract_mid (s : List UInt8) (a b : Nat) : (⟨s.toArray⟩ : ByteArray).extract a b = ⟨((s.drop a).take (b - a)).toArray⟩ := by
  apply L_inj
  rw [L_extract]; rfl
theorem slice_B (s : List UInt8) {i j : Int} (a b : Nat) (hi : i = (a : Int)) (hj : j = (b : Int)) (hab : a ≤ b) (hb : b ≤ s.length) (w : World) :
    (Instr.slice 9 (.string ⟨s.toArray⟩) (some (.int .i64 i)) (some (.int .i64 j)) none).run Tryz.prog w = .ok (.string ⟨((s.drop a).take (b - a)).toArray⟩) w := by
  subst hi; subst hj
  have h := run_slice_string (P := Tryz.prog) w 9 ⟨s.toArray⟩ .i64 .i64 (a : Int) (b : Int) Tryz.underlying9 (by omega) (by omega) (by show (b : Int) ≤ (s.length : Int); omega)
  rw [h, Int.toNat_natCast, Int.toNat_natCast, extract_mid]
theorem new_cell0 (w : World) (a b : Value) (t : TypeId) : (w.alloc (.cells #[a, b] t)).cell? ⟨w.heap.size, 0, none⟩ = some a := by
  have h := heap_alloc_new w (.cells #[a, b] t)
  simp only [World.cell?, h]; rfl
theorem new_cell1 (w : World) (a b : Value) (t : TypeId) : (w.alloc (.cells #[a, b] t)).cell? ⟨w.heap.size, 1, none⟩ = some b := by
  have h := heap_alloc_new w (.cells #[a, b] t)
  simp only [World.cell?, h]; rfl
theorem below_new (w : World) (o : Obj) : Below w.heap.size w (w.alloc o) := (Below.refl _ _).alloc (Nat.le_refl _) _
theorem quote_go {s : List UInt8} {i j : Nat} (hij : i + 1 ≤ j) (hj : j < s.length) (h : s[j] ≠ 34) (hd : (s.drop (i + 1)).dropWhile (· != 34) = (s.drop j).dropWhile (· != 34)) (ht : (s.drop (i + 1)).takeWhile (· != 34) = (s.drop (i + 1)).take (j - (i + 1)) ++ (s.drop j).takeWhile (· != 34)) :
    (s.drop (i + 1)).dropWhile (· != 34) = (s.drop (j + 1)).dropWhile (· != 34) ∧ (s.drop (i + 1)).takeWhile (· != 34) = (s.drop (i + 1)).take (j + 1 - (i + 1)) ++ (s.drop (j + 1)).takeWhile (· != 34) := by
  have hs := List.drop_eq_getElem_cons hj
  rw [hs, List.dropWhile_cons, if_pos (by simpa using h)] at hd
  rw [hs, List.takeWhile_cons, if_pos (by simpa using h)] at ht
  refine ⟨hd, ?_⟩
  have hlen : j - (i + 1) < (s.drop (i + 1)).length := by simp; omega
  have e1 : (s.drop (i + 1)).take (j + 1 - (i + 1)) = (s.drop (i + 1)).take (j - (i + 1)) ++ [s[j]] := by
    rw [show j + 1 - (i + 1) = j - (i + 1) + 1 by omega, List.take_succ_eq_append_getElem hlen]
    congr 2
    rw [List.getElem_drop]; congr 1; omega
  rw [e1, List.append_assoc]; exact ht
theorem quote_at {s : List UInt8} {i j : Nat} (hj : j < s.length) (h : s[j] = 34) (hd : (s.drop (i + 1)).dropWhile (· != 34) = (s.drop j).dropWhile (· != 34)) (ht : (s.drop (i + 1)).takeWhile (· != 34) = (s.drop (i + 1)).take (j - (i + 1)) ++ (s.drop j).takeWhile (· != 34)) :
    quoteL (s.drop (i + 1)) = some ((s.drop (i + 1)).take (j - (i + 1)), s.drop (j + 1)) := by
  have hs := List.drop_eq_getElem_cons hj
  unfold quoteL
  rw [hd, ht, hs, List.dropWhile_cons, List.takeWhile_cons, if_neg (by simp [h]), if_neg (by simp [h])]
  simp
theorem quote_no {s : List UInt8} {i j : Nat} (hj : s.length ≤ j) (hd : (s.drop (i + 1)).dropWhile (· != 34) = (s.drop j).dropWhile (· != 34)) : quoteL (s.drop (i + 1)) = none := by
  unfold quoteL
  rw [hd, List.drop_of_length_le hj]; rfl

set_option maxRecDepth 100000 in
set_option maxHeartbeats 1000000 in
theorem rpiece_quote (s : List UInt8) (i : Nat) (hi : i < s.length) (w : World) (hl : s.length ≤ 60) (h34 : s[i] = 34) : Calls Tryz.prog 37 #[.string ⟨s.toArray⟩, .int .i64 i] w (RPost (s.drop i) ((quoteL (s.drop (i + 1))).map fun q => (⟨0, q.1⟩, q.2)) w) := by
  have hx := get_B (List.getElem?_eq_getElem hi)
  generalize s[i] = c at *
  subst h34
  go_enter Tryz.func37, Tryz.ntmps37
  go_wp2_with fail
  clear hx
  go_loopw [7] (fun k wr => ∃ j : Nat, k = .int .i64 j ∧ i + 1 ≤ j ∧ j ≤ s.length ∧ wr = w.alloc (.cells #[.int .i64 0, .string ⟨#[]⟩] 83) ∧ Hid ((s.drop (i + 1)).dropWhile (· != 34) = (s.drop j).dropWhile (· != 34)) ∧ Hid ((s.drop (i + 1)).takeWhile (· != 34) = (s.drop (i + 1)).take (j - (i + 1)) ++ (s.drop j).takeWhile (· != 34))) (fun k _ => s.length - (intOf k).toNat)
  case atStart => exact ⟨i + 1, by simp, by omega, by omega, rfl, by show _ = _; rfl, by show _ = _; simp⟩
  case round =>
    obtain ⟨j, rfl, hij, hj, rfl, HD, HT⟩ := hrel
    by_cases hlt : j < s.length
    · have hd := lss_nat hlt
      have hx := get_B (List.getElem?_eq_getElem hlt)
      by_cases hk : s[j] = 34
      · have hk' : ((s[j].toNat : Int) == 34) = true := by simp [hk]
        have HQ := Lib.hid (quote_at hlt hk HD.out HT.out)
        generalize s[j] = c at *
        clear hk
        have hsl := slice_B s (i := (i : Int) + 1) (j := (j : Int)) (i + 1) j (by simp) rfl (by omega) (by omega)
        generalize (List.take (j - (i + 1)) (List.drop (i + 1) s)) = p at *
        have hsum : (j : Int) + 1 - (i : Int) = ((j + 1 - i : Nat) : Int) := by omega
        go_wp2_with fail
        (
          have k2 := new_cell0 w (.int .i64 0) (.string ⟨(p : List UInt8).toArray⟩) 83
          have k3 := new_cell1 w (.int .i64 0) (.string ⟨(p : List UInt8).toArray⟩) 83
          refine bodyPost_ret (v := .tuple #[pcV ⟨0, p⟩, .int .i64 ((j + 1 - i : Nat) : Int)]) (by simp [results, Tryz.results37, go_sem, pcV, k2, k3]) rfl ?_)
        rw [HQ.out]
        refine ⟨below_new _ _, ?_⟩
        show _ = Ending.returned (.tuple #[_, .int .i64 (((s.drop i).length - (s.drop (j + 1)).length : Nat) : Int)])
        rw [show (s.drop i).length - (s.drop (j + 1)).length = j + 1 - i by simp; omega]
      · have hk' : ((s[j].toNat : Int) == 34) = false := ne_test hk
        obtain ⟨a1, a2⟩ := quote_go hij hlt hk HD.out HT.out
        have A1 := Lib.hid a1; have A2 := Lib.hid a2
        generalize s[j] = c at *
        clear a1 a2 hk
        go_wp2_with fail
        exact ⟨⟨j + 1, by simp, by omega, by omega, by simp, A1.out, A2.out⟩, by simp only [intOf]; omega⟩
    · have hd := lss_nat' hlt
      have HQ := Lib.hid (quote_no (by omega) HD.out)
      go_wp2_with fail
      (
        have k2 := new_cell0 w (.int .i64 0) (.string ⟨([] : List UInt8).toArray⟩) 83
        have k3 := new_cell1 w (.int .i64 0) (.string ⟨([] : List UInt8).toArray⟩) 83
        refine bodyPost_ret (v := .tuple #[pcV ⟨0, []⟩, .int .i64 0]) (by simp [results, Tryz.results37, go_sem, pcV, k2, k3]) rfl ?_)
      rw [HQ.out]
      exact ⟨below_new _ _, rfl⟩

set_option maxRecDepth 100000 in
set_option maxHeartbeats 1000000 in
theorem rpiece_back (s : List UInt8) (i : Nat) (hi : i < s.length) (w : World) (hl : s.length ≤ 60) (h92 : s[i] = 92) : Calls Tryz.prog 37 #[.string ⟨s.toArray⟩, .int .i64 i] w (RPost (s.drop i) (backL (s.drop (i + 1))) w) := by
  have hx := get_B (List.getElem?_eq_getElem hi)
  generalize s[i] = c at *
  subst h92
  go_enter Tryz.func37, Tryz.ntmps37
  by_cases hlt : i + 1 < s.length
  · have hlt' : decide ((i : Int) + 1 < (s.length : Int)) = true := by simp; omega
    have HS := Lib.hid (List.drop_eq_getElem_cons hlt : s.drop (i + 1) = s[i + 1] :: s.drop (i + 1 + 1))
    have hsl := slice_B s (i := (i : Int) + 1) (j := (i : Int) + 2) (i + 1) (i + 2) (by simp) (by simp) (by omega) (by omega)
    have hp : (s.drop (i + 1)).take (i + 2 - (i + 1)) = [s[i + 1]] := by rw [HS.out, show i + 2 - (i + 1) = 1 by omega]; rfl
    rw [hp] at hsl
    clear hp
    generalize s[i + 1] = c at *
    go_wp2_with fail
    (
      have k2 := new_cell0 w (.int .i64 0) (.string ⟨([c] : List UInt8).toArray⟩) 83
      have k3 := new_cell1 w (.int .i64 0) (.string ⟨([c] : List UInt8).toArray⟩) 83
      refine bodyPost_ret (v := .tuple #[pcV ⟨0, [c]⟩, .int .i64 2]) (by simp [results, Tryz.results37, go_sem, pcV, k2, k3]) rfl ?_)
    rw [HS.out]
    refine ⟨below_new _ _, ?_⟩
    show _ = Ending.returned (.tuple #[_, .int .i64 (((s.drop i).length - (s.drop (i + 2)).length : Nat) : Int)])
    rw [show (s.drop i).length - (s.drop (i + 2)).length = 2 by simp; omega]
    rfl
  · have hlt' : decide ((i : Int) + 1 < (s.length : Int)) = false := by simp; omega
    have HS := Lib.hid (List.drop_of_length_le (by omega) : s.drop (i + 1) = [])
    go_wp2_with fail
    (
      have k2 := new_cell0 w (.int .i64 0) (.string ⟨([] : List UInt8).toArray⟩) 83
      have k3 := new_cell1 w (.int .i64 0) (.string ⟨([] : List UInt8).toArray⟩) 83
      refine bodyPost_ret (v := .tuple #[pcV ⟨0, []⟩, .int .i64 0]) (by simp [results, Tryz.results37, go_sem, pcV, k2, k3]) rfl ?_)
    rw [HS.out]
    exact ⟨below_new _ _, rfl⟩

structure RAt (s : List UInt8) (i : Nat) (c : UInt8) : Prop where
  lt : i < s.length
  at' : s[i]? = some c
  len : s.length ≤ 60
  n34 : c ≠ 34
  n92 : c ≠ 92
theorem RAt.take1 {s : List UInt8} {i : Nat} {c : UInt8} (h : RAt s i c) : (s.drop i).take (i + 1 - i) = [c] := by
  obtain ⟨h1, h2⟩ := List.getElem?_eq_some_iff.1 h.at'
  rw [List.drop_eq_getElem_cons h.lt, show i + 1 - i = 1 by omega, h2]; rfl
theorem RAt.cons {s : List UInt8} {i : Nat} {c : UInt8} (h : RAt s i c) : s.drop i = c :: s.drop (i + 1) := by
  obtain ⟨h1, h2⟩ := List.getElem?_eq_some_iff.1 h.at'
  rw [List.drop_eq_getElem_cons h.lt, h2]
theorem RPost.one {s : List UInt8} {i k : Nat} {p : Pc} {w w' : World} (hB : Below w.heap.size w w') (h : i + k ≤ s.length) : RPost (s.drop i) (some (p, s.drop (i + k))) w (.returned (.tuple #[pcV p, .int .i64 k])) w' := by
  refine ⟨hB, ?_⟩
  show _ = Ending.returned (.tuple #[_, .int .i64 (((s.drop i).length - (s.drop (i + k)).length : Nat) : Int)])
  rw [show (s.drop i).length - (s.drop (i + k)).length = k by simp; omega]

set_option maxRecDepth 100000 in
set_option maxHeartbeats 2000000 in
theorem rpiece_rest (s : List UInt8) (i : Nat) (c : UInt8) (w : World) (h : RAt s i c) : Calls Tryz.prog 37 #[.string ⟨s.toArray⟩, .int .i64 i] w (RPost (s.drop i) (nextR (c :: s.drop (i + 1))) w) := by
  have hx := get_B h.at'
  have hi := h.lt
  have hlen := h.len
  have t34 : ((c.toNat : Int) == 34) = false := ne_test h.n34
  have t92 : ((c.toNat : Int) == 92) = false := ne_test h.n92
  have HR : Hid (∀ x, x = (if wordSet.contains c = true then some (⟨0, [c]⟩, s.drop (i + 1))
    else if numSet.contains c = true then (if placeR (rowL numSet (s.drop i)) = true then some (⟨1, rowL numSet (s.drop i)⟩, cutL numSet (s.drop i)) else none)
    else if c = 37 then some (⟨4, [37]⟩, s.drop (i + 1))
    else if [121, 109, 100].contains c = true then (if daysR c (rowL [c] (s.drop i)).length = true then some (⟨2, rowL [c] (s.drop i)⟩, cutL [c] (s.drop i)) else none)
    else if c = 64 then some (⟨3, [64]⟩, s.drop (i + 1))
    else none : Option (Pc × List UInt8)) → nextR (c :: s.drop (i + 1)) = x) := by
    intro x hxx
    rw [hxx, nextR, if_neg h.n34, if_neg h.n92, h.cons]
  have HH := Lib.hid h; clear h
  go_enter Tryz.func37, Tryz.ntmps37
  go_wp2_with fail
  refine (rin_any c wordSet _ (by decide)).mono ?_
  rintro e w1 ⟨rfl, rfl⟩
  by_cases k1 : wordSet.contains c = true
  · have HX := Lib.hid (HR.out _ (by rw [if_pos k1])); clear HR
    rw [k1]
    have hsl := slice_B s (i := (i : Int)) (j := (i : Int) + 1) i (i + 1) rfl (by simp) (by omega) (by omega)
    rw [HH.out.take1] at hsl
    go_wp2_with fail
    (
      have k2 := new_cell0 w (.int .i64 0) (.string ⟨([c] : List UInt8).toArray⟩) 83
      have k3 := new_cell1 w (.int .i64 0) (.string ⟨([c] : List UInt8).toArray⟩) 83
      refine bodyPost_ret (v := .tuple #[pcV ⟨0, [c]⟩, .int .i64 1]) (by simp [results, Tryz.results37, go_sem, pcV, k2, k3]) rfl ?_)
    rw [HX.out]
    exact RPost.one (k := 1) (below_new _ _) (by omega)
  · have k1' : wordSet.contains c = false := by simpa using k1
    rw [k1']
    rw [k1'] at HR
    clear k1 k1'
    go_wp2_with fail
    refine (rin_any c numSet _ (by decide)).mono ?_
    rintro e w1 ⟨rfl, rfl⟩
    by_cases k2 : numSet.contains c = true
    · rw [k2]; rw [k2] at HR
      rw [if_neg (by simp), if_pos rfl] at HR
      go_wp2_with fail
      refine (rrow_any numSet s i _ (by omega) (by decide) (by omega)).mono ?_
      rintro e w1 ⟨rfl, rfl⟩
      have hrl := row_len numSet (s.drop i)
      have hct := drop_row numSet (s.drop i)
      have htk := take_row numSet (s.drop i)
      rw [List.drop_drop] at hct
      rw [List.length_drop] at hrl
      generalize rowL numSet (s.drop i) = p at *
      obtain ⟨n, hn⟩ : ∃ n, p.length = n := ⟨_, rfl⟩
      rw [hn] at hrl hct htk ⊢
      have hle : i + n ≤ s.length := by omega
      have hsl := slice_B s (i := (i : Int)) (j := (i : Int) + n) i (i + n) rfl (by simp) (by omega) hle
      rw [show i + n - i = n by omega, htk] at hsl
      have HC := Lib.hid hct
      clear hct htk hrl
      go_wp2_with fail
      refine (rplace_any p _ (by omega)).mono ?_
      rintro e w1 ⟨rfl, rfl⟩
      by_cases hpl : placeR p = true
      · have HX := Lib.hid (HR.out _ (by rw [if_pos hpl, ← HC.out])); clear HR
        rw [hpl]
        go_wp2_with fail
        (
          have k2 := new_cell0 w (.int .i64 1) (.string ⟨(p : List UInt8).toArray⟩) 83
          have k3 := new_cell1 w (.int .i64 1) (.string ⟨(p : List UInt8).toArray⟩) 83
          refine bodyPost_ret (v := .tuple #[pcV ⟨1, p⟩, .int .i64 (n : Int)]) (by simp [results, Tryz.results37, go_sem, pcV, k2, k3]) rfl ?_)
        rw [HX.out]
        exact RPost.one (k := n) (below_new _ _) hle
      · have hpl' : placeR p = false := by simpa using hpl
        have HX := Lib.hid (HR.out _ (by rw [if_neg hpl])); clear HR
        rw [hpl']
        clear hpl hpl'
        go_wp2_with fail
        (
          have k2 := new_cell0 w (.int .i64 0) (.string ⟨([] : List UInt8).toArray⟩) 83
          have k3 := new_cell1 w (.int .i64 0) (.string ⟨([] : List UInt8).toArray⟩) 83
          refine bodyPost_ret (v := .tuple #[pcV ⟨0, []⟩, .int .i64 0]) (by simp [results, Tryz.results37, go_sem, pcV, k2, k3]) rfl ?_)
        rw [HX.out]
        exact ⟨below_new _ _, rfl⟩
    · have k2' : numSet.contains c = false := by simpa using k2
      rw [k2']; rw [k2'] at HR
      clear k2 k2'
      by_cases h37 : c = 37
      · have t37 : ((c.toNat : Int) == 37) = true := by simp [h37]
        have HX := Lib.hid (HR.out _ (by rw [if_neg (by simp), if_neg (by simp), if_pos h37]))
        clear HR
        go_wp2_with fail
        (
          have k2 := new_cell0 w (.int .i64 4) (.string ⟨([37] : List UInt8).toArray⟩) 83
          have k3 := new_cell1 w (.int .i64 4) (.string ⟨([37] : List UInt8).toArray⟩) 83
          refine bodyPost_ret (v := .tuple #[pcV ⟨4, [37]⟩, .int .i64 1]) (by simp [results, Tryz.results37, go_sem, pcV, k2, k3]) rfl ?_)
        rw [HX.out]
        exact RPost.one (k := 1) (below_new _ _) (by omega)
      · have t37 : ((c.toNat : Int) == 37) = false := ne_test h37
        rw [if_neg h37] at HR
        clear h37
        go_wp2_with fail
        refine (rin_any c [121, 109, 100] _ (by decide)).mono ?_
        rintro e w1 ⟨rfl, rfl⟩
        by_cases k3 : [121, 109, 100].contains c = true
        · rw [k3]; rw [k3] at HR
          rw [if_neg (by simp), if_neg (by simp), if_pos rfl] at HR
          have hs1 := slice_B s (i := (i : Int)) (j := (i : Int) + 1) i (i + 1) rfl (by simp) (by omega) (by omega)
          rw [HH.out.take1] at hs1
          go_wp2_with fail
          refine (rrow_any [c] s i _ (by omega) (by simp) (by omega)).mono ?_
          rintro e w1 ⟨rfl, rfl⟩
          clear hs1
          have hrl := row_len [c] (s.drop i)
          have hct := drop_row [c] (s.drop i)
          have htk := take_row [c] (s.drop i)
          rw [List.drop_drop] at hct
          rw [List.length_drop] at hrl
          generalize rowL [c] (s.drop i) = p at *
          obtain ⟨n, hn⟩ : ∃ n, p.length = n := ⟨_, rfl⟩
          rw [hn] at hrl hct htk HR ⊢
          have hle : i + n ≤ s.length := by omega
          have hsl := slice_B s (i := (i : Int)) (j := (i : Int) + n) i (i + n) rfl (by simp) (by omega) hle
          rw [show i + n - i = n by omega, htk] at hsl
          have HC := Lib.hid hct
          clear hct htk hrl k3
          by_cases h121 : c = 121
          · have t121 : ((c.toNat : Int) == 121) = true := by simp [h121]
            subst h121
            by_cases hn24 : n = 2 ∨ n = 4
            · have HX := Lib.hid (HR.out _ (by rw [if_pos (by rcases hn24 with rfl | rfl <;> rfl), ← HC.out])); clear HR
              by_cases h2 : n = 2
              · have hn2 : ((n : Int) == 2) = true := by simp; omega
                have t0 : decide ((n : Int) ≤ 2) = true := by simp; omega
                clear hn24 h2
                go_wp2_with fail
                (
                  have k2 := new_cell0 w (.int .i64 2) (.string ⟨(p : List UInt8).toArray⟩) 83
                  have k3 := new_cell1 w (.int .i64 2) (.string ⟨(p : List UInt8).toArray⟩) 83
                  refine bodyPost_ret (v := .tuple #[pcV ⟨2, p⟩, .int .i64 (n : Int)]) (by simp [results, Tryz.results37, go_sem, pcV, k2, k3]) rfl ?_)
                rw [HX.out]
                exact RPost.one (k := n) (below_new _ _) hle
              · have hn2 : ((n : Int) == 2) = false := by simp; omega
                have hn4 : ((n : Int) == 4) = true := by simp; omega
                have t0 : decide ((n : Int) ≤ 2) = false := by simp; omega
                clear hn24 h2
                go_wp2_with fail
                (
                  have k2 := new_cell0 w (.int .i64 2) (.string ⟨(p : List UInt8).toArray⟩) 83
                  have k3 := new_cell1 w (.int .i64 2) (.string ⟨(p : List UInt8).toArray⟩) 83
                  refine bodyPost_ret (v := .tuple #[pcV ⟨2, p⟩, .int .i64 (n : Int)]) (by simp [results, Tryz.results37, go_sem, pcV, k2, k3]) rfl ?_)
                rw [HX.out]
                exact RPost.one (k := n) (below_new _ _) hle
            · have hn2 : ((n : Int) == 2) = false := by simp; omega
              have hn4 : ((n : Int) == 4) = false := by simp; omega
              have HX := Lib.hid (HR.out _ (by rw [if_neg (by unfold daysR; simp; omega)])); clear HR hn24
              by_cases hn0 : n ≤ 2
              · have t0 : decide ((n : Int) ≤ 2) = true := by simp; omega
                go_wp2_with fail
                (
                  have k2 := new_cell0 w (.int .i64 0) (.string ⟨([] : List UInt8).toArray⟩) 83
                  have k3 := new_cell1 w (.int .i64 0) (.string ⟨([] : List UInt8).toArray⟩) 83
                  refine bodyPost_ret (v := .tuple #[pcV ⟨0, []⟩, .int .i64 0]) (by simp [results, Tryz.results37, go_sem, pcV, k2, k3]) rfl ?_)
                rw [HX.out]
                exact ⟨below_new _ _, rfl⟩
              · have t0 : decide ((n : Int) ≤ 2) = false := by simp; omega
                go_wp2_with fail
                (
                  have k2 := new_cell0 w (.int .i64 0) (.string ⟨([] : List UInt8).toArray⟩) 83
                  have k3 := new_cell1 w (.int .i64 0) (.string ⟨([] : List UInt8).toArray⟩) 83
                  refine bodyPost_ret (v := .tuple #[pcV ⟨0, []⟩, .int .i64 0]) (by simp [results, Tryz.results37, go_sem, pcV, k2, k3]) rfl ?_)
                rw [HX.out]
                exact ⟨below_new _ _, rfl⟩
          · have t121 : ((c.toNat : Int) == 121) = false := ne_test h121
            have n121 : ¬ ((c.toNat : Int) = 121) := by simpa using t121
            by_cases hn0 : n ≤ 2
            · have t0 : decide ((n : Int) ≤ 2) = true := by simp; omega
              have HX := Lib.hid (HR.out _ (by rw [if_pos (by unfold daysR; simp [h121, hn0]), ← HC.out])); clear HR h121
              go_wp2_with fail
              (
                have k2 := new_cell0 w (.int .i64 2) (.string ⟨(p : List UInt8).toArray⟩) 83
                have k3 := new_cell1 w (.int .i64 2) (.string ⟨(p : List UInt8).toArray⟩) 83
                refine bodyPost_ret (v := .tuple #[pcV ⟨2, p⟩, .int .i64 (n : Int)]) (by simp [results, Tryz.results37, go_sem, pcV, k2, k3]) rfl ?_)
              rw [HX.out]
              exact RPost.one (k := n) (below_new _ _) hle
            · have t0 : decide ((n : Int) ≤ 2) = false := by simp; omega
              have HX := Lib.hid (HR.out _ (by rw [if_neg (by unfold daysR; simp [h121]; omega)])); clear HR h121
              go_wp2_with fail
              (
                have k2 := new_cell0 w (.int .i64 0) (.string ⟨([] : List UInt8).toArray⟩) 83
                have k3 := new_cell1 w (.int .i64 0) (.string ⟨([] : List UInt8).toArray⟩) 83
                refine bodyPost_ret (v := .tuple #[pcV ⟨0, []⟩, .int .i64 0]) (by simp [results, Tryz.results37, go_sem, pcV, k2, k3]) rfl ?_)
              rw [HX.out]
              exact ⟨below_new _ _, rfl⟩
        · have k3' : [121, 109, 100].contains c = false := by simpa using k3
          rw [k3']; rw [k3'] at HR
          clear k3 k3'
          by_cases h64 : c = 64
          · have t64 : ((c.toNat : Int) == 64) = true := by simp [h64]
            have HX := Lib.hid (HR.out _ (by rw [if_neg (by simp), if_neg (by simp), if_neg (by simp), if_pos h64]))
            clear HR
            go_wp2_with fail
            (
              have k2 := new_cell0 w (.int .i64 3) (.string ⟨([64] : List UInt8).toArray⟩) 83
              have k3 := new_cell1 w (.int .i64 3) (.string ⟨([64] : List UInt8).toArray⟩) 83
              refine bodyPost_ret (v := .tuple #[pcV ⟨3, [64]⟩, .int .i64 1]) (by simp [results, Tryz.results37, go_sem, pcV, k2, k3]) rfl ?_)
            rw [HX.out]
            exact RPost.one (k := 1) (below_new _ _) (by omega)
          · have t64 : ((c.toNat : Int) == 64) = false := ne_test h64
            have HX := Lib.hid (HR.out _ (by rw [if_neg (by simp), if_neg (by simp), if_neg (by simp), if_neg h64]))
            clear HR h64
            go_wp2_with fail
            (
              have k2 := new_cell0 w (.int .i64 0) (.string ⟨([] : List UInt8).toArray⟩) 83
              have k3 := new_cell1 w (.int .i64 0) (.string ⟨([] : List UInt8).toArray⟩) 83
              refine bodyPost_ret (v := .tuple #[pcV ⟨0, []⟩, .int .i64 0]) (by simp [results, Tryz.results37, go_sem, pcV, k2, k3]) rfl ?_)
            rw [HX.out]
            exact ⟨below_new _ _, rfl⟩
theorem rpiece_any (s : List UInt8) (i : Nat) (hi : i < s.length) (w : World) (hl : s.length ≤ 60) : Calls Tryz.prog 37 #[.string ⟨s.toArray⟩, .int .i64 i] w (RPost (s.drop i) (nextR (s.drop i)) w) := by
  rw [show nextR (s.drop i) = nextR (s[i] :: s.drop (i + 1)) by rw [← List.drop_eq_getElem_cons hi]]
  by_cases h34 : s[i] = 34
  · have e : nextR (s[i] :: s.drop (i + 1)) = (quoteL (s.drop (i + 1))).map fun q => (⟨0, q.1⟩, q.2) := by rw [nextR, if_pos h34]
    rw [e]; exact rpiece_quote s i hi w hl h34
  · by_cases h92 : s[i] = 92
    · have e : nextR (s[i] :: s.drop (i + 1)) = backL (s.drop (i + 1)) := by rw [nextR, if_neg h34, if_pos h92]
      rw [e]; exact rpiece_back s i hi w hl h92
    · exact rpiece_rest s i s[i] w ⟨hi, List.getElem?_eq_getElem hi, hl, h34, h92⟩
end Go.Proofs.YtpknbdgmpfhcnaaGreatDoor
