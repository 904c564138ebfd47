/- The plain law, second part: sections and the whole. -/
import Derived.Test.YtpknbdgmpfhcnaaGreatDoorCsH
namespace Go.Proofs.YtpknbdgmpfhcnaaGreatDoor
set_option linter.unusedVariables false
set_option linter.unusedSimpArgs false
open Go.RowKit

def piecesL : Nat → List UInt8 → Option (List Pc × List UInt8)
  | 0, _ => none
  | k + 1, q => if stopped q = true then some ([], q) else (nextL q).bind fun x => (piecesL k x.2).map fun y => (x.1 :: y.1, y.2)
def foldP {σ : Type} (step : σ → Pc → Option σ) : σ → List Pc → Option σ
  | st, [] => some st
  | st, p :: ps => (step st p).bind fun st' => foldP step st' ps
theorem runL_pieces {σ : Type} (step : σ → Pc → Option σ) : ∀ (k : Nat) (st : σ) (q : List UInt8), runL step k st q = (piecesL k q).bind fun y => (foldP step st y.1).map fun st' => (st', y.2)
  | 0, st, q => rfl
  | k + 1, st, q => by
    rw [runL, piecesL]
    split
    · rfl
    · cases hn : nextL q with
      | none => rfl
      | some x =>
        simp only [Option.bind_some]
        cases hs : step st x.1 with
        | none =>
          cases piecesL k x.2 with
          | none => rfl
          | some y => simp [foldP, hs]
        | some st1 =>
          simp only [Option.bind_some]
          rw [runL_pieces step k st1 x.2]
          cases piecesL k x.2 with
          | none => rfl
          | some y => simp [foldP, hs]
theorem piecesL_fuel : ∀ (k k' : Nat) (q : List UInt8), q.length < k → q.length < k' → piecesL k q = piecesL k' q
  | 0, _, q, h, _ => by omega
  | _, 0, q, _, h => by omega
  | k + 1, k' + 1, q, h, h' => by
    rw [piecesL, piecesL]
    split
    · rfl
    · cases q with
      | nil => rfl
      | cons c r =>
        cases hn : nextL (c :: r) with
        | none => rfl
        | some x =>
          obtain ⟨p, t⟩ := x
          have := nextL_lt c r p t hn
          simp only [Option.bind_some]
          rw [piecesL_fuel k k' t (by simp at *; omega) (by simp at *; omega)]
theorem piecesL_len : ∀ (k : Nat) (q : List UInt8) (ps : List Pc) (t : List UInt8), piecesL k q = some (ps, t) → t.length ≤ q.length ∧ stopped t = true
  | 0, q, ps, t, h => by cases h
  | k + 1, q, ps, t, h => by
    rw [piecesL] at h
    split at h
    · simp only [Option.some.injEq, Prod.mk.injEq] at h
      obtain ⟨_, rfl⟩ := h
      exact ⟨Nat.le_refl _, by assumption⟩
    · cases q with
      | nil => simp [stopped] at *
      | cons c r =>
        cases hn : nextL (c :: r) with
        | none => rw [hn] at h; cases h
        | some x =>
          obtain ⟨p, t'⟩ := x
          rw [hn] at h
          simp only [Option.bind_some] at h
          cases hp : piecesL k t' with
          | none => rw [hp] at h; cases h
          | some y =>
            rw [hp] at h
            simp only [Option.map_some, Option.some.injEq, Prod.mk.injEq] at h
            obtain ⟨_, rfl⟩ := h
            have h1 := nextL_lt c r p t' hn
            have h2 := piecesL_len k t' y.1 y.2 hp
            exact ⟨by omega, h2.2⟩
theorem readRL_fuel : ∀ (k k' : Nat) (done : List (List Pc)) (cur : List Pc) (q : List UInt8), q.length < k → q.length < k' → readRL k done cur q = readRL k' done cur q
  | 0, _, _, _, q, h, _ => by omega
  | _, 0, _, _, q, _, h => by omega
  | k + 1, k' + 1, done, cur, [], h, h' => rfl
  | k + 1, k' + 1, done, cur, c :: r, h, h' => by
    rw [readRL, readRL]
    split
    · exact readRL_fuel k k' _ _ _ (by simp at *; omega) (by simp at *; omega)
    · cases hn : nextR (c :: r) with
      | none => rfl
      | some x =>
        obtain ⟨p, t⟩ := x
        obtain ⟨n, h1, h2, rfl⟩ := nextR_drop hn
        simp only [Option.bind_some]
        refine readRL_fuel k k' _ _ _ ?_ ?_ <;> · simp only [List.length_drop] at *; omega
theorem readRL_done : ∀ (k : Nat) (done : List (List Pc)) (cur : List Pc) (q : List UInt8), readRL k done cur q = (readRL k [] cur q).map (done ++ ·)
  | 0, done, cur, q => by cases q <;> rfl
  | k + 1, done, cur, [] => by simp [readRL]
  | k + 1, done, cur, c :: r => by
    rw [readRL, readRL]
    split
    · rw [readRL_done k (done ++ [cur]), readRL_done k ([] ++ [cur])]
      cases readRL k [] [] r <;> simp
    · cases hn : nextR (c :: r) with
      | none => rfl
      | some x =>
        simp only [Option.bind_some]
        rw [readRL_done k done]
/-- The reference's reading, section by section. -/
def contR (done : List (List Pc)) (cur : List Pc) (y : List Pc × List UInt8) : Option (List (List Pc)) := match y.2 with
  | [] => some (done ++ [cur ++ y.1])
  | _ :: t => readRL (t.length + 1) (done ++ [cur ++ y.1]) [] t
theorem readRL_sec : ∀ (k : Nat) (done : List (List Pc)) (cur : List Pc) (q : List UInt8), q.length < k → q.length ≤ 60 → readRL k done cur q = (piecesL (q.length + 1) q).bind (contR done cur)
  | 0, _, _, q, h, _ => by omega
  | k + 1, done, cur, [], h, _ => by simp [readRL, piecesL, stopped, contR]
  | k + 1, done, cur, c :: r, h, hl => by
    rw [readRL, piecesL]
    by_cases hc : c = 59
    · subst hc
      rw [if_pos rfl, if_pos (by rfl)]
      simp only [Option.bind_some, contR, List.append_nil]
      exact readRL_fuel _ _ _ _ _ (by simp at h; omega) (by omega)
    · rw [if_neg hc, if_neg (by simpa [stopped] using hc), next_eq _ hl]
      cases hn : nextR (c :: r) with
      | none => rfl
      | some x =>
        obtain ⟨p, t⟩ := x
        obtain ⟨n, h1, h2, h3⟩ := nextR_drop hn
        have ht : t.length < (c :: r).length := by rw [h3, List.length_drop]; omega
        simp only [Option.bind_some]
        rw [readRL_sec k done (cur ++ [p]) t (by omega) (by omega), piecesL_fuel (c :: r).length (t.length + 1) t ht (by omega)]
        cases piecesL (t.length + 1) t with
        | none => rfl
        | some y =>
          obtain ⟨ps, u⟩ := y
          simp only [Option.bind_some, Option.map_some, contR]
          cases u <;> simp
/-- A section out of its pieces. -/
def secOf (ps : List Pc) : Option Sec := (foldP stepS ⟨0, [], 0, 0⟩ ps).bind fun st => if st.num ≤ 1 ∧ st.hundreds ≤ 2 ∧ (st.hundreds = 0 ∨ st.kind = 1) then some ⟨st.kind, st.ps, st.hundreds⟩ else none
theorem sectionL_eq (q : List UInt8) : sectionL q = (piecesL (q.length + 1) q).bind fun y => (secOf y.1).map fun s => (s, y.2) := by
  unfold sectionL secOf
  rw [runL_pieces]
  cases piecesL (q.length + 1) q with
  | none => rfl
  | some y =>
    simp only [Option.bind_some]
    cases foldP stepS ⟨0, [], 0, 0⟩ y.1 with
    | none => rfl
    | some st =>
      simp only [Option.map_some, Option.bind_some]
      split <;> rfl
def secsOf : List (List Pc) → Option (List Sec)
  | [] => some []
  | ps :: l => (secOf ps).bind fun s => (secsOf l).map (s :: ·)
def allP (q : List UInt8) : Option (List (List Pc)) := readRL (q.length + 1) [] [] q
theorem allP_sec (q : List UInt8) (hl : q.length ≤ 60) : allP q = (piecesL (q.length + 1) q).bind fun y => match y.2 with
      | [] => some [y.1]
      | _ :: t => (allP t).map (y.1 :: ·) := by
  unfold allP
  rw [readRL_sec _ _ _ _ (by omega) hl]
  cases piecesL (q.length + 1) q with
  | none => rfl
  | some y =>
    obtain ⟨ps, u⟩ := y
    simp only [Option.bind_some, contR]
    cases u with
    | nil => rfl
    | cons c t =>
      simp only [List.nil_append]
      rw [readRL_done]
      rfl
theorem contL_all : ∀ (n : Nat) (q : List UInt8) (k : Nat) (acc : List Sec), q.length ≤ n → q.length < k → q.length ≤ 60 →
    (sectionL q).bind (fun x => contL k (acc ++ [x.1]) x.2) = (allP q).bind fun l => (secsOf l).map (acc ++ ·) := by
  intro n
  induction n with
  | zero =>
    intro q k acc hn hk hl
    have : q = [] := by cases q with
      | nil => rfl
      | cons => simp at hn
    subst this
    obtain ⟨k, rfl⟩ : ∃ k', k = k' + 1 := ⟨k - 1, by omega⟩
    rw [sectionL_eq, allP_sec _ hl]
    simp only [List.length_nil, piecesL, stopped, if_true, Option.bind_some]
    cases hs : secOf [] with
    | none => simp [secsOf, hs]
    | some s => simp [contL, secsOf, hs]
  | succ n ih =>
    intro q k acc hn hk hl
    obtain ⟨k, rfl⟩ : ∃ k', k = k' + 1 := ⟨k - 1, by omega⟩
    rw [sectionL_eq, allP_sec _ hl]
    cases hp : piecesL (q.length + 1) q with
    | none => rfl
    | some y =>
      obtain ⟨ps, u⟩ := y
      have hlen := (piecesL_len _ _ _ _ hp).1
      simp only [Option.bind_some]
      cases u with
      | nil =>
        cases hs : secOf ps with
        | none => simp [secsOf, hs]
        | some s => simp [contL, secsOf, hs]
      | cons c t =>
        simp only [List.length_cons] at hlen
        cases hs : secOf ps with
        | none =>
          simp only [Option.map_none, Option.bind_none]
          cases allP t with
          | none => rfl
          | some l => simp [secsOf, hs]
        | some s =>
          simp only [Option.map_some, Option.bind_some, contL]
          rw [ih t k (acc ++ [s]) (by omega) (by omega) (by omega)]
          cases allP t with
          | none => rfl
          | some l =>
            simp only [Option.bind_some, Option.map_some, secsOf, hs]
            cases secsOf l with
            | none => rfl
            | some l' => simp
theorem contL_fuel : ∀ (k k' : Nat) (acc : List Sec) (q : List UInt8), q.length < k → q.length < k' → contL k acc q = contL k' acc q
  | 0, _, _, q, h, _ => by omega
  | _, 0, _, q, _, h => by omega
  | k + 1, k' + 1, acc, [], h, h' => rfl
  | k + 1, k' + 1, acc, c :: r, h, h' => by
    rw [contL, contL]
    cases hs : sectionL r with
    | none => rfl
    | some x =>
      have := sectionL_len r x.1 x.2 hs
      simp only [Option.bind_some]
      exact contL_fuel k k' _ _ (by simp at h; omega) (by simp at h'; omega)
theorem readL_eq (q : List UInt8) (hl : q.length ≤ 60) : readL q = match (allP q).bind secsOf with
    | none => (none, 5)
    | some l => if l.length ≤ 3 then (some l, 0) else (none, 5) := by
  unfold readL
  rw [if_neg (by omega)]
  have h := contL_all q.length q (q.length + 1) [] (Nat.le_refl _) (by omega) hl
  simp only [List.nil_append] at h
  have h2 : ((sectionL q).bind fun x => contL (x.2.length + 1) [x.1] x.2) = (allP q).bind secsOf := by
    have h3 : ((allP q).bind fun l => (secsOf l).map fun x => x) = (allP q).bind secsOf := by simp
    rw [← h3, ← h]
    cases hs : sectionL q with
    | none => rfl
    | some x =>
      have := sectionL_len q x.1 x.2 hs
      simp only [Option.bind_some]
      exact contL_fuel _ _ _ _ (by omega) (by omega)
  rw [h2]
  cases (allP q).bind secsOf <;> rfl

theorem cnt_append (k : Int) (l : List Pc) (p : Pc) : cnt k (l ++ [p]) = cnt k l + if p.kind = k then 1 else 0 := by
  unfold cnt
  rw [List.countP_append]
  simp [List.countP_cons]
theorem foldP_snoc {σ : Type} (step : σ → Pc → Option σ) (p : Pc) : ∀ (ps : List Pc) (st : σ), foldP step st (ps ++ [p]) = (foldP step st ps).bind fun st' => step st' p
  | [], st => by simp [foldP]
  | x :: ps, st => by
    simp only [List.cons_append, foldP]
    cases step st x with
    | none => rfl
    | some st1 => simp only [Option.bind_some]; exact foldP_snoc step p ps st1
def resSt (c1 c2 c3 c4 : Nat) (ps : List Pc) : Option St := if ks c1 c2 c3 3 ≤ 1 then some ⟨kd c1 c2 c3 3, ps, c4, c1⟩ else none
theorem resSt_step (c1 c2 c3 c4 : Nat) (ps : List Pc) (p : Pc) (hp : p.kind = 0 ∨ p.kind = 1 ∨ p.kind = 2 ∨ p.kind = 3 ∨ p.kind = 4) :
    (resSt c1 c2 c3 c4 ps).bind (fun st => stepS st p) = resSt (c1 + if p.kind = 1 then 1 else 0) (c2 + if p.kind = 2 then 1 else 0) (c3 + if p.kind = 3 then 1 else 0) (c4 + if p.kind = 4 then 1 else 0) (ps ++ [p]) := by
  rcases hp with hp | hp | hp | hp | hp <;> rcases c1 with _ | c1 <;> rcases c2 with _ | c2 <;> rcases c3 with _ | c3 <;> simp [resSt, stepS, ks, kd, hp]
theorem foldP_eq (ps : List Pc) (hk : Kinds ps) : foldP stepS ⟨0, [], 0, 0⟩ ps = resSt (cnt 1 ps) (cnt 2 ps) (cnt 3 ps) (cnt 4 ps) ps := by
  rw [← List.reverse_reverse ps] at hk ⊢
  generalize ps.reverse = l at *
  induction l with
  | nil => rfl
  | cons p l ih =>
    rw [List.reverse_cons] at hk ⊢
    rw [foldP_snoc, ih (fun x hx => hk x (by simp [hx])), resSt_step _ _ _ _ _ _ (hk p (by simp))]
    simp only [cnt_append]
theorem secOf_eq (ps : List Pc) (hk : Kinds ps) : secOf ps = if kindR ps < 0 then none else some ⟨kindR ps, ps, cnt 4 ps⟩ := by
  unfold secOf
  rw [foldP_eq ps hk]
  unfold kindR
  rw [kindOf_eq]
  generalize cnt 1 ps = c1
  generalize cnt 2 ps = c2
  generalize cnt 3 ps = c3
  generalize cnt 4 ps = c4
  unfold resSt
  have hnn : 0 ≤ kd c1 c2 c3 3 := by unfold kd; repeat' split <;> omega
  by_cases h1 : ks c1 c2 c3 3 ≤ 1
  · rw [if_pos h1, Option.bind_some]
    generalize kd c1 c2 c3 3 = k at *
    by_cases h2 : c1 ≤ 1 ∧ c4 ≤ 2 ∧ (c4 = 0 ∨ k = 1)
    · rw [if_pos (by simp; omega), if_neg (show ¬ (1 < ks c1 c2 c3 3 ∨ 1 < c1 ∨ 2 < c4 ∨ (0 < c4 ∧ k ≠ 1)) by omega), if_neg (by omega)]
    · rw [if_neg (by simp; omega), if_pos (show (1 < ks c1 c2 c3 3 ∨ 1 < c1 ∨ 2 < c4 ∨ (0 < c4 ∧ k ≠ 1)) by omega)]
      simp
  · rw [if_neg h1, if_pos (show (1 < ks c1 c2 c3 3 ∨ 1 < c1 ∨ 2 < c4 ∨ (0 < c4 ∧ kd c1 c2 c3 3 ≠ 1)) from .inl (by omega))]
    simp
theorem secsOf_eq : ∀ (l : List (List Pc)), (∀ ps ∈ l, Kinds ps) → secsOf l = if l.any (fun ps => decide (kindR ps < 0)) = true then none else some (l.map fun ps => ⟨kindR ps, ps, cnt 4 ps⟩)
  | [], _ => rfl
  | ps :: l, h => by
    rw [secsOf, secOf_eq ps (h ps (by simp)), secsOf_eq l (fun x hx => h x (by simp [hx])), List.any_cons]
    by_cases h1 : kindR ps < 0
    · simp [h1]
    · rw [if_neg h1]
      have : decide (kindR ps < 0) = false := by simpa using h1
      rw [this, Bool.false_or]
      split
      · simp_all
      · simp_all
/-- What the program reads and what the reference reads. -/
theorem read_same (q : List UInt8) : (readL q).2 = (readR q).2 ∧ plainL q = rplainOf (readR q).1 := by
  by_cases hl : 60 < q.length
  · unfold plainL readL readR
    rw [if_pos hl, if_pos hl]
    exact ⟨rfl, rfl⟩
  · have h1 := readL_eq q (by omega)
    have h2 : readR q = finO (allP q) := by unfold readR allP; rw [if_neg hl]
    unfold plainL
    rw [h1, h2]
    cases ha : allP q with
    | none => exact ⟨rfl, rfl⟩
    | some l =>
      have hk : ∀ ps ∈ l, Kinds ps := fun ps hps => (readRL_kinds _ _ _ _ _ q.length ha (by simp) ⟨by simp [Kinds], by simp⟩ ps hps).1
      simp only [Option.bind_some]
      rw [secsOf_eq l hk]
      unfold finO finR
      by_cases h3 : l.any (fun ps => decide (kindR ps < 0)) = true
      · rw [if_pos h3]
        simp only
        by_cases h4 : 3 < l.length
        · rw [if_pos h4]; exact ⟨rfl, rfl⟩
        · rw [if_neg h4, if_pos h3]; exact ⟨rfl, rfl⟩
      · rw [if_neg h3]
        simp only [List.length_map]
        by_cases h4 : 3 < l.length
        · rw [if_pos h4, if_neg (by omega)]; exact ⟨rfl, rfl⟩
        · rw [if_neg h4, if_pos (by omega), if_neg h3]
          refine ⟨rfl, ?_⟩
          simp [plainOf, rplainOf, List.all_map, Function.comp_def]
end Go.Proofs.YtpknbdgmpfhcnaaGreatDoor
