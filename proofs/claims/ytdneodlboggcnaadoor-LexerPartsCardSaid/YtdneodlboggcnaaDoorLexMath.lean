/-
  PLAIN LAWS: which words a line has, as the program reads it (word by word) and as the document does (byte by byte); which lines a text has.
-/
import Derived.Test.YtdneodlboggcnaaDoorMem
namespace Go.Proofs.YtdneodlboggcnaaDoor
open Go Go.RowKit
/-- a gap -/
def gp (c : UInt8) : Bool := c == 32 || c == 9
/-- the word at the beginning of a text, and what is behind it; none: a quote has no end -/
def wd : Bool → List UInt8 → List UInt8 → Option (List UInt8 × List UInt8)
  | true, _, [] => none
  | true, a, c :: t => if c = 34 then wd false a t else wd true (a ++ [c]) t
  | false, a, [] => some (a, [])
  | false, a, c :: t => if gp c = true ∨ c = 35 then some (a, c :: t) else if c = 34 then wd true a t else wd false (a ++ [c]) t
theorem wd_len : ∀ {q : Bool} {a s w r : List UInt8}, wd q a s = some (w, r) → r.length ≤ s.length
  | true, _, [], _, _, h => by simp [wd] at h
  | true, a, c :: t, w, r, h => by
    unfold wd at h
    split at h
    · have := wd_len h; simp; omega
    · have := wd_len h; simp; omega
  | false, a, [], w, r, h => by
    obtain ⟨rfl, rfl⟩ : a = w ∧ [] = r := by simpa [wd] using h
    simp
  | false, a, c :: t, w, r, h => by
    unfold wd at h
    split at h
    · obtain ⟨rfl, rfl⟩ : a = w ∧ c :: t = r := by simpa using h
      simp
    · split at h
      · have := wd_len h; simp; omega
      · have := wd_len h; simp; omega
/-- a word's first byte is taken -/
theorem wd_lt {a s w r : List UInt8} {c : UInt8} (hc : ¬ (gp c = true ∨ c = 35)) (h : wd false a (c :: s) = some (w, r)) : r.length ≤ s.length := by
  unfold wd at h
  rw [if_neg hc] at h
  split at h
  · exact wd_len h
  · exact wd_len h
/-- a line's words, by fuel; the flag: whole -/
def wdsF : Nat → List UInt8 → List (List UInt8 × Bool)
  | 0, _ => []
  | n + 1, s => match s.dropWhile gp with
    | [] => []
    | c :: t => if c = 35 then [] else match wd false [] (c :: t) with
      | none => [([], false)]
      | some (w, r) => (w, true) :: wdsF n r
def wds (s : List UInt8) : List (List UInt8 × Bool) := wdsF (s.length + 1) s
theorem dropWhile_len {α : Type} (p : α → Bool) : ∀ (l : List α), (l.dropWhile p).length ≤ l.length
  | [] => by simp
  | a :: l => by
    rw [List.dropWhile_cons]
    split
    · have := dropWhile_len p l; simp; omega
    · simp
theorem dropWhile_head {α : Type} (p : α → Bool) : ∀ {l : List α} {c : α} {t : List α}, l.dropWhile p = c :: t → p c = false
  | [], c, t, h => by simp at h
  | a :: l, c, t, h => by
    rw [List.dropWhile_cons] at h
    split at h
    · exact dropWhile_head p h
    · rename_i hp
      obtain ⟨rfl, rfl⟩ : a = c ∧ l = t := by simpa using h
      simpa using hp
theorem wdsF_fuel : ∀ (n m : Nat) (s : List UInt8), s.length < n → s.length < m → wdsF n s = wdsF m s
  | 0, _, s, h, _ => by omega
  | _, 0, s, _, h => by omega
  | n + 1, m + 1, s, h, h' => by
    unfold wdsF
    have hl := dropWhile_len gp s
    cases hd : s.dropWhile gp with
    | nil => rfl
    | cons c t =>
      have hg := dropWhile_head gp hd
      rw [hd] at hl
      simp only
      split
      · rfl
      · rename_i h35
        cases hw : wd false [] (c :: t) with
        | none => rfl
        | some p =>
          obtain ⟨w, r⟩ := p
          have := wd_lt (by rw [hg]; simp [h35]) hw
          simp at hl
          simp only
          rw [wdsF_fuel n m r (by omega) (by omega)]
theorem wds_stop {s : List UInt8} (h : s.dropWhile gp = [] ∨ ∃ t, s.dropWhile gp = 35 :: t) : wds s = [] := by
  unfold wds wdsF
  rcases h with h | ⟨t, h⟩
  · rw [h]
  · rw [h]; simp
theorem wds_none {s t : List UInt8} {c : UInt8} (h : s.dropWhile gp = c :: t) (hc : c ≠ 35) (hw : wd false [] (c :: t) = none) : wds s = [([], false)] := by
  unfold wds wdsF
  rw [h]
  simp only
  rw [if_neg hc, hw]
theorem wds_some {s t w r : List UInt8} {c : UInt8} (h : s.dropWhile gp = c :: t) (hc : c ≠ 35) (hw : wd false [] (c :: t) = some (w, r)) : wds s = (w, true) :: wds r ∧ r.length < s.length := by
  have hl := dropWhile_len gp s
  rw [h] at hl
  have hr := wd_lt (by rw [dropWhile_head gp h]; simp [hc]) hw
  simp at hl
  refine ⟨?_, by omega⟩
  unfold wds
  conv => lhs; unfold wdsF
  rw [h]
  simp only
  rw [if_neg hc, hw]
  simp only
  rw [wdsF_fuel s.length (r.length + 1) r (by omega) (by omega)]
/-- all words, if the last one is whole -/
def lx (s : List UInt8) : Option (List (List UInt8)) := if (wds s).all (·.2) then some ((wds s).map (·.1)) else none
/-- a byte that no line has -/
def nob (c : UInt8) : Bool := c == 0 || c == 10 || c == 13
/-- a line's words, or what is wrong with it -/
def lexW (s : List UInt8) : Int × List (List UInt8) := if s.any nob then (12, []) else match lx s with
  | none => (12, [])
  | some ws => if 32 < ws.length then (14, []) else (0, ws)
/-- the document's reading -/
def addLast (out : List (List UInt8)) (c : UInt8) : List (List UInt8) := out.dropLast ++ [out.getLastD [] ++ [c]]
def rs : Bool → Bool → List (List UInt8) → List UInt8 → List (List UInt8) × Bool
  | q, _, out, [] => (out, q)
  | true, i, out, c :: t => if c = 34 then rs false i out t else rs true i (addLast out c) t
  | false, i, out, c :: t => if c = 35 then (out, false) else if gp c = true then rs false false out t else
    if c = 34 then rs true true (if i then out else out ++ [[]]) t else rs false true (addLast (if i then out else out ++ [[]]) c) t
theorem addLast_snoc (out : List (List UInt8)) (a : List UInt8) (c : UInt8) : addLast (out ++ [a]) c = out ++ [a ++ [c]] := by simp [addLast]
theorem rs_t (i : Bool) (out : List (List UInt8)) (c : UInt8) (t : List UInt8) : rs true i out (c :: t) = if c = 34 then rs false i out t else rs true i (addLast out c) t := rfl
theorem rs_wd : ∀ (q : Bool) (out : List (List UInt8)) (a s : List UInt8), rs q true (out ++ [a]) s = match wd q a s with
    | none => ((rs q true (out ++ [a]) s).1, true)
    | some (w, r) => rs false true (out ++ [w]) r
  | true, out, a, [] => by simp [rs, wd]
  | true, out, a, c :: t => by
    rw [rs_t, addLast_snoc]
    unfold wd
    split
    · exact rs_wd false out a t
    · exact rs_wd true out (a ++ [c]) t
  | false, out, a, [] => by simp [rs, wd]
  | false, out, a, c :: t => by
    by_cases h : gp c = true ∨ c = 35
    · have e : wd false a (c :: t) = some (a, c :: t) := by unfold wd; exact if_pos h
      rw [e]
    · have h1 : ¬ c = 35 := fun e => h (.inr e)
      have h2 : ¬ gp c = true := fun e => h (.inl e)
      have e : rs false true (out ++ [a]) (c :: t) = if c = 34 then rs true true (out ++ [a]) t else rs false true (out ++ [a ++ [c]]) t := by
        conv => lhs; unfold rs
        rw [if_neg h1, if_neg h2, if_pos rfl, addLast_snoc]
      rw [e]
      have e2 : wd false a (c :: t) = if c = 34 then wd true a t else wd false (a ++ [c]) t := by
        conv => lhs; unfold wd
        rw [if_neg h]
      rw [e2]
      split
      · exact rs_wd true out a t
      · exact rs_wd false out (a ++ [c]) t
/-- behind a word, as if no word stood ahead: the next byte is a gap, a comment, or none -/
theorem rs_in (out : List (List UInt8)) : ∀ {s : List UInt8}, (∀ c t, s = c :: t → gp c = true ∨ c = 35) → rs false true out s = rs false false out s
  | [], _ => rfl
  | c :: t, h => by
    unfold rs
    rcases h c t rfl with h | h
    · rw [h]; simp
    · simp [h]
theorem wd_rest : ∀ {q : Bool} {a s w r : List UInt8}, wd q a s = some (w, r) → ∀ c t, r = c :: t → gp c = true ∨ c = 35
  | true, _, [], _, _, h => by simp [wd] at h
  | true, a, c :: t, w, r, h => by
    unfold wd at h
    split at h <;> exact wd_rest h
  | false, a, [], w, r, h => by
    obtain ⟨rfl, rfl⟩ : a = w ∧ [] = r := by simpa [wd] using h
    intro c t h; cases h
  | false, a, c :: t, w, r, h => by
    unfold wd at h
    split at h
    · rename_i hc
      obtain ⟨rfl, rfl⟩ : a = w ∧ c :: t = r := by simpa using h
      intro c' t' e
      obtain ⟨rfl, rfl⟩ : c = c' ∧ t = t' := by simpa using e
      exact hc
    · split at h <;> exact wd_rest h
theorem rs_gaps (out : List (List UInt8)) : ∀ (s : List UInt8), rs false false out s = rs false false out (s.dropWhile gp)
  | [] => rfl
  | c :: t => by
    rw [List.dropWhile_cons]
    split
    · rename_i h
      have h35 : ¬ c = 35 := by rintro rfl; simp [gp] at h
      conv => lhs; unfold rs
      rw [if_neg h35, if_pos h]
      exact rs_gaps out t
    · rfl
theorem rs_wds : ∀ (n : Nat) (s : List UInt8) (out : List (List UInt8)), s.length < n → rs false false out s = if (wds s).all (·.2) then (out ++ (wds s).map (·.1), false) else ((rs false false out s).1, true)
  | 0, s, _, h => by omega
  | n + 1, s, out, h => by
    cases hd : s.dropWhile gp with
    | nil =>
      rw [wds_stop (.inl hd), rs_gaps, hd]
      simp [rs]
    | cons c t =>
      by_cases h35 : c = 35
      · subst h35
        rw [wds_stop (.inr ⟨t, hd⟩), rs_gaps, hd]
        simp [rs]
      · have hg := dropWhile_head gp hd
        have hb : ¬ (gp c = true ∨ c = 35) := by rw [hg]; simp [h35]
        have h0 : rs false false out (c :: t) = rs false true (out ++ [[]]) (c :: t) := by
          conv => lhs; unfold rs
          conv => rhs; unfold rs
          rw [if_neg h35, if_neg h35, hg]
          simp
        have h1 := rs_wd false out [] (c :: t)
        cases hw : wd false [] (c :: t) with
        | none =>
          rw [wds_none hd h35 hw, rs_gaps, hd, h0, h1, hw]
          simp
        | some p =>
          obtain ⟨w, r⟩ := p
          obtain ⟨e1, e2⟩ := wds_some hd h35 hw
          rw [hw] at h1
          simp only at h1
          rw [rs_in _ (wd_rest hw)] at h1
          have ih := rs_wds n r (out ++ [w]) (by omega)
          rw [e1, rs_gaps, hd, h0, h1]
          rw [ih]
          simp only [List.all_cons, Bool.true_and, List.map_cons, List.append_assoc, List.singleton_append]
          split <;> rfl
theorem rs_lx (s : List UInt8) : lx s = if (rs false false [] s).2 then none else some (rs false false [] s).1 := by
  have h := rs_wds (s.length + 1) s [] (by omega)
  unfold lx
  split
  · rename_i ha
    rw [if_pos ha] at h
    rw [h]; simp
  · rename_i ha
    rw [if_neg ha] at h
    rw [h]; simp
/-- a byte ahead of the first line -/
def hd1 (c : UInt8) : List (List UInt8) → List (List UInt8)
  | [] => [[c]]
  | p :: ps => (c :: p) :: ps
/-- a text's lines -/
def prt : List UInt8 → List (List UInt8)
  | [] => []
  | c :: t => if c = 10 then [] :: prt t else hd1 c (prt t)
end Go.Proofs.YtdneodlboggcnaaDoor
