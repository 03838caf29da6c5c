/-
  PLAIN LAWS: a text's lines, and which of them are told.
-/
import Derived.Test.YtdneodlboggcnaaDoorLexMath
import Derived.Lib.Bytealg
namespace Go.Proofs.YtdneodlboggcnaaDoor
open Go Go.RowKit
/-- as if a line feed stood behind -/
def pl (a : List UInt8) : List (List UInt8) := prt (a ++ [10])
theorem prt_nl (t : List UInt8) : prt (10 :: t) = [] :: prt t := rfl
theorem prt_c {c : UInt8} (h : c ≠ 10) (t : List UInt8) : prt (c :: t) = hd1 c (prt t) := if_neg h
theorem pl_cons {c : UInt8} (h : c ≠ 10) (a : List UInt8) : pl (c :: a) = hd1 c (pl a) := by
  unfold pl
  rw [List.cons_append, prt_c h]
theorem pl_nl (a : List UInt8) : pl (10 :: a) = [] :: pl a := rfl
theorem pl_ne : ∀ (a : List UInt8), pl a ≠ []
  | [] => by simp [pl, prt]
  | c :: a => by
    by_cases h : c = 10
    · subst h; rw [pl_nl]; simp
    · rw [pl_cons h]
      cases pl a <;> simp [hd1]
theorem prt_join : ∀ (a b : List UInt8), prt (a ++ 10 :: b) = pl a ++ prt b
  | [], b => rfl
  | c :: a, b => by
    have ih := prt_join a b
    by_cases h : c = 10
    · subst h
      rw [List.cons_append, prt_nl, ih, pl_nl]; rfl
    · rw [List.cons_append, prt_c h, ih, pl_cons h]
      cases hp : pl a with
      | nil => exact absurd hp (pl_ne a)
      | cons p ps => rfl
theorem pl_len : ∀ (a : List UInt8), (pl a).length = (a.filter (· == 10)).length + 1
  | [] => rfl
  | c :: a => by
    have ih := pl_len a
    by_cases h : c = 10
    · subst h
      rw [pl_nl]
      simp [ih]
    · rw [pl_cons h]
      have hb : (c == 10) = false := beq_eq_false_iff_ne.2 h
      cases hp : pl a with
      | nil => exact absurd hp (pl_ne a)
      | cons p ps =>
        rw [hp] at ih
        simp [hb, hd1] at ih ⊢
        omega
theorem pl_prt : ∀ (a : List UInt8), pl a = prt a ∨ pl a = prt a ++ [[]]
  | [] => .inr rfl
  | c :: a => by
    by_cases h : c = 10
    · subst h
      rw [pl_nl, prt_nl]
      rcases pl_prt a with e | e
      · left; rw [e]
      · right; rw [e]; rfl
    · rw [pl_cons h, prt_c h]
      rcases pl_prt a with e | e
      · left; rw [e]
      · cases hp : prt a with
        | nil => left; rw [e, hp]; rfl
        | cons p ps => right; rw [e, hp]; rfl
theorem prt_count : ∀ (a : List UInt8), (prt a).length ≤ a.length
  | [] => by simp [prt]
  | c :: a => by
    have ih := prt_count a
    by_cases h : c = 10
    · subst h; rw [prt_nl]; simp; omega
    · rw [prt_c h]
      cases hp : prt a with
      | nil => simp [hd1]
      | cons p ps => rw [hp] at ih; simp [hd1] at ih ⊢; omega
theorem prt_mem_len : ∀ {l p : List UInt8}, p ∈ prt l → p.length ≤ l.length
  | [], p, h => by simp [prt] at h
  | c :: t, p, h => by
    by_cases hc : c = 10
    · subst hc
      rw [prt_nl] at h
      rcases List.mem_cons.1 h with rfl | h
      · simp
      · have := prt_mem_len h; simp; omega
    · rw [prt_c hc] at h
      cases hq : prt t with
      | nil =>
        rw [hq] at h
        have : p = [c] := by simpa [hd1] using h
        rw [this]; simp
      | cons q qs =>
        rw [hq] at h
        rcases List.mem_cons.1 (show p ∈ (c :: q) :: qs from h) with rfl | h
        · have := prt_mem_len (l := t) (p := q) (by rw [hq]; simp)
          simp; omega
        · have := prt_mem_len (l := t) (p := p) (by rw [hq]; simp [h])
          simp; omega
/-- a piece without a line feed, and one behind it -/
theorem prt_piece : ∀ (p t : List UInt8), (∀ c ∈ p, c ≠ 10) → prt (p ++ 10 :: t) = p :: prt t
  | [], t, _ => rfl
  | c :: p, t, h => by
    rw [List.cons_append, prt_c (h c (by simp)), prt_piece p t (fun c' hc => h c' (by simp [hc]))]; rfl
theorem prt_last : ∀ (p : List UInt8), (∀ c ∈ p, c ≠ 10) → prt p = if p = [] then [] else [p]
  | [], _ => rfl
  | c :: p, h => by
    rw [prt_c (h c (by simp)), prt_last p (fun c' hc => h c' (by simp [hc]))]
    by_cases hp : p = []
    · rw [if_pos hp]; simp [hp, hd1]
    · rw [if_neg hp]; simp [hd1]
/-- the lines with their line feeds -/
def prn : List UInt8 → List (List UInt8)
  | [] => []
  | c :: t => if c = 10 then [10] :: prn t else hd1 c (prn t)
theorem prn_c {c : UInt8} (h : c ≠ 10) (t : List UInt8) : prn (c :: t) = hd1 c (prn t) := if_neg h
theorem prn_nl (t : List UInt8) : prn (10 :: t) = [10] :: prn t := rfl
theorem prn_ne (c : UInt8) (t : List UInt8) : prn (c :: t) ≠ [] := by
  by_cases h : c = 10
  · subst h; rw [prn_nl]; simp
  · rw [prn_c h]; cases prn t <;> simp [hd1]
theorem prn_none : ∀ {l : List UInt8}, Lib.indexByte l 10 = -1 → l ≠ [] → prn l = [l]
  | [], _, h => absurd rfl h
  | b :: l, h, _ => by
    unfold Lib.indexByte at h
    have hg := Lib.indexByte_ge l 10
    by_cases hb : b = 10
    · rw [hb] at h; simp at h
    · have hb2 : (b == 10) = false := beq_eq_false_iff_ne.2 hb
      rw [hb2] at h
      by_cases h1 : Lib.indexByte l 10 = -1
      · rw [prn_c hb]
        cases l with
        | nil => rfl
        | cons d l => rw [prn_none h1 (by simp)]; rfl
      · have h2 : (Lib.indexByte l 10 == -1) = false := beq_eq_false_iff_ne.2 h1
        rw [h2] at h
        simp at h
        omega
theorem prn_some : ∀ {l : List UInt8} {i : Nat}, Lib.indexByte l 10 = (i : Int) → prn l = l.take (i + 1) :: prn (l.drop (i + 1)) ∧ i < l.length
  | [], i, h => by unfold Lib.indexByte at h; omega
  | b :: l, i, h => by
    unfold Lib.indexByte at h
    have hg := Lib.indexByte_ge l 10
    by_cases hb : b = 10
    · rw [hb] at h
      simp at h
      obtain rfl : i = 0 := by omega
      refine ⟨?_, by simp⟩
      rw [hb]
      rfl
    · have hb2 : (b == 10) = false := beq_eq_false_iff_ne.2 hb
      rw [hb2] at h
      by_cases h1 : Lib.indexByte l 10 = -1
      · rw [h1] at h; (simp at h <;> omega)
      · have h2 : (Lib.indexByte l 10 == -1) = false := beq_eq_false_iff_ne.2 h1
        rw [h2] at h
        simp at h
        obtain ⟨j, rfl⟩ : ∃ j, i = j + 1 := ⟨i - 1, by omega⟩
        obtain ⟨e1, e2⟩ := prn_some (l := l) (i := j) (by omega)
        refine ⟨?_, by simp; omega⟩
        rw [prn_c hb, e1]
        rfl
/-- what is left of a line without its line feed -/
def chop (p : List UInt8) : List UInt8 := Lib.trimSuffix p [10]
theorem chop_nl (p : List UInt8) : chop (p ++ [10]) = p := by
  have h : Lib.hasSuffix (p ++ [10]) [10] = true := by simp [Lib.hasSuffix]
  unfold chop Lib.trimSuffix
  rw [h]
  simp
theorem chop_no {p : List UInt8} (h : ∀ c ∈ p, c ≠ 10) : chop p = p := by
  unfold chop Lib.trimSuffix
  have : Lib.hasSuffix p [10] = false := by
    rcases List.eq_nil_or_concat p with rfl | ⟨q, c, rfl⟩
    · simp [Lib.hasSuffix]
    · have hc := h c (by simp)
      rw [Bool.eq_false_iff]
      intro he
      unfold Lib.hasSuffix at he
      rw [List.isSuffixOf_iff_suffix] at he
      obtain ⟨t, ht⟩ := he
      rw [List.concat_eq_append] at ht
      have := (List.append_inj' ht rfl).2
      exact hc (by simpa using this.symm)
  rw [this]
  simp
theorem prn_split : ∀ (l : List UInt8) (q : List UInt8) (qs : List (List UInt8)), prn l = q :: qs → ∃ p, (∀ c ∈ p, c ≠ 10) ∧ chop q = p ∧ ((q = p ++ [10] ∧ ∃ t, l = p ++ 10 :: t ∧ qs = prn t) ∨ (q = p ∧ p ≠ [] ∧ l = p ∧ qs = []))
  | [], q, qs, h => by simp [prn] at h
  | c :: t, q, qs, h => by
    by_cases hc : c = 10
    · subst hc
      rw [prn_nl] at h
      obtain ⟨rfl, rfl⟩ : [10] = q ∧ prn t = qs := by simpa using h
      exact ⟨[], by simp, chop_nl [], .inl ⟨rfl, t, rfl, rfl⟩⟩
    · rw [prn_c hc] at h
      cases hp : prn t with
      | nil =>
        rw [hp] at h
        obtain ⟨rfl, rfl⟩ : [c] = q ∧ [] = qs := by simpa [hd1] using h
        have ht : t = [] := by
          cases t with
          | nil => rfl
          | cons d t =>
            exact absurd hp (prn_ne d t)
        subst ht
        exact ⟨[c], by simpa using hc, chop_no (by simpa using hc), .inr ⟨rfl, by simp, rfl, rfl⟩⟩
      | cons r rs =>
        rw [hp] at h
        obtain ⟨rfl, rfl⟩ : c :: r = q ∧ rs = qs := by simpa [hd1] using h
        obtain ⟨p, h1, h2, h3⟩ := prn_split t r rs hp
        have hcp : ∀ c' ∈ c :: p, c' ≠ 10 := fun c' hc' => by
          rcases List.mem_cons.1 hc' with rfl | hc'
          · exact hc
          · exact h1 c' hc'
        rcases h3 with ⟨rfl, t', rfl, rfl⟩ | ⟨hr, _, ht, rfl⟩
        · exact ⟨c :: p, hcp, chop_nl (c :: p), .inl ⟨rfl, t', rfl, rfl⟩⟩
        · rw [hr, ht]
          exact ⟨c :: p, hcp, chop_no hcp, .inr ⟨rfl, by simp, rfl, rfl⟩⟩
theorem prn_prt : ∀ (n : Nat) (l : List UInt8), l.length < n → (prn l).map chop = prt l
  | 0, _, h => by omega
  | n + 1, l, h => by
    cases hp : prn l with
    | nil =>
      cases l with
      | nil => rfl
      | cons d t =>
        exact absurd hp (prn_ne d t)
    | cons q qs =>
      obtain ⟨p, h1, h2, h3⟩ := prn_split l q qs hp
      rcases h3 with ⟨rfl, t, rfl, rfl⟩ | ⟨rfl, h4, rfl, rfl⟩
      · rw [prt_piece p t h1, List.map_cons, h2, prn_prt n t (by simp at h; omega)]
      · rw [prt_last _ h1, if_neg h4]
        simp [h2]
/-- what lexer.Lines hands over: the line's number, its words, what is wrong with it -/
def its : Int → List (List UInt8) → List (Int × List (List UInt8) × Int)
  | _, [] => []
  | k, p :: ps => if (lexW p).1 ≠ 0 then [(k, (lexW p).2, (lexW p).1)] else if (lexW p).2 = [] then its (k + 1) ps else (k, (lexW p).2, 0) :: its (k + 1) ps
theorem lexW_err {p : List UInt8} (h : (lexW p).1 ≠ 0) : (lexW p).2 = [] := by
  unfold lexW at h ⊢
  split
  · rfl
  · split
    · rfl
    · split
      · rfl
      · rename_i h1 _ _ h2 h3
        rw [if_neg h1, h2] at h
        simp [h3] at h
/-- what is wrong with the last one that is told -/
def endE (xs : List (Int × List (List UInt8) × Int)) : Int := (xs.map (·.2.2)).getLastD 0
theorem endE_cons (x : Int × List (List UInt8) × Int) (xs : List (Int × List (List UInt8) × Int)) (h : x.2.2 = 0) : endE (x :: xs) = endE xs := by
  unfold endE
  cases xs with
  | nil => simp [h]
  | cons y ys => simp
theorem its_app : ∀ (k : Int) (xs ys : List (List UInt8)), its k (xs ++ ys) = if endE (its k xs) ≠ 0 then its k xs else its k xs ++ its (k + xs.length) ys
  | k, [], ys => by simp [its, endE]
  | k, p :: ps, ys => by
    have ih := its_app (k + 1) ps ys
    rw [List.cons_append]
    by_cases h1 : (lexW p).1 ≠ 0
    · have e : ∀ zs, its k (p :: zs) = [(k, (lexW p).2, (lexW p).1)] := fun zs => by unfold its; exact if_pos h1
      rw [e, e, if_pos (by simpa [endE] using h1)]
    · by_cases h2 : (lexW p).2 = []
      · have e : ∀ zs, its k (p :: zs) = its (k + 1) zs := fun zs => by
          conv => lhs; unfold its
          rw [if_neg h1, if_pos h2]
        rw [e, e, ih, List.length_cons, show k + 1 + (ps.length : Int) = k + ((ps.length + 1 : Nat) : Int) by omega]
      · have e : ∀ zs, its k (p :: zs) = (k, (lexW p).2, 0) :: its (k + 1) zs := fun zs => by
          conv => lhs; unfold its
          rw [if_neg h1, if_neg h2]
        rw [e, e, ih, endE_cons _ _ rfl, List.length_cons, show k + 1 + (ps.length : Int) = k + ((ps.length + 1 : Nat) : Int) by omega]
        split <;> rfl
theorem its_shift (d : Int) : ∀ (k : Int) (ps : List (List UInt8)), its (k + d) ps = (its k ps).map fun x => (x.1 + d, x.2)
  | k, [] => rfl
  | k, p :: ps => by
    have ih := its_shift d (k + 1) ps
    unfold its
    split
    · rfl
    · split
      · rw [← ih, show k + d + 1 = k + 1 + d by omega]
      · rw [List.map_cons, ← ih, show k + d + 1 = k + 1 + d by omega]
theorem lexW_nil : lexW [] = (0, []) := rfl
theorem its_pl (k : Int) (a : List UInt8) : its k (pl a) = its k (prt a) := by
  rcases pl_prt a with e | e
  · rw [e]
  · rw [e, its_app]
    split
    · rfl
    · simp [its, lexW_nil]
theorem its_parts (a b : List UInt8) : its 1 (prt (a ++ 10 :: b)) = if endE (its 1 (prt a)) ≠ 0 then its 1 (prt a) else its 1 (prt a) ++ (its 1 (prt b)).map fun x => (x.1 + (((a.filter (· == 10)).length + 1 : Nat) : Int), x.2) := by
  rw [prt_join, its_app, its_pl, pl_len, ← its_shift]
theorem its_len : ∀ (k : Int) (ps : List (List UInt8)), (its k ps).length ≤ ps.length
  | _, [] => by simp [its]
  | k, p :: ps => by
    have ih := its_len (k + 1) ps
    unfold its
    split
    · simp
    · split
      · simp; omega
      · simp; omega
end Go.Proofs.YtdneodlboggcnaaDoor
