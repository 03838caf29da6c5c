/-
  PLAIN LAWS on formats: no program in sight.
-/
import Derived.Lib.IndexMore
import Derived.Lib.IndexLaws
import Derived.Lib.Replace
import Derived.Lib.CountLaws
import Derived.Lib.SlTrimSet
import Derived.Lib.IndexBytes
import Derived.Test.YtakpbgjmblbaiaaDoorProg
namespace AbbM
open Go

/-- the bytes that stand for themselves -/
def LT : List UInt8 := [97, 98, 99, 100, 101, 102, 103, 104, 105, 106, 107, 108, 109, 110, 111, 112, 113, 114, 115, 116, 117, 118, 119, 120, 121, 122, 65, 66, 67, 68, 69, 70, 71, 72, 73, 74, 75, 76, 77, 78, 79, 80, 81, 82, 83, 84, 85, 86, 87, 88, 89, 90, 48, 49, 50, 51, 52, 53, 54, 55, 56, 57, 43, 45]
def ltr (b : UInt8) : Bool := LT.contains b
def inL (n : Nat) : Bool := decide (97 ≤ n ∧ n ≤ 122 ∨ 65 ≤ n ∧ n ≤ 90 ∨ 48 ≤ n ∧ n ≤ 57 ∨ n = 43 ∨ n = 45)
theorem ltr_eq (b : UInt8) : ltr b = inL b.toNat := by
  have h : ((List.range 256).all fun n => LT.contains (UInt8.ofNat n) == inL n) = true := by decide +kernel
  have := List.all_eq_true.1 h b.toNat (List.mem_range.2 b.toNat_lt)
  unfold ltr
  simpa using this
/-- which kind a format is, and where what is not a letter stands -/
def kindOf (l : List UInt8) : Int × Nat :=
  if l.length = 0 ∨ 64 < l.length then (-1, 0) else
  match l.dropWhile ltr with
  | [] => (0, 0)
  | c :: t => if t.all ltr then (if c = 47 ∧ l.takeWhile ltr ≠ [] ∧ t ≠ [] then (3, (l.takeWhile ltr).length) else if c = 37 ∧ t.head? = some 115 then (1, (l.takeWhile ltr).length) else if c = 37 ∧ t.head? = some 122 then (2, (l.takeWhile ltr).length) else (-1, 0)) else (-1, 0)
theorem tw_all (p : UInt8 → Bool) : ∀ l : List UInt8, (l.takeWhile p).all p = true
  | [] => rfl
  | b :: l => by
    by_cases h : p b = true
    · rw [List.takeWhile_cons_of_pos h, List.all_cons, h, tw_all p l]; rfl
    · rw [List.takeWhile_cons_of_neg h]; rfl
theorem trimS_nil (l : List UInt8) : Lib.trimS l LT = [] ↔ l.all ltr = true := by
  unfold Lib.trimS Lib.trimLeftS Lib.trimRightS
  constructor
  · intro h
    have h2 : ∀ (m : List UInt8), m.dropWhile (LT.contains ·) = [] → m.all ltr = true := by
      intro m hm
      induction m with
      | nil => rfl
      | cons b m ih =>
        by_cases hb : LT.contains b = true
        · rw [List.dropWhile_cons_of_pos hb] at hm
          rw [List.all_cons, ih hm, Bool.and_true]
          exact hb
        · rw [List.dropWhile_cons_of_neg hb] at hm
          cases hm
    have h3 := h2 _ h
    have h4 : (l.reverse.dropWhile (LT.contains ·)).all ltr = true := by
      rw [List.all_eq_true] at h3 ⊢
      intro x hx
      exact h3 x (List.mem_reverse.2 hx)
    have h5 : l.reverse.all ltr = true := by
      rw [← List.takeWhile_append_dropWhile (p := (LT.contains ·)) (l := l.reverse), List.all_append, h4, Bool.and_true]
      exact tw_all ltr _
    rw [List.all_eq_true] at h5 ⊢
    intro x hx
    exact h5 x (List.mem_reverse.2 hx)
  · intro h
    have h2 : ∀ (m : List UInt8), m.all ltr = true → m.dropWhile (LT.contains ·) = [] := by
      intro m hm
      induction m with
      | nil => rfl
      | cons b m ih =>
        rw [List.all_cons, Bool.and_eq_true] at hm
        rw [List.dropWhile_cons_of_pos (show (fun x => LT.contains x) b = true from hm.1)]
        exact ih hm.2
    rw [h2 l.reverse (by rw [List.all_eq_true] at h ⊢; intro x hx; exact h x (List.mem_reverse.1 hx))]
    rfl
/-- how many are no letters -/
def nl (l : List UInt8) : Nat := l.countP fun b => !ltr b
theorem nl_app (a b : List UInt8) : nl (a ++ b) = nl a + nl b := List.countP_append
theorem nl_all (l : List UInt8) : l.all ltr = true ↔ nl l = 0 := by
  unfold nl
  rw [List.countP_eq_zero, List.all_eq_true]
  simp
/-- a format's parts: letters, and what begins with another byte -/
theorem parts (l : List UInt8) : l.all ltr = true ∧ l.dropWhile ltr = [] ∨ ∃ c t, l.dropWhile ltr = c :: t ∧ ltr c = false ∧ l = l.takeWhile ltr ++ c :: t ∧ (l.takeWhile ltr).all ltr = true := by
  have hs := List.takeWhile_append_dropWhile (p := ltr) (l := l)
  have ha := tw_all ltr l
  cases h : l.dropWhile ltr with
  | nil =>
    rw [h, List.append_nil] at hs
    exact .inl ⟨by rw [← hs]; exact ha, rfl⟩
  | cons c t =>
    refine .inr ⟨c, t, rfl, ?_, by rw [h] at hs; exact hs.symm, ha⟩
    have := List.head_dropWhile_not ltr (l := l) (by rw [h]; simp)
    simpa [h] using this
section
variable {a t xs : List UInt8} {c x : UInt8}
theorem occ_here (ha : a.all ltr = true) (hx : ltr x = false) (h : (x :: xs).isPrefixOf (c :: t) = true) : Lib.index (a ++ c :: t) (x :: xs) = (a.length : Int) := by
  refine Lib.index_first (by simp) (by simpa [Lib.occAt] using h) fun j hj => ?_
  unfold Lib.occAt
  rw [List.drop_append_of_le_length (by omega), List.drop_eq_getElem_cons hj]
  have : ltr a[j] = true := List.all_eq_true.1 ha _ (List.getElem_mem hj)
  have hne : (x == a[j]) = false := by
    rw [beq_eq_false_iff_ne]
    rintro rfl
    rw [hx] at this
    cases this
  show ((x == a[j]) && xs.isPrefixOf (List.drop (j + 1) a ++ c :: t)) = false
  rw [hne, Bool.false_and]
theorem occ_only (ha : a.all ltr = true) (ht : t.all ltr = true) (hx : ltr x = false) (h : Lib.contains (a ++ c :: t) (x :: xs) = true) : (x :: xs).isPrefixOf (c :: t) = true := by
  have h0 : 0 ≤ Lib.index (a ++ c :: t) (x :: xs) := of_decide_eq_true h
  rcases Lib.index_spec (a ++ c :: t) (x :: xs) with ⟨h1, _⟩ | ⟨i, h1, h2, h3, _⟩
  · omega
  · unfold Lib.occAt at h3
    have hi : i < (a ++ c :: t).length := by
      refine Classical.byContradiction fun hn => ?_
      rw [List.drop_eq_nil_of_le (by omega)] at h3
      simp at h3
    have hx' : (a ++ c :: t)[i] = x := by
      rw [List.drop_eq_getElem_cons hi] at h3
      simp only [List.isPrefixOf, Bool.and_eq_true, beq_iff_eq] at h3
      exact h3.1.symm
    have hia : i = a.length := by
      refine Classical.byContradiction fun hn => ?_
      by_cases hlt : i < a.length
      · rw [List.getElem_append_left hlt] at hx'
        have := List.all_eq_true.1 ha _ (List.getElem_mem hlt)
        rw [hx', hx] at this; cases this
      · rw [List.getElem_append_right (by omega)] at hx'
        obtain ⟨k, hk⟩ : ∃ k, i - a.length = k + 1 := ⟨i - a.length - 1, by omega⟩
        simp only [hk, List.getElem_cons_succ] at hx'
        have hk2 : k < t.length := by simp at hi; omega
        have := List.all_eq_true.1 ht _ (List.getElem_mem hk2)
        rw [hx', hx] at this; cases this
    subst hia
    simpa using h3
end
/-- one instance taken out -/
theorem rep_one {l sub new : List UInt8} {i : Nat} (hs : sub ≠ []) (hne : sub ≠ new) (h : Lib.index l sub = i) : Lib.replace l sub new 1 = l.take i ++ new ++ l.drop (i + sub.length) := by
  unfold Lib.replace
  rw [if_neg (by simpa using hne)]
  have hc := Lib.count_hit hs h
  have : Lib.replaceNum l sub 1 = 0 + 1 := by
    unfold Lib.replaceNum
    rw [if_neg (by omega)]
    rfl
  rw [this, Lib.replaceK_hit _ _ _ _ _ h]
  rfl
theorem rep_nl {l sub : List UInt8} (hs : sub ≠ []) (h : Lib.contains l sub = true) : nl l = nl (Lib.replace l sub [] 1) + nl sub := by
  have h0 : 0 ≤ Lib.index l sub := of_decide_eq_true h
  rcases Lib.index_spec l sub with ⟨h1, _⟩ | ⟨i, h1, h2, h3, _⟩
  · omega
  · rw [rep_one hs hs h1, List.append_nil, nl_app]
    unfold Lib.occAt at h3
    obtain ⟨r, hr⟩ := List.isPrefixOf_iff_prefix.1 h3
    have hl : l = l.take i ++ (sub ++ r) := by rw [hr]; simp
    have hd : l.drop (i + sub.length) = r := by
      rw [← List.drop_drop, ← hr, List.drop_left]
    rw [hd]
    conv => lhs; rw [hl]
    rw [nl_app, nl_app]
    omega
/-- what the program asks, mark by mark -/
theorem kind_none (l : List UInt8) (h : l.length = 0 ∨ 64 < l.length) : kindOf l = (-1, 0) := by unfold kindOf; rw [if_pos h]
theorem kind_split {l : List UInt8} {c : UInt8} {t : List UInt8} (h0 : ¬ (l.length = 0 ∨ 64 < l.length)) (hd : l.dropWhile ltr = c :: t) : kindOf l =
    if t.all ltr then (if c = 47 ∧ l.takeWhile ltr ≠ [] ∧ t ≠ [] then (3, (l.takeWhile ltr).length) else if c = 37 ∧ t.head? = some 115 then (1, (l.takeWhile ltr).length) else if c = 37 ∧ t.head? = some 122 then (2, (l.takeWhile ltr).length) else (-1, 0)) else (-1, 0) := by
  unfold kindOf; rw [if_neg h0, hd]
theorem nl_parts {l : List UInt8} {c : UInt8} {t : List UInt8} (ha : (l.takeWhile ltr).all ltr = true) (hc : ltr c = false) (hl : l = l.takeWhile ltr ++ c :: t) : nl l = 1 + nl t := by
  conv => lhs; rw [hl]
  rw [nl_app, (nl_all _).1 ha]
  unfold nl
  rw [List.countP_cons_of_pos (by simpa using hc)]
  omega
theorem kind_mark {l : List UInt8} {y : UInt8} (k : Int) (hy : y = 115 ∧ k = 1 ∨ y = 122 ∧ k = 2) (hcon : Lib.contains l [37, y] = true) (hlen : ¬ (l.length = 0 ∨ 64 < l.length)) :
    (Lib.trimS (Lib.replace l [37, y] [] 1) LT = [] ∧ kindOf l = (k, (Lib.index l [37, y]).toNat)) ∨ (Lib.trimS (Lib.replace l [37, y] [] 1) LT ≠ [] ∧ kindOf l = (-1, 0)) := by
  have hy' : ltr y = true := by rcases hy with ⟨rfl, _⟩ | ⟨rfl, _⟩ <;> decide
  have hn : nl [37, y] = 1 := by rcases hy with ⟨rfl, _⟩ | ⟨rfl, _⟩ <;> decide
  have hr := rep_nl (by simp) hcon
  rw [hn] at hr
  rcases parts l with ⟨h1, _⟩ | ⟨c, t, hd, hc, hl, ha⟩
  · have := (nl_all l).1 h1; omega
  · have hp := nl_parts ha hc hl
    rw [kind_split hlen hd]; simp only [ne_eq, trimS_nil, nl_all (Lib.replace l [37, y] [] 1)]
    by_cases ht : t.all ltr = true
    · have h0 := (nl_all t).1 ht
      have ho := occ_only (a := l.takeWhile ltr) (c := c) ha ht (show ltr 37 = false by decide) (by rw [← hl]; exact hcon)
      have hi := occ_here (a := l.takeWhile ltr) (c := c) ha (show ltr 37 = false by decide) ho
      rw [← hl] at hi
      simp only [List.isPrefixOf, Bool.and_eq_true, beq_iff_eq] at ho
      obtain ⟨rfl, ho⟩ := ho
      refine .inl ⟨by omega, ?_⟩
      rw [if_pos ht, hi]
      cases t with
      | nil => simp at ho
      | cons z t =>
        simp at ho
        subst ho
        rcases hy with ⟨rfl, rfl⟩ | ⟨rfl, rfl⟩ <;> simp
    · refine .inr ⟨?_, by rw [if_neg ht]⟩
      have : nl t ≠ 0 := fun h => ht ((nl_all t).2 h)
      omega
theorem kind_slash {l : List UInt8} (hs : Lib.contains l [37, 115] = false) (hz : Lib.contains l [37, 122] = false) (hcon : Lib.contains l [47] = true) (hlen : ¬ (l.length = 0 ∨ 64 < l.length)) :
    ((l.head? ≠ some 47 ∧ l.getLast? ≠ some 47) ∧ Lib.trimS (Lib.replace l [47] [] 1) LT = [] ∧ kindOf l = (3, (Lib.index l [47]).toNat)) ∨ ((l.head? = some 47 ∨ l.getLast? = some 47 ∨ Lib.trimS (Lib.replace l [47] [] 1) LT ≠ []) ∧ kindOf l = (-1, 0)) := by
  have hn : nl [47] = 1 := by decide
  have hr := rep_nl (by simp) hcon
  rw [hn] at hr
  rcases parts l with ⟨h1, _⟩ | ⟨c, t, hd, hc, hl, ha⟩
  · have := (nl_all l).1 h1; omega
  · have hp := nl_parts ha hc hl
    rw [kind_split hlen hd]; simp only [ne_eq, trimS_nil, nl_all (Lib.replace l [47] [] 1)]
    by_cases ht : t.all ltr = true
    · have h0 := (nl_all t).1 ht
      have ho := occ_only (a := l.takeWhile ltr) (c := c) ha ht (show ltr 47 = false by decide) (by rw [← hl]; exact hcon)
      have hi := occ_here (a := l.takeWhile ltr) (c := c) ha (show ltr 47 = false by decide) ho
      rw [← hl] at hi
      simp only [List.isPrefixOf, Bool.and_eq_true, beq_iff_eq] at ho
      obtain ⟨rfl, _⟩ := ho
      rw [if_pos ht, hi]
      generalize l.takeWhile ltr = a at *
      subst hl
      by_cases h1 : a = []
      · subst h1
        exact .inr ⟨.inl (by simp), by simp⟩
      · by_cases h2 : t = []
        · subst h2
          exact .inr ⟨.inr (.inl (by simp)), by simp⟩
        · refine .inl ⟨⟨?_, ?_⟩, by omega, by simp [h1, h2]⟩
          · cases a with
            | nil => exact absurd rfl h1
            | cons z a =>
              simp only [List.all_cons, Bool.and_eq_true] at ha
              intro h
              simp at h
              rw [h] at ha
              exact absurd ha.1 (by decide)
          · intro h
            rw [List.getLast?_append, List.getLast?_cons] at h
            obtain ⟨z, hz⟩ : ∃ z, t.getLast? = some z := by
              cases e : t.getLast? with
              | none => exact absurd (List.getLast?_eq_none_iff.1 e) h2
              | some z => exact ⟨z, rfl⟩
            simp [hz] at h
            have := List.all_eq_true.1 ht z (List.mem_of_getLast? hz)
            rw [h] at this
            exact absurd this (by decide)
    · refine .inr ⟨.inr (.inr ?_), by rw [if_neg ht]⟩
      have : nl t ≠ 0 := fun h => ht ((nl_all t).2 h)
      omega
theorem kind_plain {l : List UInt8} (hs : Lib.contains l [37, 115] = false) (hz : Lib.contains l [37, 122] = false) (hcon : Lib.contains l [47] = false) (hlen : ¬ (l.length = 0 ∨ 64 < l.length)) :
    (Lib.trimS l LT = [] ∧ kindOf l = (0, 0)) ∨ (Lib.trimS l LT ≠ [] ∧ kindOf l = (-1, 0)) := by
  rw [Ne, trimS_nil]
  rcases parts l with ⟨h1, h2⟩ | ⟨c, t, hd, hc, hl, ha⟩
  · exact .inl ⟨h1, by unfold kindOf; rw [if_neg hlen, h2]⟩
  · have hp := nl_parts ha hc hl
    refine .inr ⟨fun h => by have := (nl_all l).1 h; omega, ?_⟩
    have key : ∀ sub x xs, sub = x :: xs → ltr x = false → Lib.contains l sub = false → (x :: xs).isPrefixOf (c :: t) = false := by
      intro sub x xs e hx hc0
      subst e
      refine Bool.eq_false_iff.2 fun hh => ?_
      have hi := occ_here (a := l.takeWhile ltr) (c := c) ha hx hh
      rw [← hl] at hi
      unfold Lib.contains at hc0
      have := of_decide_eq_false hc0
      omega
    have k1 := key _ 37 [115] rfl (by decide) hs
    have k2 := key _ 37 [122] rfl (by decide) hz
    have k3 := key _ 47 [] rfl (by decide) hcon
    rw [kind_split hlen hd]
    split
    · rw [if_neg, if_neg, if_neg]
      · rintro ⟨rfl, h⟩
        cases t with
        | nil => simp at h
        | cons z t => simp at h; subst h; simp at k2
      · rintro ⟨rfl, h⟩
        cases t with
        | nil => simp at h
        | cons z t => simp at h; subst h; simp at k1
      · rintro ⟨rfl, _⟩
        simp at k3
    · rfl
end AbbM
