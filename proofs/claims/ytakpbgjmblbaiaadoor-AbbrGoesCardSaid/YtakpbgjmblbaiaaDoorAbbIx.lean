/-
  PLAIN LAWS: a format's kind, byte by byte.
-/
import Derived.Test.YtakpbgjmblbaiaaDoorAbbMath
namespace AbbM
open Go

/-- the class of what is no letter, at a place -/
def cls (l : List UInt8) (p : Nat) : Int :=
  if l[p]? = some 47 ∧ 0 < p ∧ p + 1 < l.length then 3 else if l[p]? = some 37 ∧ l[p + 1]? = some 115 then 1 else if l[p]? = some 37 ∧ l[p + 1]? = some 122 then 2 else -1
/-- all bytes of a stretch are letters -/
def lets (l : List UInt8) (a b : Nat) : Prop := ∀ j x, a ≤ j → j < b → l[j]? = some x → ltr x = true
theorem lets_zero (l : List UInt8) (a : Nat) : lets l a a := fun j _ h1 h2 => by omega
theorem lets_step {l : List UInt8} {a b : Nat} {x : UInt8} (h : lets l a b) (hx : l[b]? = some x) (hl : ltr x = true) : lets l a (b + 1) := fun j y h1 h2 hy => by
  by_cases e : j = b
  · subst e
    rw [hx] at hy
    cases hy
    exact hl
  · exact h j y h1 (by omega) hy
theorem lets_all {l : List UInt8} (h : lets l 0 l.length) : l.all ltr = true := by
  rw [List.all_eq_true]
  intro x hx
  obtain ⟨i, hi⟩ := List.getElem?_of_mem hx
  exact h i x (by omega) (List.getElem?_eq_some_iff.1 hi).1 hi
theorem lets_drop {l : List UInt8} {p : Nat} : (l.drop p).all ltr = true ↔ lets l p l.length := by
  constructor
  · intro h j x h1 h2 hx
    refine List.all_eq_true.1 h x (List.mem_of_getElem? (i := j - p) ?_)
    rw [List.getElem?_drop, show p + (j - p) = j by omega]
    exact hx
  · intro h
    rw [List.all_eq_true]
    intro x hx
    obtain ⟨i, hi⟩ := List.getElem?_of_mem hx
    rw [List.getElem?_drop] at hi
    exact h (p + i) x (by omega) (List.getElem?_eq_some_iff.1 hi).1 hi
theorem kind_all {l : List UInt8} (h : lets l 0 l.length) (h0 : ¬ (l.length = 0 ∨ 64 < l.length)) : kindOf l = (0, 0) := by
  rcases parts l with ⟨_, h2⟩ | ⟨c, t, hd, hc, hl, ha⟩
  · unfold kindOf; rw [if_neg h0, h2]
  · have := lets_all h
    rw [hl, List.all_append, List.all_cons, hc] at this
    simp at this
theorem tw_at {l : List UInt8} {p : Nat} {x : UInt8} (h : lets l 0 p) (hx : l[p]? = some x) (hn : ltr x = false) : l.takeWhile ltr = l.take p ∧ l.dropWhile ltr = x :: l.drop (p + 1) := by
  have hp : p < l.length := (List.getElem?_eq_some_iff.1 hx).1
  have hall : ∀ y ∈ l.take p, ltr y = true := by
    intro y hy
    obtain ⟨i, hi⟩ := List.getElem?_of_mem hy
    have h1 : i < p := by have := (List.getElem?_eq_some_iff.1 hi).1; simp at this; omega
    rw [List.getElem?_take_of_lt h1] at hi
    exact h i y (by omega) h1 hi
  have hsplit : l = l.take p ++ x :: l.drop (p + 1) := by
    have hd : l.drop p = x :: l.drop (p + 1) := by
      rw [List.drop_eq_getElem_cons hp]
      rw [List.getElem?_eq_getElem hp] at hx
      cases hx; rfl
    rw [← hd, List.take_append_drop]
  constructor
  · conv => lhs; rw [hsplit]
    rw [List.takeWhile_append_of_pos hall, List.takeWhile_cons_of_neg (by simp [hn]), List.append_nil]
  · conv => lhs; rw [hsplit]
    rw [List.dropWhile_append_of_pos hall, List.dropWhile_cons_of_neg (by simp [hn])]
theorem kind_at {l : List UInt8} {p : Nat} {x : UInt8} (h : lets l 0 p) (hx : l[p]? = some x) (hn : ltr x = false) (h0 : ¬ (l.length = 0 ∨ 64 < l.length)) :
    kindOf l = if (l.drop (p + 1)).all ltr then (if cls l p = -1 then (-1, 0) else (cls l p, p)) else (-1, 0) := by
  obtain ⟨e1, e2⟩ := tw_at h hx hn
  have hp : p < l.length := (List.getElem?_eq_some_iff.1 hx).1
  rw [kind_split h0 e2, e1]
  have lt : (l.take p).length = p := by simp; omega
  rw [lt]
  congr 1
  unfold cls
  have q1 : l.take p ≠ [] ↔ 0 < p := by
    constructor
    · intro h; cases p with
      | zero => simp at h
      | succ p => omega
    · intro h hn
      rw [hn] at lt; simp at lt; omega
  have q2 : l.drop (p + 1) ≠ [] ↔ p + 1 < l.length := by
    rw [Ne, List.drop_eq_nil_iff]; omega
  have q3 : (l.drop (p + 1)).head? = l[p + 1]? := by rw [List.head?_drop]
  simp only [hx, q1, q2, q3, Option.some.injEq]
  by_cases a : x = 47 ∧ 0 < p ∧ p + 1 < l.length
  · simp [a]
  · rw [if_neg a, if_neg a]
    by_cases b : x = 37 ∧ l[p + 1]? = some 115
    · simp [b]
    · rw [if_neg b, if_neg b]
      by_cases c : x = 37 ∧ l[p + 1]? = some 122
      · simp [c]
      · simp [c]
/-- what the document's loop has found -/
def Inv (l : List UInt8) (i : Nat) (k : Int) (p : Nat) : Prop :=
  (k = 0 ∧ p = 0 ∧ lets l 0 i) ∨ (1 ≤ k ∧ k ≤ 3 ∧ p < i ∧ lets l 0 p ∧ (∃ x, l[p]? = some x ∧ ltr x = false) ∧ lets l (p + 1) i ∧ cls l p = k)
theorem Inv.bd {l : List UInt8} {i : Nat} {k : Int} {p : Nat} (h : Inv l i k p) : 0 ≤ k ∧ k ≤ 3 := by
  rcases h with ⟨rfl, _⟩ | ⟨h1, h2, _⟩ <;> omega
theorem Inv.le {l : List UInt8} {i : Nat} {k : Int} {p : Nat} (h : Inv l i k p) : p ≤ i := by
  rcases h with ⟨_, rfl, _⟩ | ⟨_, _, h2, _⟩ <;> omega
theorem Inv.letter {l : List UInt8} {i : Nat} {k : Int} {p : Nat} {x : UInt8} (h : Inv l i k p) (hx : l[i]? = some x) (hl : ltr x = true) : Inv l (i + 1) k p := by
  rcases h with ⟨h1, h2, h3⟩ | ⟨h1, h2, h3, h4, h5, h6, h7⟩
  · exact .inl ⟨h1, h2, lets_step h3 hx hl⟩
  · exact .inr ⟨h1, h2, by omega, h4, h5, lets_step h6 hx hl, h7⟩
theorem Inv.mark {l : List UInt8} {i : Nat} {p : Nat} {x : UInt8} (h : Inv l i 0 p) (hx : l[i]? = some x) (hl : ltr x = false) (k : Int) (hk : cls l i = k) (k1 : 1 ≤ k) (k3 : k ≤ 3) : Inv l (i + 1) k i := by
  rcases h with ⟨h1, h2, h3⟩ | ⟨h1, _⟩
  · exact .inr ⟨k1, k3, by omega, h3, ⟨x, hx, hl⟩, lets_zero l _, hk⟩
  · omega
theorem Inv.bad {l : List UInt8} {i : Nat} {p : Nat} {x : UInt8} (h : Inv l i 0 p) (hx : l[i]? = some x) (hl : ltr x = false) (hk : cls l i = -1) (h0 : ¬ (l.length = 0 ∨ 64 < l.length)) : kindOf l = (-1, 0) := by
  rcases h with ⟨_, _, h3⟩ | ⟨h1, _⟩
  · rw [kind_at h3 hx hl h0, if_pos hk]; split <;> rfl
  · omega
theorem Inv.twice {l : List UInt8} {i : Nat} {k : Int} {p : Nat} {x : UInt8} (h : Inv l i k p) (hk : 1 ≤ k) (hx : l[i]? = some x) (hl : ltr x = false) (h0 : ¬ (l.length = 0 ∨ 64 < l.length)) : kindOf l = (-1, 0) := by
  rcases h with ⟨h1, _⟩ | ⟨h1, h2, h3, h4, ⟨y, h5, h5'⟩, h6, h7⟩
  · omega
  · rw [kind_at h4 h5 h5' h0, if_neg]
    rw [lets_drop]
    intro hh
    have := hh i x (by omega) (List.getElem?_eq_some_iff.1 hx).1 hx
    rw [hl] at this; cases this
theorem Inv.done {l : List UInt8} {k : Int} {p : Nat} (h : Inv l l.length k p) (h0 : ¬ (l.length = 0 ∨ 64 < l.length)) : kindOf l = (k, p) := by
  rcases h with ⟨h1, h2, h3⟩ | ⟨h1, h2, h3, h4, ⟨y, h5, h5'⟩, h6, h7⟩
  · rw [kind_all h3 h0, h1, h2]
  · rw [kind_at h4 h5 h5' h0, if_pos (lets_drop.2 h6), if_neg (by omega), h7]
end AbbM
