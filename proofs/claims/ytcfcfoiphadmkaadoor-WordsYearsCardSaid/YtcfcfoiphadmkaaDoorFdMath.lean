/-
  PLAIN LAWS of which one of words a word is.
-/
import Derived.Test.YtcfcfoiphadmkaaDoorNamesLaw
namespace Go.Proofs.YtcfcfoiphadmkaaDoor
open Go Go.RowKit

/-- a word begins the j-th one -/
def Beg (s : List UInt8) (ws : List (List UInt8)) (j : Nat) : Prop := s ≠ [] ∧ s <+: (ws.getD j []).map low
theorem hit_beg {s : List UInt8} {ws : List (List UInt8)} {j : Nat} (h : Beg s ws j) : hitAt s ws j = [(j, (ws.getD j []).map low == s)] := by
  unfold hitAt
  rw [if_pos ⟨h.1, by unfold Lib.hasPrefix; exact List.isPrefixOf_iff_prefix.2 h.2⟩]
theorem hit_not {s : List UInt8} {ws : List (List UInt8)} {j : Nat} (h : ¬ Beg s ws j) : hitAt s ws j = [] := by
  unfold hitAt
  rw [if_neg]
  rintro ⟨a, b⟩
  exact h ⟨a, List.isPrefixOf_iff_prefix.1 b⟩
theorem mem_hits {s : List UInt8} {ws : List (List UInt8)} {x : Nat × Bool} : ∀ k, x ∈ hits s ws k → Beg s ws x.1 ∧ x.1 < k ∧ x.2 = ((ws.getD x.1 []).map low == s)
  | 0, h => by cases h
  | k + 1, h => by
    rw [hits_succ, List.mem_append] at h
    rcases h with h | h
    · obtain ⟨a, b, c⟩ := mem_hits k h
      exact ⟨a, by omega, c⟩
    · by_cases q : Beg s ws k
      · rw [hit_beg q] at h
        simp at h
        subst h
        exact ⟨q, by simp, rfl⟩
      · rw [hit_not q] at h
        cases h
theorem hits_mem {s : List UInt8} {ws : List (List UInt8)} {j : Nat} (h : Beg s ws j) : ∀ k, j < k → (j, (ws.getD j []).map low == s) ∈ hits s ws k
  | 0, h => by omega
  | k + 1, hk => by
    rw [hits_succ, List.mem_append]
    by_cases q : j = k
    · subst q
      exact .inr (by rw [hit_beg h]; simp)
    · exact .inl (hits_mem h k (by omega))
/-- no word begins another one -/
def Apart (ws : List (List UInt8)) : Prop := ∀ i, i < ws.length → ∀ j, j < ws.length → (ws.getD i []).map low <+: (ws.getD j []).map low → j = i
theorem fd_beg {s : List UInt8} {ws : List (List UInt8)} {i : Nat} (h : fd s ws = some i) : Beg s ws i := by
  unfold fd at h
  split at h
  · rename_i x hx
    cases h
    exact (mem_hits _ (List.mem_of_find?_eq_some hx)).1
  · split at h
    · rename_i x hx
      cases h
      exact (mem_hits ws.length (by rw [hx]; simp)).1
    · cases h
theorem fd_uniq {s : List UInt8} {ws : List (List UInt8)} {i : Nat} (ha : Apart ws) (h : fd s ws = some i) : ∀ j, j < ws.length → Beg s ws j → j = i := by
  intro j hj hb
  have hi := fd_lt h
  unfold fd at h
  split at h
  · rename_i x hx
    cases h
    have h2 := (mem_hits _ (List.mem_of_find?_eq_some hx)).2.2
    have h3 := List.find?_some hx
    try simp only at h3
    rw [h3] at h2
    have h4 : (ws.getD x.1 []).map low = s := eq_of_beq h2.symm
    exact ha x.1 hi j hj (by rw [h4]; exact hb.2)
  · split at h
    · rename_i x hx
      cases h
      have := hits_mem hb ws.length hj
      rw [hx] at this
      simp at this
      rw [← this]
    · cases h
theorem fd_some_of {s : List UInt8} {ws : List (List UInt8)} {i : Nat} (hi : i < ws.length) (hb : Beg s ws i) (hu : ∀ j, j < ws.length → Beg s ws j → j = i) : fd s ws = some i := by
  have key : ∀ k, k ≤ ws.length → hits s ws k = if i < k then [(i, (ws.getD i []).map low == s)] else [] := by
    intro k
    induction k with
    | zero => intro _; rfl
    | succ k ih =>
      intro hk
      rw [hits_succ, ih (by omega)]
      by_cases q : k = i
      · subst q
        rw [if_neg (by omega), if_pos (by omega), hit_beg hb]
        rfl
      · rw [hit_not (fun h => q (hu k (by omega) h)), List.append_nil]
        by_cases z : i < k
        · rw [if_pos z, if_pos (by omega)]
        · rw [if_neg z, if_neg (by omega)]
  have := key ws.length (Nat.le_refl _)
  rw [if_pos hi] at this
  unfold fd
  rw [this]
  cases (ws.getD i []).map low == s <;> rfl
theorem fd_none_of {s : List UInt8} {ws : List (List UInt8)} (hu : ∀ j, j < ws.length → ¬ Beg s ws j) : fd s ws = none := by
  have : hits s ws ws.length = [] := by
    apply List.eq_nil_iff_forall_not_mem.2
    intro x hx
    obtain ⟨a, b, _⟩ := mem_hits _ hx
    exact hu x.1 b a
  unfold fd
  rw [this]
  rfl
/-- what a word goes on as -/
theorem fd_more {s t : List UInt8} {ws : List (List UInt8)} {i : Nat} (ha : Apart ws) (h : fd s ws = some i) : fd (s ++ t) ws = if (s ++ t) <+: (ws.getD i []).map low then some i else none := by
  have hb := fd_beg h
  have hu : ∀ j, j < ws.length → Beg (s ++ t) ws j → j = i := fun j hj q => fd_uniq ha h j hj ⟨hb.1, (List.prefix_append s t).trans q.2⟩
  have hne : s ++ t ≠ [] := fun q => hb.1 (List.append_eq_nil_iff.1 q).1
  split
  · rename_i q
    exact fd_some_of (fd_lt h) ⟨hne, q⟩ hu
  · rename_i q
    refine fd_none_of fun j hj z => ?_
    obtain rfl := hu j hj z
    exact q z.2
theorem fd_take {s S : List UInt8} {ws : List (List UInt8)} {i k : Nat} (ha : Apart ws) (h : fd s ws = some i) (hS : (ws.getD i []).map low = S) (hk : s.length ≤ k) : fd (S.take k) ws = some i := by
  obtain ⟨hne, t, ht⟩ := fd_beg h
  rw [hS] at ht
  have : S.take k = s ++ t.take (k - s.length) := by
    rw [← ht, List.take_append, List.take_of_length_le hk]
  rw [this, fd_more ha h, if_pos]
  rw [hS, ← ht]
  exact ⟨t.drop (k - s.length), by rw [List.append_assoc, List.take_append_drop]⟩
theorem fd_len {s S : List UInt8} {ws : List (List UInt8)} {i : Nat} (h : fd s ws = some i) (hS : (ws.getD i []).map low = S) : s.length ≤ S.length := by
  have := (fd_beg h).2.length_le
  rwa [hS] at this
theorem fd_one {s S : List UInt8} {ws : List (List UInt8)} {i : Nat} {c : UInt8} (ha : Apart ws) (h : fd s ws = some i) (hS : (ws.getD i []).map low = S) : fd (s ++ [c]) ws = if s.length < S.length ∧ S.getD s.length 0 = c then some i else none := by
  obtain ⟨hne, t, ht⟩ := fd_beg h
  rw [hS] at ht
  rw [fd_more ha h, hS, ← ht]
  congr 1
  rw [List.prefix_append_right_inj]
  cases t with
  | nil => simp
  | cons x t => simp [List.getD, eq_comm]
def apartB (ws : List (List UInt8)) : Bool := (List.range ws.length).all fun i => (List.range ws.length).all fun j => !((ws.getD i []).map low).isPrefixOf ((ws.getD j []).map low) || j == i
theorem apart_of {ws : List (List UInt8)} (h : apartB ws = true) : Apart ws := by
  intro i hi j hj hp
  have := List.all_eq_true.1 (List.all_eq_true.1 h i (List.mem_range.2 hi)) j (List.mem_range.2 hj)
  rw [List.isPrefixOf_iff_prefix.2 hp] at this
  simpa using this
theorem months_apart : Apart monthsL := apart_of (by decide +kernel)
theorem weekdays_apart : Apart weekdaysL := apart_of (by decide +kernel)
theorem month_low : ∀ i, i < 12 → (monthsL.getD i []).map low = monthsS.getD i [] := by decide +kernel
theorem weekday_low : ∀ i, i < 7 → (weekdaysL.getD i []).map low = weekdaysS.getD i [] := by decide +kernel
theorem month_small : ∀ i, i < 12 → (monthsS.getD i []).map low = monthsS.getD i [] := by decide +kernel
theorem weekday_small : ∀ i, i < 7 → (weekdaysS.getD i []).map low = weekdaysS.getD i [] := by decide +kernel
theorem month_lenS : ∀ i, i < 12 → (monthsS.getD i []).length ≤ 9 := by decide +kernel
theorem weekday_lenS : ∀ i, i < 7 → (weekdaysS.getD i []).length ≤ 9 := by decide +kernel
theorem month_letters : ∀ i, i < 12 → ∀ k, k < (monthsS.getD i []).length → 97 ≤ ((monthsS.getD i []).getD k 0).toNat ∧ ((monthsS.getD i []).getD k 0).toNat ≤ 122 := by decide +kernel
/-- the law's letter: the same but for its case -/
theorem low_iff {c x : UInt8} (h1 : 97 ≤ x.toNat) (h2 : x.toNat ≤ 122) : x = low c ↔ (c.toNat : Int) = x.toNat ∨ (65 ≤ (c.toNat : Int) ∧ (c.toNat : Int) ≤ 90 ∧ (c.toNat : Int) + 32 = x.toNat) := by
  rw [← UInt8.toNat_inj]
  have := low_nat c
  unfold lowN at this
  split at this <;> omega
end Go.Proofs.YtcfcfoiphadmkaaDoor
