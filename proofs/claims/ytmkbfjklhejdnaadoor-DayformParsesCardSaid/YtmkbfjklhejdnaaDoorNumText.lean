/-
  PLAIN LAWS of texts of numbers: a text of at most nine digits that starts with no 0 is the decimal numeral of what it spells.
-/
import Derived.Lib.AtoiTie
import Derived.Lib.ItoaMem
import Derived.Lib.Strings
namespace Go.Proofs.YtmkbfjklhejdnaaDoor
open Go Go.Lib

theorem decFrom_snoc (b : UInt8) : ∀ (s : List UInt8) (acc : Nat), decFrom acc (s ++ [b]) = (decFrom acc s).bind fun v => (digitVal b).map fun d => v * 10 + d
  | [], acc => by
    simp only [List.nil_append, decFrom, Option.bind_some]
    cases digitVal b <;> rfl
  | c :: s, acc => by
    simp only [List.cons_append, decFrom]
    cases digitVal c with
    | none => rfl
    | some d => exact decFrom_snoc b s _
theorem digit_byte {b : UInt8} {d : Nat} (h : digitVal b = some d) : b = UInt8.ofNat (48 + d) ∧ d < 10 := by
  obtain ⟨h1, h2, h3⟩ := digitVal_eq h
  refine ⟨?_, by omega⟩
  rw [← UInt8.toNat_inj]
  simp
  omega
theorem digitVal_ofNat {d : Nat} (h : d < 10) : digitVal (UInt8.ofNat (48 + d)) = some d := by
  unfold digitVal
  have : (UInt8.ofNat (48 + d)).toNat = 48 + d := by simp; omega
  rw [this, if_pos (by omega)]
  congr 1
  omega
theorem snoc_of {α : Type} (l : List α) (h : l ≠ []) : ∃ s b, l = s ++ [b] := ⟨l.dropLast, l.getLast h, (List.dropLast_concat_getLast h).symm⟩
theorem dec_ne (u : Nat) : decDigits u ≠ [] := fun h => by
  have := decDigits_length u
  rw [h] at this
  have := nDigits_pos u
  simp at *
  omega
/-- digits that start with no 0 are the numeral of what they spell -/
theorem dec_of_from : ∀ (k : Nat) (t : List UInt8) (u : Nat), t.length = k → t ≠ [] → (1 < t.length → t.head? ≠ some 48) → decFrom 0 t = some u → decDigits u = t
  | 0, t, u, hk, hne, _, _ => absurd (List.length_eq_zero_iff.1 hk) hne
  | k + 1, t, u, hk, hne, hz, hd => by
    obtain ⟨s, b, rfl⟩ := snoc_of t hne
    rw [decFrom_snoc] at hd
    cases hs : decFrom 0 s with
    | none => rw [hs] at hd; cases hd
    | some v =>
      rw [hs, Option.bind_some] at hd
      cases hb : digitVal b with
      | none => rw [hb] at hd; cases hd
      | some d =>
        rw [hb] at hd
        have hu : v * 10 + d = u := Option.some.inj hd
        obtain ⟨e, hd10⟩ := digit_byte hb
        subst e
        by_cases hs0 : s = []
        · subst hs0
          have : v = 0 := (Option.some.inj hs).symm
          rw [decDigits_one (by omega)]
          simp
          congr 1
          omega
        · have hl : s.length = k := by simp at hk; exact hk
          have hz2 : s.head? ≠ some 48 := by
            have := hz (by
              cases s with
              | nil => exact absurd rfl hs0
              | cons => simp)
            cases s with
            | nil => exact absurd rfl hs0
            | cons c s => simpa using this
          have ih := dec_of_from k s v hl hs0 (fun _ => hz2) hs
          have hv : v ≠ 0 := by
            intro h0
            subst h0
            rw [decDigits_one (by decide)] at ih
            rw [← ih] at hz2
            exact hz2 rfl
          rw [decDigits, dif_neg (by omega), show u / 10 = v by omega, show u % 10 = d by omega, ih]
theorem from_dec : ∀ u : Nat, decFrom 0 (decDigits u) = some u := by
  intro u
  induction u using Nat.strongRecOn with
  | ind u ih =>
    rw [decDigits]
    by_cases h : u < 10
    · rw [dif_pos h]
      show (match digitVal (UInt8.ofNat (48 + u)) with | some d => decFrom (0 * 10 + d) [] | none => none) = some u
      rw [digitVal_ofNat h]
      simp [decFrom]
    · rw [dif_neg h, decFrom_snoc, ih (u / 10) (by omega), Option.bind_some, digitVal_ofNat (by omega)]
      show some (u / 10 * 10 + u % 10) = some u
      congr 1
      omega
theorem dec_head : ∀ u : Nat, 1 ≤ u → (decDigits u).head? ≠ some 48 := by
  intro u
  induction u using Nat.strongRecOn with
  | ind u ih =>
    intro h1
    rw [decDigits]
    by_cases h : u < 10
    · rw [dif_pos h]
      intro e
      have e2 : UInt8.ofNat (48 + u) = 48 := by simpa using e
      rw [← UInt8.toNat_inj] at e2
      have : (UInt8.ofNat (48 + u)).toNat = 48 + u := by simp; omega
      rw [this] at e2
      have : (48 : UInt8).toNat = 48 := rfl
      omega
    · rw [dif_neg h]
      have := ih (u / 10) (by omega) (by omega)
      cases hd : decDigits (u / 10) with
      | nil => exact absurd hd (dec_ne _)
      | cons c s => rw [hd] at this; simpa using this
theorem dec_digit {u : Nat} {b : UInt8} (h : b ∈ decDigits u) : 48 ≤ b.toNat ∧ b.toNat ≤ 57 := by
  obtain ⟨k, hk⟩ := List.mem_iff_getElem?.1 h
  obtain ⟨d, hd⟩ := digit_of_decFrom _ _ _ (from_dec u) k b hk
  have := digitVal_eq hd
  omega
/-- digits, at most nine, no 0 ahead of others -/
def numT (t : List UInt8) : Option Nat := if t = [] ∨ 9 < t.length ∨ (1 < t.length ∧ t.head? = some 48) then none else decFrom 0 t
theorem numT_iff {t : List UInt8} {u : Nat} : numT t = some u ↔ decDigits u = t ∧ t.length ≤ 9 := by
  unfold numT
  constructor
  · intro h
    split at h
    · cases h
    · rename_i q
      refine ⟨dec_of_from t.length t u rfl (fun z => q (.inl z)) (fun z y => q (.inr (.inr ⟨z, y⟩))) h, ?_⟩
      exact Nat.not_lt.1 fun z => q (.inr (.inl z))
  · rintro ⟨rfl, h⟩
    rw [if_neg]
    · exact from_dec u
    · rintro (z | z | ⟨z, y⟩)
      · exact dec_ne u z
      · omega
      · by_cases h0 : u = 0
        · subst h0
          rw [decDigits_one (by decide)] at z
          simp at z
        · exact dec_head u (by omega) y
/-- the document's number of a text -/
def number (l : List UInt8) : Option Int :=
  if l.head? = some 45 then (if l.tail = [48] then none else (numT l.tail).map fun (u : Nat) => -(u : Int)) else (numT l).map fun (u : Nat) => (u : Int)
theorem number_itoa {l : List UInt8} {n : Int} (h : number l = some n) : itoa n = l ∧ l.length ≤ 10 ∧ (trimPrefix l [45]).length ≤ 9 ∧ atoi l = some n ∧ -1000000000 < n ∧ n < 1000000000 := by
  have small : ∀ {t : List UInt8} {u : Nat}, numT t = some u → u < 1000000000 := by
    intro t u hu
    obtain ⟨e, h9⟩ := numT_iff.1 hu
    have := decFrom_lt _ 0 u (from_dec u)
    rw [e] at this
    have hp : 10 ^ t.length ≤ 10 ^ 9 := Nat.pow_le_pow_right (by decide) h9
    omega
  unfold number at h
  split at h
  · rename_i h0
    cases l with
    | nil => cases h0
    | cons b t =>
      obtain rfl : b = 45 := by simpa using h0
      by_cases h48 : ((45 : UInt8) :: t).tail = [48]
      · rw [if_pos h48] at h
        cases h
      · rw [if_neg h48] at h
        rw [List.tail_cons] at h h48
        cases hu : numT t with
        | none => rw [hu] at h; cases h
        | some u =>
          rw [hu] at h
          obtain rfl : -(u : Int) = n := Option.some.inj h
          obtain ⟨e, h9⟩ := numT_iff.1 hu
          have hs := small hu
          have hu1 : 1 ≤ u := by
            rcases Nat.eq_zero_or_pos u with z | z
            · subst z
              rw [decDigits_one (by decide)] at e
              exact absurd e.symm h48
            · exact z
          refine ⟨by rw [itoa_neg u hu1, e], by simp; omega, ?_, ?_, by omega, by omega⟩
          · simp [trimPrefix, hasPrefix]; exact h9
          · have hf := from_dec u
            rw [e] at hf
            have hne : t.isEmpty = false := by
              cases t with
              | nil => exact absurd e (dec_ne u)
              | cons => rfl
            simp [atoi, decNat, hne, hf]
  · rename_i h0
    cases hu : numT l with
    | none => rw [hu] at h; cases h
    | some u =>
      rw [hu] at h
      obtain rfl : (u : Int) = n := Option.some.inj h
      obtain ⟨e, h9⟩ := numT_iff.1 hu
      have hs := small hu
      refine ⟨by rw [itoa_nonneg u, e], by omega, ?_, ?_, by omega, by omega⟩
      · unfold trimPrefix
        rw [if_neg]
        · exact h9
        · intro hp
          cases l with
          | nil => simp [hasPrefix] at hp
          | cons b t => simp [hasPrefix] at hp; exact h0 (by simp [hp])
      · have hf := from_dec u
        rw [e] at hf
        cases l with
        | nil => exact absurd e (dec_ne u)
        | cons b t =>
          have hb := dec_digit (u := u) (b := b) (by rw [e]; simp)
          have b45 : b ≠ 45 := fun z => by rw [z] at hb; exact absurd hb.1 (by decide)
          have b43 : b ≠ 43 := fun z => by rw [z] at hb; exact absurd hb.1 (by decide)
          simp [atoi, decNat, hf, b45, b43]
theorem number_of {l : List UInt8} {n : Int} (h : itoa n = l) (h9 : (trimPrefix l [45]).length ≤ 9) : number l = some n := by
  unfold itoa at h
  split at h
  · rename_i hn
    subst h
    have ht : trimPrefix (45 :: decDigits n.natAbs) [45] = decDigits n.natAbs := by simp [trimPrefix, hasPrefix]
    rw [ht] at h9
    unfold number
    rw [if_pos (show (45 :: decDigits n.natAbs).head? = some 45 from rfl), List.tail_cons, numT_iff.2 ⟨rfl, h9⟩]
    rw [if_neg]
    · show some (-(n.natAbs : Int)) = some n
      congr 1
      omega
    · intro z
      have := from_dec n.natAbs
      rw [z] at this
      have e0 : decFrom 0 [48] = some 0 := by decide
      rw [e0] at this
      have := Option.some.inj this
      omega
  · rename_i hn
    subst h
    have hb : (decDigits n.toNat).head? ≠ some 45 := by
      cases hd : decDigits n.toNat with
      | nil => exact absurd hd (dec_ne _)
      | cons b t =>
        have := dec_digit (u := n.toNat) (b := b) (by rw [hd]; simp)
        intro z
        have z2 : b = 45 := by simpa using z
        rw [z2] at this
        exact absurd this.1 (by decide)
    have ht : trimPrefix (decDigits n.toNat) [45] = decDigits n.toNat := by
      unfold trimPrefix
      rw [if_neg]
      intro hp
      cases hd : decDigits n.toNat with
      | nil => exact absurd hd (dec_ne _)
      | cons b t => rw [hd] at hp hb; simp [hasPrefix] at hp; exact hb (by simp [hp])
    rw [ht] at h9
    unfold number
    rw [if_neg hb, numT_iff.2 ⟨rfl, h9⟩]
    show some ((n.toNat : Nat) : Int) = some n
    congr 1
    omega
theorem number_atoi {l : List UInt8} {n : Int} (h : number l = some n) : atoiAll l = .ok n := by
  obtain ⟨_, h10, _, ha, _⟩ := number_itoa h
  rw [atoiAll_short l (by omega), ha]
  rfl
theorem trim_len (l p : List UInt8) : (trimPrefix l p).length ≤ l.length := by
  unfold trimPrefix
  split
  · simp
  · exact Nat.le_refl _
end Go.Proofs.YtmkbfjklhejdnaaDoor
