/-
  PLAIN LAWS on numbers for the layer num and its reference: the test of a product, rounded quotients, halves of 32 bits, pieces of 16 bits. No program in sight.
-/
import Derived.WalkKit
namespace Go.Proofs.YtmkbfjklhejdnaaDoor
namespace NumM
open Go Go.RowKit

def Fits (n : Int) : Prop := -9223372036854775808 ≤ n ∧ n ≤ 9223372036854775807
instance (n : Int) : Decidable (Fits n) := by unfold Fits; infer_instance

theorem mul_cancel (a b n k : Int) (hb : Fits b) (hb0 : b ≠ 0) (hk : n = a * b - 18446744073709551616 * k) (hq : n.tdiv b = a) : k = 0 := by
  have h1 : n - b * n.tdiv b = n.tmod b := by have := Int.mul_tdiv_add_tmod n b; omega
  rw [hq] at h1
  have h2 : n.tmod b = -(18446744073709551616 * k) := by rw [← h1, hk, Int.mul_comm a b]; omega
  have h3 := Int.natAbs_tmod n b
  have h4 : n.natAbs % b.natAbs < b.natAbs := Nat.mod_lt _ (by omega)
  unfold Fits at *
  omega
theorem wrap_k (n : Int) : ∃ k, wrap64 n = n - 18446744073709551616 * k := by
  refine ⟨(n + 9223372036854775808) / 18446744073709551616, ?_⟩
  unfold wrap64; omega
theorem wrap_fits (n : Int) : Fits (wrap64 n) := by unfold Fits wrap64; omega
theorem wrap_in (n : Int) (h : Fits n) : wrap64 n = n := by unfold Fits at h; unfold wrap64; omega

/-- the test of Mul: fits -/
theorem mul_test_fits (a b : Int) (ha : Fits a) (hb0 : b ≠ 0) (h : Fits (a * b)) : wrap64 ((a * b).tdiv b) = a ∧ ¬ (b = -1 ∧ a * b = a ∧ a ≠ 0) := by
  rw [Int.mul_tdiv_cancel _ hb0]
  refine ⟨wrap_in a ha, ?_⟩
  rintro ⟨rfl, h2, h3⟩
  omega
/-- the test of Mul: does not fit -/
theorem mul_test_not (a b : Int) (ha : Fits a) (hb : Fits b) (h : ¬ Fits (a * b)) (hq : wrap64 ((wrap64 (a * b)).tdiv b) = a) : b = -1 ∧ wrap64 (a * b) = a := by
  have hb0 : b ≠ 0 := by rintro rfl; simp [Fits] at h
  obtain ⟨k, hk⟩ := wrap_k (a * b)
  have hf := wrap_fits (a * b)
  have hk0 : k ≠ 0 := by rintro rfl; rw [hk] at hf; simp at hf; exact h hf
  by_cases hb1 : b = -1
  · subst hb1
    refine ⟨rfl, ?_⟩
    unfold Fits wrap64 at *
    omega
  · exfalso
    generalize wrap64 (a * b) = n at *
    have h5 : Fits (n.tdiv b) := by
      have h6 : (n.tdiv b).natAbs = n.natAbs / b.natAbs := Int.natAbs_tdiv n b
      by_cases hb2 : b = 1
      · subst hb2; rw [Int.tdiv_one]; exact hf
      · have h7 : n.natAbs / b.natAbs ≤ n.natAbs / 2 := Nat.div_le_div_left (by omega) (by omega)
        unfold Fits at *
        omega
    rw [wrap_in _ h5] at hq
    exact hk0 (mul_cancel a b n k hb hb0 hk hq)

theorem fdm (a b : Int) (hb : b ≠ 0) : (a.fdiv b, a.fmod b) = if a.tmod b ≠ 0 ∧ ¬ (a < 0 ↔ b < 0) then (a.tdiv b - 1, a.tmod b + b) else (a.tdiv b, a.tmod b) := by
  have e := Int.mul_tdiv_add_tmod a b
  have h3 := Int.natAbs_tmod a b
  have h4 : a.natAbs % b.natAbs < b.natAbs := Nat.mod_lt _ (by omega)
  have hs : 0 ≤ a → 0 ≤ a.tmod b := fun h => Int.tmod_nonneg _ h
  have hs' : a ≤ 0 → a.tmod b ≤ 0 := fun h => by
    have := Int.tmod_nonneg b (a := -a) (by omega)
    rw [Int.neg_tmod] at this; omega
  have key : ∀ q r : Int, r + b * q = a → ((0 ≤ r ∧ r < b) ∨ (b < r ∧ r ≤ 0)) → (a.fdiv b, a.fmod b) = (q, r) := by
    intro q r h1 h2
    by_cases hp : 0 < b
    · have := (Int.fdiv_fmod_unique (a := a) (r := r) (q := q) hp).2 ⟨h1, by omega⟩
      rw [this.1, this.2]
    · have := (Int.fdiv_fmod_unique' (a := a) (r := r) (q := q) (by omega)).2 ⟨h1, by omega⟩
      rw [this.1, this.2]
  split
  · rename_i h
    refine key _ _ (by rw [Int.mul_sub]; omega) ?_
    generalize a.tmod b = r at *
    omega
  · rename_i h
    refine key _ _ (by omega) ?_
    generalize a.tmod b = r at *
    omega

theorem and_mask (n : Int) : bits .and .i64 n 4294967295 = n % 4294967296 := by
  show IntKind.i64.wrap ((BitVec.ofInt 64 n &&& BitVec.ofInt 64 4294967295).toNat : Int) = _
  rw [BitVec.toNat_and, show (BitVec.ofInt 64 4294967295).toNat = 2^32 - 1 from by decide, Nat.and_two_pow_sub_one_eq_mod, IntKind.wrap_i64]
  rw [BitVec.toNat_ofInt]
  omega
theorem or_join (h l : Int) (hl : 0 ≤ l) (hl' : l < 4294967296) (hh : -2147483648 ≤ h) (hh' : h ≤ 2147483647) : bits .or .i64 (h * 4294967296) l = h * 4294967296 + l := by
  show IntKind.i64.wrap ((BitVec.ofInt 64 (h * 4294967296) ||| BitVec.ofInt 64 l).toNat : Int) = _
  obtain ⟨k, rfl⟩ := Int.eq_ofNat_of_zero_le hl
  have e1 : (BitVec.ofInt 64 (h * 4294967296)).toNat = 2^32 * (h % 4294967296).toNat := by
    rw [BitVec.toNat_ofInt]; omega
  have e2 : (BitVec.ofInt 64 (k : Int)).toNat = k := by
    rw [BitVec.toNat_ofInt]; omega
  rw [BitVec.toNat_or, e1, e2, ← Nat.two_pow_add_eq_or_of_lt (by omega), IntKind.wrap_i64]
  omega

def canonL : Int → Nat → List Int
  | v, 0 => [v]
  | v, k+1 => (v % 65536) :: canonL (v / 65536) k
def canon (v : Int) : List Int := canonL v 7
def norm : Int → List Int → List Int
  | _, [] => []
  | c, [x] => [x + c]
  | c, x :: y :: r => ((x + c) % 65536) :: norm ((x + c) / 65536) (y :: r)
def val : List Int → Int
  | [] => 0
  | [x] => x
  | x :: y :: r => x + 65536 * val (y :: r)
theorem norm_eq (xs : List Int) : ∀ c, xs ≠ [] → norm c xs = canonL (val xs + c) (xs.length - 1) := by
  induction xs with
  | nil => intro c h; exact absurd rfl h
  | cons x r ih =>
    intro c _
    cases r with
    | nil => simp [norm, val, canonL]
    | cons y s =>
      have h := ih ((x + c) / 65536) (by simp)
      simp only [norm, val, List.length_cons, Nat.add_sub_cancel, canonL] at h ⊢
      rw [h]
      congr 1
      · omega
      · congr 1; omega
theorem val_canonL (k : Nat) : ∀ v, val (canonL v k) = v := by
  induction k with
  | zero => intro v; simp [canonL, val]
  | succ k ih =>
    intro v
    have h := ih (v / 65536)
    cases k with
    | zero => simp [canonL, val]; omega
    | succ k => simp only [canonL, val] at h ⊢; omega
theorem val_add (xs : List Int) : ∀ ys, xs.length = ys.length → val (List.zipWith (· + ·) xs ys) = val xs + val ys := by
  induction xs with
  | nil => intro ys h; cases ys with
    | nil => rfl
    | cons => simp at h
  | cons x r ih =>
    intro ys h
    cases ys with
    | nil => simp at h
    | cons y s =>
      have h' := ih s (by simpa using h)
      cases r with
      | nil => cases s with
        | nil => simp [val]
        | cons => simp at h
      | cons a r => cases s with
        | nil => simp at h
        | cons b s => simp only [List.zipWith_cons_cons, val] at h' ⊢; omega
/-- the pieces, each by itself -/
def piece (v : Int) (k : Nat) : Int := if k < 7 then v / 65536 ^ k % 65536 else v / 65536 ^ 7
theorem canon_eq (v : Int) : canon v = [v % 65536, v / 65536 % 65536, v / 65536 / 65536 % 65536, v / 65536 / 65536 / 65536 % 65536, v / 65536 / 65536 / 65536 / 65536 % 65536, v / 65536 / 65536 / 65536 / 65536 / 65536 % 65536, v / 65536 / 65536 / 65536 / 65536 / 65536 / 65536 % 65536, v / 65536 / 65536 / 65536 / 65536 / 65536 / 65536 / 65536] := rfl
theorem canonL_step (x r : Int) (k : Nat) (h : 0 ≤ x ∧ x < 65536) : canonL (x + 65536 * r) (k + 1) = x :: canonL r k := by
  rw [canonL]
  congr 1
  · omega
  · congr 1; omega
theorem canon_val (a b c d e f g h v : Int) (hv : v = a + 65536 * (b + 65536 * (c + 65536 * (d + 65536 * (e + 65536 * (f + 65536 * (g + 65536 * h))))))) (ha : 0 ≤ a ∧ a < 65536) (hb : 0 ≤ b ∧ b < 65536) (hc : 0 ≤ c ∧ c < 65536) (hd : 0 ≤ d ∧ d < 65536) (he : 0 ≤ e ∧ e < 65536) (hf : 0 ≤ f ∧ f < 65536) (hg : 0 ≤ g ∧ g < 65536) : canon v = [a, b, c, d, e, f, g, h] := by
  rw [hv, canon, canonL_step _ _ _ ha, canonL_step _ _ _ hb, canonL_step _ _ _ hc, canonL_step _ _ _ hd, canonL_step _ _ _ he, canonL_step _ _ _ hf, canonL_step _ _ _ hg]
  rfl

theorem fits_tdiv (a b : Int) (ha : Fits a) (hb0 : b ≠ 0) (hb1 : b ≠ -1) : Fits (a.tdiv b) := by
  have h6 : (a.tdiv b).natAbs = a.natAbs / b.natAbs := Int.natAbs_tdiv a b
  by_cases hb2 : b = 1
  · subst hb2; rw [Int.tdiv_one]; exact ha
  · have h7 : a.natAbs / b.natAbs ≤ a.natAbs / 2 := Nat.div_le_div_left (by omega) (by omega)
    unfold Fits at *
    omega
theorem half_tdiv (a b : Int) (ha : Fits a) (hb1 : b ≠ -1) (h : ¬ a.tmod b = 0) : -9223372036854775807 ≤ a.tdiv b ∧ a.tdiv b ≤ 9223372036854775807 := by
  have h6 : (a.tdiv b).natAbs = a.natAbs / b.natAbs := Int.natAbs_tdiv a b
  by_cases hb2 : b = 1
  · subst hb2; simp at h
  · by_cases hb0 : b = 0
    · subst hb0; rw [Int.tdiv_zero]; omega
    · have h7 : a.natAbs / b.natAbs ≤ a.natAbs / 2 := Nat.div_le_div_left (by omega) (by omega)
      unfold Fits at *
      omega
theorem dm_same (a b : Int) (hb0 : b ≠ 0) (h : a.tmod b = 0) : a.tdiv b = a.fdiv b ∧ a.tmod b = a.fmod b := by
  have := fdm a b hb0
  rw [if_neg (fun x => x.1 h)] at this
  injection this with h1 h2
  exact ⟨h1.symm, h2.symm⟩
theorem dm_down (a b : Int) (hb0 : b ≠ 0) (h : ¬ a.tmod b = 0) (hs : ¬ (a < 0 ↔ b < 0)) : a.tdiv b - 1 = a.fdiv b ∧ a.tmod b + b = a.fmod b := by
  have := fdm a b hb0
  rw [if_pos ⟨h, hs⟩] at this
  injection this with h1 h2
  exact ⟨h1.symm, h2.symm⟩
theorem dm_up (a b : Int) (hb0 : b ≠ 0) (hs : a < 0 ↔ b < 0) : a.tdiv b = a.fdiv b ∧ a.tmod b = a.fmod b := by
  have := fdm a b hb0
  rw [if_neg (fun x => x.2 hs)] at this
  injection this with h1 h2
  exact ⟨h1.symm, h2.symm⟩
theorem fits_fmod (a b : Int) (ha : Fits a) (hb : Fits b) : Fits (a.fmod b) := by
  by_cases hb0 : b = 0
  · subst hb0; simpa using ha
  · by_cases hp : 0 < b
    · have := (Int.fdiv_fmod_unique (a := a) (r := a.fmod b) (q := a.fdiv b) hp).1 ⟨rfl, rfl⟩
      unfold Fits at *; omega
    · have := (Int.fdiv_fmod_unique' (a := a) (r := a.fmod b) (q := a.fdiv b) (by omega)).1 ⟨rfl, rfl⟩
      unfold Fits at *; omega
theorem fits_tmod (a b : Int) (ha : Fits a) : Fits (a.tmod b) := by
  have h3 := Int.natAbs_tmod a b
  have h4 : a.natAbs % b.natAbs ≤ a.natAbs := Nat.mod_le _ _
  unfold Fits at *
  by_cases h : 0 ≤ a
  · have := Int.tmod_nonneg b h; omega
  · have := Int.tmod_nonneg b (a := -a) (by omega)
    rw [Int.neg_tmod] at this; omega
theorem tmod_sign (a b : Int) (h : ¬ a.tmod b = 0) : a.tmod b < 0 ↔ a < 0 := by
  constructor
  · intro h1
    refine Classical.byContradiction fun h2 => ?_
    have := Int.tmod_nonneg b (a := a) (by omega); omega
  · intro h1
    have := Int.tmod_nonneg b (a := -a) (by omega)
    rw [Int.neg_tmod] at this; omega
theorem low_neg (v : Int) (h : v.tmod 65536 < 0) : v.tmod 65536 + 65536 = v % 65536 ∧ (v - (v.tmod 65536 + 65536)).tdiv 65536 = v / 65536 := by
  have e := Int.mul_tdiv_add_tmod v 65536
  have h3 := Int.natAbs_tmod v 65536
  rw [show Int.natAbs 65536 = 65536 from rfl] at h3
  have h1 : v.tmod 65536 + 65536 = v % 65536 := by omega
  refine ⟨h1, ?_⟩
  rw [h1, show v - v % 65536 = 65536 * (v / 65536) from by omega, Int.mul_tdiv_cancel_left _ (by decide)]
theorem low_pos (v : Int) (h : ¬ v.tmod 65536 < 0) : v.tmod 65536 = v % 65536 ∧ (v - v.tmod 65536).tdiv 65536 = v / 65536 := by
  have e := Int.mul_tdiv_add_tmod v 65536
  have h3 := Int.natAbs_tmod v 65536
  rw [show Int.natAbs 65536 = 65536 from rfl] at h3
  have h1 : v.tmod 65536 = v % 65536 := by omega
  refine ⟨h1, ?_⟩
  rw [h1, show v - v % 65536 = 65536 * (v / 65536) from by omega, Int.mul_tdiv_cancel_left _ (by decide)]
theorem low_bd (v : Int) : -65536 < v.tmod 65536 ∧ v.tmod 65536 < 65536 := by
  have h3 := Int.natAbs_tmod v 65536
  rw [show Int.natAbs 65536 = 65536 from rfl] at h3
  omega
/-- the pieces after k rounds of even -/
def evn (x : Nat → Int) : Nat → Nat → Int
  | 0, j => x j
  | k + 1, j => if j = k then evn x k k % 65536 else if j = k + 1 then evn x k (k + 1) + evn x k k / 65536 else evn x k j
theorem evn_next (x : Nat → Int) (k j : Nat) : evn x (k + 1) j = if j = k then evn x k k % 65536 else if j = k + 1 then evn x k (k + 1) + evn x k k / 65536 else evn x k j := rfl
theorem evn_later (x : Nat → Int) (k : Nat) : ∀ j, k < j → evn x k j = x j := by
  induction k with
  | zero => intro j _; rfl
  | succ k ih => intro j h; rw [evn_next, if_neg (by omega), if_neg (by omega)]; exact ih j (by omega)
theorem evn_at (x : Nat → Int) (k : Nat) : evn x (k + 1) (k + 1) = x (k + 1) + evn x k k / 65536 := by
  rw [evn_next, if_neg (by omega), if_pos rfl, evn_later x k (k + 1) (by omega)]
theorem evn_done (x : Nat → Int) (j : Nat) : ∀ d, evn x (j + 1 + d) j = evn x j j % 65536
  | 0 => by rw [Nat.add_zero, evn_next, if_pos rfl]
  | d + 1 => by
    have := evn_done x j d
    rw [← this]
    show evn x ((j + 1 + d) + 1) j = _
    rw [evn_next, if_neg (by omega), if_neg (by omega)]
theorem evn_bd (x : Nat → Int) (hx : ∀ j, j ≤ 7 → -549755813888 ≤ x j ∧ x j ≤ 549755813888) (k : Nat) : ∀ j, k ≤ 7 → j ≤ 7 → -1099511627776 ≤ evn x k j ∧ evn x k j ≤ 1099511627776 := by
  induction k with
  | zero => intro j _ hj; have := hx j hj; show -1099511627776 ≤ x j ∧ x j ≤ 1099511627776; omega
  | succ k ih =>
    intro j hk hj
    have h0 := ih k (by omega) (by omega)
    by_cases e : j = k
    · subst e; rw [evn_next, if_pos rfl]; omega
    · by_cases e1 : j = k + 1
      · subst e1; rw [evn_at]; have := hx (k + 1) hj; omega
      · rw [evn_next, if_neg e, if_neg e1]; exact ih j (by omega) hj
/-- divided so many times -/
def dv (v : Int) : Nat → Int
  | 0 => v
  | k + 1 => dv v k / 65536
/-- a number's pieces -/
def cn (v : Int) (j : Nat) : Int := if j < 7 then dv v j % 65536 else dv v 7
/-- a list of pieces as a number, from piece j on, so many more -/
def tl (x : Nat → Int) (j : Nat) : Nat → Int
  | 0 => 0
  | d + 1 => x j + 65536 * tl x (j + 1) d
theorem dv_evn (x : Nat → Int) (k : Nat) : k ≤ 7 → dv (tl x 0 8) k = evn x k k + 65536 * tl x (k + 1) (7 - k) := by
  induction k with
  | zero => intro _; rfl
  | succ k ih =>
    intro h
    have e : 7 - k = (7 - (k + 1)) + 1 := by omega
    rw [dv, ih (by omega), evn_at, e, tl]
    omega
theorem evn_cn (x : Nat → Int) (j : Nat) (hj : j < 8) : evn x 7 j = cn (tl x 0 8) j := by
  unfold cn
  by_cases h : j < 7
  · rw [if_pos h, dv_evn x j (by omega)]
    have := evn_done x j (7 - (j + 1))
    rw [show j + 1 + (7 - (j + 1)) = 7 from by omega] at this
    rw [this]; omega
  · obtain rfl : j = 7 := by omega
    rw [if_neg h, dv_evn x 7 (by omega)]
    simp [tl]
/-- 1, if a number below nought was rounded up -/
def car (n low : Int) : Int := if n < 0 ∧ low ≠ 0 then 1 else 0
theorem car_bd (n low : Int) : 0 ≤ car n low ∧ car n low ≤ 1 := by unfold car; split <;> omega
theorem tdiv_car (n : Int) : n.tdiv 65536 - car n (n % 65536) = n / 65536 := by
  have e := Int.mul_tdiv_add_tmod n 65536
  have lb := low_bd n
  unfold car
  by_cases h : n.tmod 65536 < 0
  · have l := low_neg n h
    have := (tmod_sign n 65536 (by omega)).1 h
    rw [if_pos ⟨this, by omega⟩]; omega
  · have l := low_pos n h
    by_cases h0 : n.tmod 65536 = 0
    · rw [if_neg (fun x => x.2 (by omega))]; omega
    · have : ¬ n < 0 := fun x => h ((tmod_sign n 65536 h0).2 x)
      rw [if_neg (fun x => this x.1)]; omega
theorem tdiv_bd (n : Int) (h : Fits n) : -140737488355328 ≤ n.tdiv 65536 ∧ n.tdiv 65536 ≤ 140737488355327 := by
  have e := Int.mul_tdiv_add_tmod n 65536
  have := low_bd n
  unfold Fits at h
  have h1 : n.tmod 65536 < 0 → n < 0 := fun x => (tmod_sign n 65536 (by omega)).1 x
  have h2 : 0 < n.tmod 65536 → 0 ≤ n := fun x => Classical.byContradiction fun y => by
    have := (tmod_sign n 65536 (by omega)).2 (by omega); omega
  omega
/-- the pieces of Of after k rounds -/
def ofs (n : Int) (k : Nat) : Nat → Int := fun j => if j < k then (if j = 3 then dv n 3 else dv n j % 65536) else 0
theorem ofs_tl (n : Int) : tl (ofs n 4) 0 8 = n := by
  simp [tl, ofs, dv]; omega
theorem dv_bd (n : Int) (h : Fits n) : Fits (dv n 1) ∧ Fits (dv n 2) ∧ -32768 ≤ dv n 3 ∧ dv n 3 ≤ 32767 := by
  unfold Fits at *
  simp [dv]; omega
theorem dv_fits (n : Int) (h : Fits n) (k : Nat) (hk : k < 4) : Fits (dv n k) := by
  have hb := dv_bd n h
  unfold Fits at *
  obtain rfl | rfl | rfl | rfl : k = 0 ∨ k = 1 ∨ k = 2 ∨ k = 3 := by omega
  · exact h
  all_goals omega
theorem cn_bd (v : Int) (h : -649037107316853453566312041152512 * 1048576 ≤ v ∧ v ≤ 649037107316853453566312041152511 * 1048576) (j : Nat) : -274877906944 ≤ cn v j ∧ cn v j ≤ 274877906943 := by
  unfold cn
  by_cases h7 : j < 7
  · rw [if_pos h7]; omega
  · rw [if_neg h7]; simp [dv]; omega
theorem cn_lo (v : Int) (j : Nat) (h : j < 7) : 0 ≤ cn v j ∧ cn v j < 65536 := by unfold cn; rw [if_pos h]; omega
theorem cn_sum (v : Int) : v = cn v 0 + 65536 * (cn v 1 + 65536 * (cn v 2 + 65536 * (cn v 3 + 65536 * (cn v 4 + 65536 * (cn v 5 + 65536 * (cn v 6 + 65536 * cn v 7)))))) := by
  simp [cn, dv]; omega
/-- what the pieces of a number that fits are -/
theorem fits_pieces (v : Int) (h : Fits v) : (cn v 3 < 32768 ∧ cn v 4 = 0 ∧ cn v 5 = 0 ∧ cn v 6 = 0 ∧ cn v 7 = 0) ∨ (32768 ≤ cn v 3 ∧ cn v 4 = 65535 ∧ cn v 5 = 65535 ∧ cn v 6 = 65535 ∧ cn v 7 = -1) := by
  have e := cn_sum v
  have b0 := cn_lo v 0 (by omega)
  have b1 := cn_lo v 1 (by omega)
  have b2 := cn_lo v 2 (by omega)
  have b3 := cn_lo v 3 (by omega)
  have b4 := cn_lo v 4 (by omega)
  have b5 := cn_lo v 5 (by omega)
  have b6 := cn_lo v 6 (by omega)
  unfold Fits at h
  omega
theorem pieces_lo (v : Int) (h3 : cn v 3 < 32768) (h4 : cn v 4 = 0) (h5 : cn v 5 = 0) (h6 : cn v 6 = 0) (h7 : cn v 7 = 0) : Fits v ∧ ((cn v 3 * 65536 + cn v 2) * 65536 + cn v 1) * 65536 + cn v 0 = v := by
  have e := cn_sum v
  have b0 := cn_lo v 0 (by omega)
  have b1 := cn_lo v 1 (by omega)
  have b2 := cn_lo v 2 (by omega)
  have b3 := cn_lo v 3 (by omega)
  rw [h4, h5, h6, h7] at e
  unfold Fits
  omega
theorem pieces_hi (v : Int) (h3 : 32768 ≤ cn v 3) (h4 : cn v 4 = 65535) (h5 : cn v 5 = 65535) (h6 : cn v 6 = 65535) (h7 : cn v 7 = -1) : Fits v ∧ (((cn v 3 - 65536) * 65536 + cn v 2) * 65536 + cn v 1) * 65536 + cn v 0 = v := by
  have e := cn_sum v
  have b0 := cn_lo v 0 (by omega)
  have b1 := cn_lo v 1 (by omega)
  have b2 := cn_lo v 2 (by omega)
  have b3 := cn_lo v 3 (by omega)
  rw [h4, h5, h6, h7] at e
  unfold Fits
  omega
/-- a number's four pieces, the last one with its sign -/
def sg (n : Int) (j : Nat) : Int := if j = 3 then dv n 3 else dv n j % 65536
theorem sg_sum (n : Int) : sg n 0 + 65536 * (sg n 1 + 65536 * (sg n 2 + 65536 * sg n 3)) = n := by
  simp [sg, dv]; omega
theorem sg_bd (n : Int) (h : Fits n) (j : Nat) : -65536 ≤ sg n j ∧ sg n j ≤ 65535 := by
  have := dv_bd n h
  unfold sg; split <;> omega
theorem cn_sg (n : Int) (j : Nat) (h : j < 3) : cn n j = sg n j := by
  unfold cn sg; rw [if_pos (by omega), if_neg (by omega)]
theorem cn_sg3 (n : Int) (h : Fits n) : (cn n 7 < 0 → cn n 3 - 65536 = sg n 3) ∧ (0 ≤ cn n 7 → cn n 3 = sg n 3) := by
  have := dv_bd n h
  simp [cn, sg, dv] at *
  unfold Fits at h
  omega
/-- the products after t steps -/
def mus (a b : Nat → Int) : Nat → Nat → Int
  | 0, _ => 0
  | t + 1, j => if j = t / 4 + t % 4 then mus a b t j + a (t / 4) * b (t % 4) else mus a b t j
theorem mus_tl (a b : Nat → Int) : tl (mus a b 16) 0 8 = (a 0 + 65536 * (a 1 + 65536 * (a 2 + 65536 * a 3))) * (b 0 + 65536 * (b 1 + 65536 * (b 2 + 65536 * b 3))) := by
  simp [tl, mus]
  grind
theorem mul_bd (x y : Int) (hx : -65536 ≤ x ∧ x ≤ 65535) (hy : -65536 ≤ y ∧ y ≤ 65535) : -4294967296 ≤ x * y ∧ x * y ≤ 4294967296 := by
  have h : (x * y).natAbs ≤ 65536 * 65536 := by
    rw [Int.natAbs_mul]; exact Nat.mul_le_mul (by omega) (by omega)
  omega
theorem mus_bd (a b : Nat → Int) (ha : ∀ j, -65536 ≤ a j ∧ a j ≤ 65535) (hb : ∀ j, -65536 ≤ b j ∧ b j ≤ 65535) (t : Nat) : ∀ j, -4294967296 * t ≤ mus a b t j ∧ mus a b t j ≤ 4294967296 * t := by
  induction t with
  | zero => intro j; simp [mus]
  | succ t ih =>
    intro j
    have h1 := ih j
    have h2 := mul_bd _ _ (ha (t / 4)) (hb (t % 4))
    unfold mus
    split <;> omega
end NumM
end Go.Proofs.YtmkbfjklhejdnaaDoor
