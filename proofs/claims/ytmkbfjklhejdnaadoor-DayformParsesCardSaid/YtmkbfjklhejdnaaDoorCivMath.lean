/-
  PLAIN MATHEMATICS of the calendar: no program in sight.
-/
import Derived.Test.YtmkbfjklhejdnaaDoorProg
namespace CivM
def lp (y : Int) : Int := if y % 4 = 0 ∧ (y % 100 ≠ 0 ∨ y % 400 = 0) then 1 else 0
def dy (y : Int) : Int := (y - 1) * 365 + (y - 1) / 4 - (y - 1) / 100 + (y - 1) / 400 - 719162
theorem lp_01 (y : Int) : 0 ≤ lp y ∧ lp y ≤ 1 := by unfold lp; split <;> omega
theorem dy_succ (y : Int) : dy (y + 1) = dy y + 365 + lp y := by unfold dy lp; split <;> omega
theorem dy_400 (y : Int) : dy (y + 400) = dy y + 146097 := by unfold dy; omega
theorem dy_1970 : dy 1970 = 0 := by decide
theorem lp_400 (y : Int) : lp (y + 400) = lp y := by unfold lp; split <;> split <;> omega
def ah (m : Int) : Int := if m = 1 then 0 else if m = 2 then 31 else if m = 3 then 59 else if m = 4 then 90 else if m = 5 then 120 else if m = 6 then 151 else if m = 7 then 181 else if m = 8 then 212 else if m = 9 then 243 else if m = 10 then 273 else if m = 11 then 304 else if m = 12 then 334 else 365
def cum (y m : Int) : Int := ah m + if 2 < m then lp y else 0
def dim (y m : Int) : Int := if m = 2 then 28 + lp y else if m = 4 ∨ m = 6 ∨ m = 9 ∨ m = 11 then 30 else 31
theorem mcases {m : Int} (h1 : 1 ≤ m) (h2 : m ≤ 12) : m = 1 ∨ m = 2 ∨ m = 3 ∨ m = 4 ∨ m = 5 ∨ m = 6 ∨ m = 7 ∨ m = 8 ∨ m = 9 ∨ m = 10 ∨ m = 11 ∨ m = 12 := by omega
theorem cum_succ (y m : Int) (h1 : 1 ≤ m) (h2 : m ≤ 12) : cum y (m + 1) = cum y m + dim y m := by
  rcases mcases h1 h2 with rfl | rfl | rfl | rfl | rfl | rfl | rfl | rfl | rfl | rfl | rfl | rfl <;> simp [cum, dim, ah] <;> omega
theorem dim_bd (y m : Int) : 28 ≤ dim y m ∧ dim y m ≤ 31 := by
  have := lp_01 y; unfold dim; (repeat' split) <;> omega
theorem cum_1 (y : Int) : cum y 1 = 0 := by simp [cum, ah]
theorem cum_13 (y : Int) : cum y 13 = 365 + lp y := by simp [cum, ah]
theorem cum_bd (y m : Int) (h1 : 1 ≤ m) (h2 : m ≤ 12) : 0 ≤ cum y m ∧ cum y m ≤ 334 + lp y ∧ cum y m + dim y m ≤ 365 + lp y := by
  have := lp_01 y
  rcases mcases h1 h2 with rfl | rfl | rfl | rfl | rfl | rfl | rfl | rfl | rfl | rfl | rfl | rfl <;> simp [cum, dim, ah] <;> omega
theorem cum_mono (y a b : Int) (h1 : 1 ≤ a) (h2 : a < b) (h3 : b ≤ 13) : cum y a + dim y a ≤ cum y b := by
  have := lp_01 y
  have hb : b = 13 ∨ b ≤ 12 := by omega
  rcases hb with rfl | hb
  · have := cum_bd y a h1 (by omega); rw [cum_13]; omega
  · rcases mcases h1 (by omega) with rfl | rfl | rfl | rfl | rfl | rfl | rfl | rfl | rfl | rfl | rfl | rfl <;> rcases mcases (show 1 ≤ b by omega) hb with rfl | rfl | rfl | rfl | rfl | rfl | rfl | rfl | rfl | rfl | rfl | rfl <;> simp [cum, dim, ah] at * <;> omega
theorem dy_mono (a b : Int) (h : a < b) : dy a + 365 + lp a ≤ dy b := by
  rw [← dy_succ]; unfold dy; omega
def num (y m d : Int) : Int := dy y + cum y m + d - 1
structure Valid (y m d : Int) : Prop where
  y1 : -100000 ≤ y
  y2 : y ≤ 100000
  m1 : 1 ≤ m
  m2 : m ≤ 12
  d1 : 1 ≤ d
  d2 : d ≤ dim y m
/-- the order of dates is the order of days -/
theorem num_lt {y m d y' m' d' : Int} (h : Valid y m d) (h' : Valid y' m' d') (hl : y < y' ∨ y = y' ∧ (m < m' ∨ m = m' ∧ d < d')) : num y m d < num y' m' d' := by
  obtain ⟨a1, a2, a3, a4, a5, a6⟩ := h
  obtain ⟨b1, b2, b3, b4, b5, b6⟩ := h'
  have c1 := cum_bd y m a3 a4
  have c2 := cum_bd y' m' b3 b4
  unfold num
  rcases hl with hl | ⟨rfl, hl | ⟨rfl, hl⟩⟩
  · have := dy_mono y y' hl; omega
  · have := cum_mono y m m' a3 hl (by omega); omega
  · omega
theorem num_inj {y m d y' m' d' : Int} (h : Valid y m d) (h' : Valid y' m' d') (e : num y m d = num y' m' d') : y = y' ∧ m = m' ∧ d = d' := by
  have t : y < y' ∨ y = y' ∨ y' < y := by omega
  have u : m < m' ∨ m = m' ∨ m' < m := by omega
  have v : d < d' ∨ d = d' ∨ d' < d := by omega
  rcases t with t | t | t
  · have := num_lt h h' (.inl t); omega
  · rcases u with u | u | u
    · have := num_lt h h' (.inr ⟨t, .inl u⟩); omega
    · rcases v with v | v | v
      · have := num_lt h h' (.inr ⟨t, .inr ⟨u, v⟩⟩); omega
      · exact ⟨t, u, v⟩
      · have := num_lt h' h (.inr ⟨t.symm, .inr ⟨u.symm, v⟩⟩); omega
    · have := num_lt h' h (.inr ⟨t.symm, .inl u⟩); omega
  · have := num_lt h' h (.inl t); omega
theorem dy_lo : dy (-100000) = -37243778 := by decide
theorem dy_hi : dy 100001 = 35805088 := by decide
theorem num_bd {y m d : Int} (h : Valid y m d) : -37243778 ≤ num y m d ∧ num y m d ≤ 35805087 := by
  have c1 := cum_bd y m h.m1 h.m2
  have h1 : dy (-100000) ≤ dy y := by have := h.y1; unfold dy; omega
  have h2 : dy (y + 1) ≤ dy 100001 := by have := h.y2; unfold dy; omega
  rw [dy_succ, dy_hi] at h2
  rw [dy_lo] at h1
  have := h.d1; have := h.d2
  unfold num; omega
/-- the year that the program reckons -/
theorem year_of (n c k o s r : Int) (hk : 0 ≤ k ∧ k ≤ 3) (ho : 0 ≤ o ∧ o ≤ 24) (hs : 0 ≤ s ∧ s ≤ 3) (hn : n = 146097 * c + 36524 * k + 1461 * o + 365 * s + r) (hr : 0 ≤ r) (hr2 : r < 365 ∨ r = 365 ∧ s = 3 ∧ (o = 24 → k = 3)) : dy (400 * c + 100 * k + 4 * o + s + 1) + 719162 + r = n ∧ r < 365 + lp (400 * c + 100 * k + 4 * o + s + 1) := by
  constructor
  · unfold dy; omega
  · have := lp_01 (400 * c + 100 * k + 4 * o + s + 1)
    rcases hr2 with h | ⟨h1, h2, h3⟩
    · omega
    · have : lp (400 * c + 100 * k + 4 * o + s + 1) = 1 := by
        unfold lp
        rw [if_pos]
        omega
      omega
/-- whether a year is a leap year -/
def lpB (y : Int) : Bool := decide (y % 4 = 0 ∧ (y % 100 ≠ 0 ∨ y % 400 = 0))
theorem lp_t {y : Int} (h : lpB y = true) : lp y = 1 := by unfold lpB at h; unfold lp; rw [if_pos (of_decide_eq_true h)]
theorem lp_f {y : Int} (h : lpB y = false) : lp y = 0 := by unfold lpB at h; unfold lp; rw [if_neg (of_decide_eq_false h)]
theorem tm0 (y k : Int) : y.tmod k = 0 ↔ y % k = 0 := by rw [← Int.dvd_iff_tmod_eq_zero, ← Int.dvd_iff_emod_eq_zero]
theorem ah_bd (m : Int) : 0 ≤ ah m ∧ ah m ≤ 365 := by unfold ah; (repeat' split) <;> omega
theorem dim_ah {m : Int} (y : Int) (h1 : 1 ≤ m) (h2 : m ≤ 12) (h3 : m ≠ 2) : ah (m + 1) - ah m = dim y m := by
  rcases mcases h1 h2 with rfl | rfl | rfl | rfl | rfl | rfl | rfl | rfl | rfl | rfl | rfl | rfl <;> simp [dim, ah] at *
theorem dim_two (y : Int) : dim y 2 = 28 + lp y := by simp [dim]
theorem dy_bd (y : Int) (h1 : -200000 ≤ y) (h2 : y ≤ 200000) : -80000000 ≤ dy y ∧ dy y ≤ 80000000 := by unfold dy; omega
theorem month_of (y r : Int) (h0 : 0 ≤ r) (h1 : r < 365 + lp y) : ∃ m, 1 ≤ m ∧ m ≤ 12 ∧ cum y m ≤ r ∧ r < cum y m + dim y m := by
  have hs : ∀ k : Nat, k ≤ 12 → (∃ m, 1 ≤ m ∧ m ≤ 12 ∧ cum y m ≤ r ∧ r < cum y m + dim y m) ∨ cum y (k + 1) ≤ r := by
    intro k
    induction k with
    | zero => intro _; right; rw [show ((0 : Nat) : Int) + 1 = 1 from rfl, cum_1]; exact h0
    | succ k ih =>
      intro hk
      rcases ih (by omega) with h | h
      · exact .inl h
      · by_cases hc : r < cum y ((k : Int) + 1) + dim y ((k : Int) + 1)
        · exact .inl ⟨(k : Int) + 1, by omega, by omega, h, hc⟩
        · right
          rw [show (((k + 1 : Nat) : Int) + 1) = ((k : Int) + 1) + 1 by omega, cum_succ y _ (by omega) (by omega)]
          omega
  rcases hs 12 (by omega) with h | h
  · exact h
  · rw [show ((12 : Nat) : Int) + 1 = 13 from rfl, cum_13] at h
    omega
theorem y_hi (y : Int) (h : dy y ≤ 35805087) : y ≤ 100000 := by unfold dy at h; omega
theorem y_lo (y : Int) (h : -37243778 < dy (y + 1)) : -100000 ≤ y := by unfold dy at h; omega
/-- a year and a day of it make a date -/
theorem date_of (D y r m : Int) (hD : -37243778 ≤ D ∧ D ≤ 35805087) (e : dy y + r = D) (h0 : 0 ≤ r) (h1 : r < 365 + lp y) (m1 : 1 ≤ m) (m2 : m ≤ 12) (c1 : cum y m ≤ r) (c2 : r < cum y m + dim y m) : Valid y m (r - cum y m + 1) ∧ num y m (r - cum y m + 1) = D := by
  refine ⟨⟨y_lo y ?_, y_hi y (by omega), m1, m2, by omega, by omega⟩, by unfold num; omega⟩
  rw [dy_succ]; omega
theorem year_ex (D : Int) : ∃ y r, dy y + r = D ∧ 0 ≤ r ∧ r < 365 + lp y := by
  have h1 : 0 ≤ (D + 719162) % 146097 := by omega
  have hk : ∃ k o s r : Int, (0 ≤ k ∧ k ≤ 3) ∧ (0 ≤ o ∧ o ≤ 24) ∧ (0 ≤ s ∧ s ≤ 3) ∧ (D + 719162) % 146097 = 36524 * k + 1461 * o + 365 * s + r ∧ 0 ≤ r ∧ (r < 365 ∨ r = 365 ∧ s = 3 ∧ (o = 24 → k = 3)) := by
    generalize hn : (D + 719162) % 146097 = n
    have b : 0 ≤ n ∧ n < 146097 := by omega
    obtain ⟨k, hk1, hk2, hk3⟩ : ∃ k, (0 ≤ k ∧ k ≤ 3) ∧ 36524 * k ≤ n ∧ (n < 36524 * k + 36524 ∨ k = 3 ∧ n = 36524 * k + 36524) := by
      by_cases h : n / 36524 ≤ 3
      · exact ⟨n / 36524, by omega, by omega, by omega⟩
      · exact ⟨3, by omega, by omega, by omega⟩
    obtain ⟨o, ho1, ho2⟩ : ∃ o, (n - 36524 * k) / 1461 = o ∧ True := ⟨_, rfl, trivial⟩
    obtain ⟨s, hs1, hs2, hs3⟩ : ∃ s, (0 ≤ s ∧ s ≤ 3) ∧ 365 * s ≤ n - 36524 * k - 1461 * o ∧ (n - 36524 * k - 1461 * o < 365 * s + 365 ∨ s = 3 ∧ n - 36524 * k - 1461 * o = 365 * s + 365) := by
      by_cases h : (n - 36524 * k - 1461 * o) / 365 ≤ 3
      · exact ⟨(n - 36524 * k - 1461 * o) / 365, by omega, by omega, by omega⟩
      · exact ⟨3, by omega, by omega, by omega⟩
    exact ⟨k, o, s, n - 36524 * k - 1461 * o - 365 * s, hk1, by omega, hs1, by omega, by omega, by omega⟩
  obtain ⟨k, o, s, r, a1, a2, a3, a4, a5, a6⟩ := hk
  have := year_of (D + 719162) ((D + 719162) / 146097) k o s r a1 a2 a3 (by omega) a5 a6
  exact ⟨_, r, by omega, a5, this.2⟩
theorem date_ex (D : Int) (hD : -37243778 ≤ D ∧ D ≤ 35805087) : ∃ y m d, Valid y m d ∧ num y m d = D := by
  obtain ⟨y, r, e, h0, h1⟩ := year_ex D
  obtain ⟨m, m1, m2, c1, c2⟩ := month_of y r h0 h1
  exact ⟨y, m, _, date_of D y r m hD e h0 h1 m1 m2 c1 c2⟩
end CivM
