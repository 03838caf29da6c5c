/-
  THE LAW NumOrder, walked.
-/
import Derived.Test.YtnbgmnjmandolaaOwn
namespace Go.Proofs.Ytnbgmnjmandolaa.numOrder
open Go Go.RowKit NumM

/-- where number j of the turned list stands -/
def at_ (f : Int) (n j : Nat) : Nat := ((f.tmod n + j) % n).toNat
theorem at_eq (f : Int) (n j : Nat) (hn : 0 < n) : at_ f n j = ((f.tmod n % n).toNat + j) % n := by
  unfold at_
  rw [← Int.emod_add_emod]
  have h0 : 0 ≤ f.tmod n % n := Int.emod_nonneg _ (by omega)
  generalize f.tmod n % n = s at *
  obtain ⟨k, rfl⟩ := Int.eq_ofNat_of_zero_le h0
  rw [Int.toNat_natCast, ← Int.natCast_add, ← Int.natCast_emod, Int.toNat_natCast]
theorem sm_shift (f : Nat → Int) (n : Nat) : sm (fun j => f (j + 1)) n = sm f n + f n - f 0 := by
  induction n with
  | zero => simp [sm]
  | succ n ih => simp only [sm] at *; omega
theorem sm_congr {f g : Nat → Int} {n : Nat} (h : ∀ j, j < n → f j = g j) : sm f n = sm g n := by
  induction n with
  | zero => rfl
  | succ n ih => simp only [sm]; rw [ih (fun j hj => h j (by omega)), h n (by omega)]
theorem sm_rot (z : Nat → Int) (n s : Nat) : sm (fun j => z ((s + j) % n)) n = sm z n := by
  induction s with
  | zero => exact sm_congr fun j hj => by rw [Nat.zero_add, Nat.mod_eq_of_lt hj]
  | succ s ih =>
    have h := sm_shift (fun j => z ((s + j) % n)) n
    have e : (fun j => z ((s + (j + 1)) % n)) = fun j => z ((s + 1 + j) % n) := by
      funext j; rw [show s + (j + 1) = s + 1 + j by omega]
    simp only [e] at h
    rw [h, ih]
    simp
theorem sm_at (z : Nat → Int) (f : Int) (n : Nat) : sm (fun j => z (at_ f n j)) n = sm z n := by
  by_cases hn : n = 0
  · subst hn; rfl
  · rw [← sm_rot z n (f.tmod n % n).toNat]
    exact sm_congr fun j _ => by rw [at_eq f n j (by omega)]
theorem at_lt (f : Int) (n j : Nat) (hn : 0 < n) : at_ f n j < n := by
  rw [at_eq f n j hn]; exact Nat.mod_lt _ hn
theorem cell_new (w : World) (x : Int) : ∀ k, k < 1 → (w.alloc (.cells #[.int .i64 x] 3)).cell? ⟨w.heap.size, 0 + k, none⟩ = some (.int .i64 x) := fun k hk => by
  obtain rfl : k = 0 := by omega
  exact (Arr.new w 3 1 (fun _ => x)).cell (by omega)
theorem own_congr {w : World} {B n : Nat} {v : Value} {z y : Nat → Int} (h : Own w B v n z) (e : ∀ j, j < n → z j = y j) : Own w B v n y := by
  unfold Own at *
  rwa [List.map_congr_left (g := fun j => Value.int .i64 (y j)) (fun j hj => by rw [e j (List.mem_range.1 hj)])] at h
theorem joinZ_at (f : Int) (z : Nat → Int) (n k j : Nat) (hj : j < k + 1) : joinZ k (fun j => z (at_ f n j)) (fun _ => z (at_ f n k)) j = z (at_ f n j) := by
  unfold joinZ
  by_cases h : j < k
  · rw [if_pos h]
  · obtain rfl : j = k := by omega
    rw [if_neg h]
set_option maxRecDepth 100000 in
set_option maxHeartbeats 8000000 in
theorem walk (x y f : Int) (z : Nat → Int) (ad : Option Addr) (n cap : Nat) (w : World) (hx : Fits x) (hy : Fits y) (hn : n ≤ 40) (hs : Sl w ad n z) (hz : ∀ k, k < n → Fits (z k)) :
    Calls Try.prog 5 #[.agg #[.int .i64 x, .int .i64 y], .slice ad n cap, .int .i64 f] w (One w) := by
  have HS := Lib.hid hs
  have HZ := Lib.hid hz
  have HA2 := Lib.hid (fun w => add_two y x w hy hx)
  have HM2 := Lib.hid (fun w => mul_two y x w hy hx)
  rw [Int.add_comm y x] at HA2
  rw [Int.mul_comm y x] at HM2
  clear hs hz
  go_enter Try.func5, Try.ntmps5
  go_wp2_with fail
  refine (add_two x y _ hx hy).mono ?_
  rintro e w1 ⟨rfl, hb1⟩
  have hs1 := hb1.size
  simp only [World.size_alloc] at hs1
  have HB1 := Lib.hid (((Below.refl w.heap.size w).alloc (Nat.le_refl _) _).trans (hb1.mono (by simp)))
  have HT0 : Arr (w.alloc (.cells #[.int .i64 x, .int .i64 y] 38)) w.heap.size 38 2 (two x y) := Arr.new w 38 2 (two x y)
  have HT1 := Lib.hid (HT0.below hb1 HT0.lt)
  have d0 := HT1.out.cell (k := 0) (by omega)
  have d1 := HT1.out.cell (k := 1) (by omega)
  rw [show two x y 0 = x from rfl] at d0
  rw [show two x y 1 = y from rfl] at d1
  clear hb1 HT0 hs1
  go_wp2_with fail
  refine (HA2.out _).mono ?_
  rintro e w2 ⟨rfl, hb2⟩
  have HT2 := Lib.hid (HT1.out.below hb2 HT1.out.lt)
  have HB2 := Lib.hid (HB1.out.trans (hb2.mono HB1.out.size))
  clear d0 d1
  have d0 := HT2.out.cell (k := 0) (by omega)
  have d1 := HT2.out.cell (k := 1) (by omega)
  rw [show two x y 0 = x from rfl] at d0
  rw [show two x y 1 = y from rfl] at d1
  clear hb2
  go_wp2_with fail
  refine (mul_two x y _ hx hy).mono ?_
  rintro e w' ⟨rfl, rfl⟩
  go_wp2_with fail
  refine (HM2.out _).mono ?_
  rintro e w' ⟨rfl, rfl⟩
  go_wp2_with fail
  clear d0 d1
  go_loopw [16, 17] (fun v i wr => ∃ k : Nat, k ≤ n ∧ i = .int .i64 k ∧ Own wr w2.heap.size v k (fun j => z (at_ f n j)) ∧ Below w2.heap.size w2 wr) (fun _ i _ => n - (intOf i).toNat)
  case atStart => exact ⟨0, by omega, rfl, World.ownsRow_nil _ _ _ _, Below.refl _ _⟩
  case round =>
    obtain ⟨k, hk, rfl, hO, hB⟩ := hrel
    have HO := Lib.hid hO
    have HB := Lib.hid hB
    have HSr := Lib.hid ((HS.out.below HB2.out).below (hB))
    clear hO hB
    by_cases hlt : k < n
    · have hnpos : 0 < n := by omega
      have f1 : -(n : Int) < f.tmod n := by
        have h3 := Int.natAbs_tmod f n
        have h4 : f.natAbs % (n : Int).natAbs < (n : Int).natAbs := Nat.mod_lt _ (by omega)
        omega
      have f2 : f.tmod n < n := by
        have h3 := Int.natAbs_tmod f n
        have h4 : f.natAbs % (n : Int).natAbs < (n : Int).natAbs := Nat.mod_lt _ (by omega)
        omega
      have g1 : 0 ≤ f.tmod n % n := Int.emod_nonneg _ (by omega)
      have g2 : f.tmod n % n < n := Int.emod_lt_of_pos _ (by omega)
      have i1 : 0 ≤ (f.tmod n + k) % n := Int.emod_nonneg _ (by omega)
      have i2 : (f.tmod n + k) % n < n := Int.emod_lt_of_pos _ (by omega)
      have hat := at_lt f n k hnpos
      rcases HSr.out with h0 | ⟨b, off, rfl, hbl, hc⟩
      · omega
      · have c0 : wr.cell? ⟨b, off + ((f.tmod n + k) % n).toNat, none⟩ = some (.int .i64 (z (at_ f n k))) := hc (at_ f n k) hat
        clear hc HSr hat
        have cn := cell_new wr (z (at_ f n k))
        go_wp2_with (at_builtin; go_loud (refine wpList_append_ints rfl _ _ rfl w2.heap.size _ k _ (by rfl) (World.ownsRow.alloc HO.out _) (some ⟨wr.heap.size, 0, none⟩) 1 1 (fun _ => z (at_ f n k)) (by rfl) (.inr ⟨wr.heap.size, 0, rfl, by simp, cn⟩) (fun h => by cases h) (by omega) (by simp only [World.size_alloc]; have := HB.out.size; omega) ?_))
        intro v' w' hown' hb'
        have HO' := Lib.hid hown'
        have HB' := Lib.hid ((HB.out.alloc HB.out.size _).trans hb')
        clear hown' hb' cn
        go_wp2_with fail
        go_roundw
        case rel => exact ⟨k + 1, by omega, by go_num, own_congr HO'.out (fun j hj => by exact joinZ_at f z n k j hj), HB'.out⟩
        case measure => simp [intOf]; omega
    · obtain rfl : k = n := by omega
      obtain ⟨ad2, cap2, rfl, hsl⟩ := HO.out.sl
      have HSL := Lib.hid hsl
      clear hsl
      go_wp2_with fail
      refine (sum_two z ad k cap _ hn HSr.out HZ.out).mono ?_
      rintro e w3 ⟨rfl, hb3⟩
      have HB3 := Lib.hid (HB.out.trans (hb3.mono HB.out.size))
      have HSL3 := Lib.hid (HSL.out.below hb3)
      clear hb3
      go_wp2_with fail
      refine (sum_two (fun j => z (at_ f k j)) ad2 k cap2 _ hn HSL3.out (fun j hj => HZ.out _ (at_lt f k j (by omega)))).mono ?_
      rintro e w4 ⟨rfl, hb4⟩
      rw [sm_at]
      have HB4 := Lib.hid (HB3.out.trans (hb4.mono HB3.out.size))
      have HT4 := Lib.hid (HT2.out.below HB4.out HT2.out.lt)
      have HW4 := Lib.hid (HB2.out.trans (HB4.out.mono HB2.out.size))
      have d1 := HT4.out.cell (k := 1) (by omega)
      rw [show two x y 1 = y from rfl] at d1
      have d0 := HT4.out.cell (k := 0) (by omega)
      rw [show two x y 0 = x from rfl] at d0
      clear hb4
      by_cases hf : Fits (x + y)
      · have e1 : (ee (x + y) != 0) = false := by rw [ee_fits hf]; rfl
        have E2 := Lib.hid (nn_fits hf)
        have hs : Fits (x + y - y) := by rw [show x + y - y = x by omega]; exact hx
        have HSub := Lib.hid (fun w => sub_fits (x + y) y w hs)
        rw [show x + y - y = x by omega] at HSub
        clear hs
        go_wp2_with fail
        rw [E2.out]
        refine (HSub.out _).mono ?_
        rintro e w' ⟨rfl, rfl⟩
        go_wp2_with fail
        refine (awake_any _).mono ?_
        rintro e w' ⟨rfl, rfl⟩
        go_wp2_with fail
        go_ret
        exact ⟨rfl, HW4.out⟩
      · have e1 : (ee (x + y) != 0) = true := by rw [ee_not hf]; rfl
        go_wp2_with fail
        refine (awake_any _).mono ?_
        rintro e w' ⟨rfl, rfl⟩
        go_wp2_with fail
        go_ret
        exact ⟨rfl, HW4.out⟩
end Go.Proofs.Ytnbgmnjmandolaa.numOrder
