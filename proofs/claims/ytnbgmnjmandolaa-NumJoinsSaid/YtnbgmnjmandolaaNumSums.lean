/-
  THE LAW NumSums, walked: whatever the two numbers and up to 40 numbers, it answers true.
-/
import Derived.Test.YtnbgmnjmandolaaRefSum
import Derived.Test.YtnbgmnjmandolaaNumAwake
import Derived.Test.YtnbgmnjmandolaaFrame
namespace Go.Proofs.Ytnbgmnjmandolaa
open Go Go.RowKit NumM

/-- a number, if it fits; else nought -/
def nn (v : Int) : Int := if Fits v then v else 0
/-- what is wrong: it does not fit -/
def ee (v : Int) : Int := if Fits v then 0 else 11
theorem sumV_eq (v : Int) : sumV v = .tuple #[.int .i64 (nn v), .int .i64 (ee v)] := by
  unfold sumV nn ee; split <;> rfl
theorem mulV_eq (a b : Int) : mulV a b = .tuple #[.int .i64 (nn (a * b)), .int .i64 (ee (a * b))] := by
  unfold mulV nn ee; split <;> rfl
theorem nn_fits {v : Int} (h : Fits v) : nn v = v := if_pos h
theorem ee_fits {v : Int} (h : Fits v) : ee v = 0 := if_pos h
theorem nn_not {v : Int} (h : ¬ Fits v) : nn v = 0 := if_neg h
theorem ee_not {v : Int} (h : ¬ Fits v) : ee v = 11 := if_neg h
theorem rsum_any (z : Nat → Int) (ad : Option Addr) (n cap : Nat) (w : World) (hn : n ≤ 40) (hs : Sl w ad n z) (hz : ∀ k, k < n → Fits (z k)) :
    Calls Try.prog 20 #[.slice ad n cap] w fun e w' => e = .returned (.agg (ints 8 (cn (sm z n)))) ∧ Below w.heap.size w w' := by
  by_cases h : n = 0
  · subst h
    go_enter Try.func20, Try.ntmps20
    go_wp2_with fail
    refine wp_loop_rounds 1 ?_
    rw [rounds_succ]
    go_wp2_with fail
    refine ret_arr (t := 27) (n := 8) (f := fun _ => 0) (B := w.heap.size) rfl rfl rfl ?_ Try.underlying27 sz8 ⟨ret_eq (congrArg Value.agg (by show _ = ints 8 (cn 0); exact cn0)), ((Below.refl _ _).alloc (Nat.le_refl _) _).alloc (by simp) _⟩
    exact (Arr.new w 27 8 (fun _ => 0)).alloc _
  · rcases hs with h0 | ⟨b, off, rfl, hlt, hc⟩
    · exact absurd h0 h
    · exact rsum_some z n cap b off w hn (by omega) hlt hz hc
theorem add_two (a b : Int) (w : World) (ha : Fits a) (hb : Fits b) :
    Calls Try.prog 14 #[.int .i64 a, .int .i64 b] w fun e w' => e = .returned (.tuple #[.int .i64 (nn (a + b)), .int .i64 (ee (a + b))]) ∧ Below w.heap.size w w' :=
  (add_num a b w ha hb).mono fun _ _ ⟨h1, h2⟩ => ⟨h1.trans (ret_eq (sumV_eq _)), h2⟩
theorem sub_two (a b : Int) (w : World) (ha : Fits a) (hb : Fits b) :
    Calls Try.prog 15 #[.int .i64 a, .int .i64 b] w fun e w' => e = .returned (.tuple #[.int .i64 (nn (a - b)), .int .i64 (ee (a - b))]) ∧ w = w' := by
  by_cases h : Fits (a - b)
  · rw [nn_fits h, ee_fits h]; exact sub_fits a b w h
  · rw [nn_not h, ee_not h]; exact sub_over a b w ha hb h
theorem mul_two (a b : Int) (w : World) (ha : Fits a) (hb : Fits b) :
    Calls Try.prog 16 #[.int .i64 a, .int .i64 b] w fun e w' => e = .returned (.tuple #[.int .i64 (nn (a * b)), .int .i64 (ee (a * b))]) ∧ w = w' :=
  (mul_any a b w ha hb).mono fun _ _ ⟨h1, h2⟩ => ⟨h1.trans (ret_eq (mulV_eq _ _)), h2⟩
theorem sum_two (z : Nat → Int) (ad : Option Addr) (n cap : Nat) (w : World) (hn : n ≤ 40) (hs : Sl w ad n z) (hz : ∀ k, k < n → Fits (z k)) :
    Calls Try.prog 17 #[.slice ad n cap] w fun e w' => e = .returned (.tuple #[.int .i64 (nn (sm z n)), .int .i64 (ee (sm z n))]) ∧ Below w.heap.size w w' :=
  (sum_any z ad n cap w hn hs hz).mono fun _ _ ⟨h1, h2⟩ => ⟨h1.trans (ret_eq (sumV_eq _)), h2⟩
theorem fits_two (v : Int) (w : World) :
    Calls Try.prog 18 #[.int .i64 (nn v), .int .i64 (ee v), .agg (ints 8 (cn v))] w fun e w' => e = .returned (.bool true) ∧ Below w.heap.size w w' := by
  by_cases h : Fits v
  · rw [nn_fits h, ee_fits h]; exact fits_a v w h
  · rw [nn_not h, ee_not h]; exact fits_b v w h
theorem cn_bdF (v : Int) (h : Fits v) (j : Nat) : -274877906944 ≤ cn v j ∧ cn v j ≤ 274877906943 := cn_bd v (by unfold Fits at h; exact ⟨by omega, by omega⟩) j
theorem radd_two (a b : Int) (w : World) (ha : Fits a) (hb : Fits b) :
    Calls Try.prog 11 #[.agg (ints 8 (cn a)), .agg (ints 8 (cn b))] w fun e w' => e = .returned (.agg (ints 8 (cn (a + b)))) ∧ Below w.heap.size w w' :=
  (add_any (cn a) (cn b) w (fun j _ => cn_bdF _ ha j) (fun j _ => cn_bdF _ hb j)).mono fun _ _ ⟨h1, h2⟩ => ⟨by rw [tl_cn, tl_cn] at h1; exact h1, h2⟩
theorem rneg_two (b : Int) (w : World) (hb : Fits b) :
    Calls Try.prog 19 #[.agg (ints 8 (cn b))] w fun e w' => e = .returned (.agg (ints 8 (cn (-b)))) ∧ Below w.heap.size w w' :=
  (neg_any (cn b) w (fun j _ => cn_bdF _ hb j)).mono fun _ _ ⟨h1, h2⟩ => ⟨by rw [tl_cn] at h1; exact h1, h2⟩
theorem rsub_two (a b : Int) (w : World) (ha : Fits a) (hb : Fits b) :
    Calls Try.prog 11 #[.agg (ints 8 (cn a)), .agg (ints 8 (cn (-b)))] w fun e w' => e = .returned (.agg (ints 8 (cn (a - b)))) ∧ Below w.heap.size w w' :=
  (add_any (cn a) (cn (-b)) w (fun j _ => cn_bdF _ ha j) (fun j _ => cn_bd _ (by unfold Fits at hb; exact ⟨by omega, by omega⟩) j)).mono fun _ _ ⟨h1, h2⟩ => ⟨by rw [tl_cn, tl_cn, show a + -b = a - b by omega] at h1; exact h1, h2⟩
attribute [local irreducible] cn nn ee
set_option maxRecDepth 100000 in
set_option maxHeartbeats 1000000 in
theorem sums_some (a b : Int) (z : Nat → Int) (ad : Option Addr) (n cap : Nat) (w : World) (ha : Fits a) (hb : Fits b) (hn : n ≤ 40) (hs : Sl w ad n z) (hz : ∀ k, k < n → Fits (z k)) :
    Calls Try.prog 4 #[.int .i64 a, .int .i64 b, .slice ad n cap] w (One w) := by
  have HS := Lib.hid hs
  have HZ := Lib.hid hz
  have t1 : decide (40 < n) = false := by simp; omega
  clear hs hz
  go_enter Try.func4, Try.ntmps4
  go_wp2_with fail
  refine (of_any a _ ha).mono ?_
  rintro e w1 ⟨rfl, hb1⟩
  have HB1 := Lib.hid hb1
  have hs1 := hb1.size
  clear hb1
  go_wp2_with (refine wpList_store_abs (D := w.heap.size) (w0 := w) rfl 27 _ _ rfl w1.heap.size 8 (cn a) (by rfl) (by rfl) (Arr.new w1 _ 8 (fun _ => 0)) sz8 (HB1.out.alloc hs1 _) hs1 ?_)
  intro W1 hA1 _ hsz1 hB1
  try simp only [World.size_alloc] at hsz1
  have HA1 := Lib.hid hA1
  have HBW1 := Lib.hid hB1
  have hs1' : w1.heap.size < W1.heap.size := by omega
  clear hA1 hB1 hsz1
  go_wp2_with fail
  refine (of_any b _ hb).mono ?_
  rintro e w2 ⟨rfl, hb2⟩
  have HB2 := Lib.hid (HBW1.out.trans (hb2.mono (by omega)))
  have HA2 := Lib.hid (HA1.out.below hb2 HA1.out.lt)
  have hs2 := hb2.size
  clear hb2
  go_wp2_with (refine wpList_store_abs (D := w.heap.size) (w0 := w) rfl 27 _ _ rfl w2.heap.size 8 (cn b) (by rfl) (by rfl) (Arr.new w2 _ 8 (fun _ => 0)) sz8 (HB2.out.alloc (by omega) _) (by omega) ?_)
  intro W2 hA2 hF2 hsz2 hB2
  try simp only [World.size_alloc] at hsz2
  have HX := Lib.hid (hF2 w1.heap.size _ _ _ (by omega) (HA2.out.alloc _))
  have HY := Lib.hid hA2
  have HB := Lib.hid hB2
  clear hA2 hF2 hB2 hsz2
  go_wp2_with fail
  refine (add_two a b _ ha hb).mono ?_
  rintro e w3 ⟨rfl, hb3⟩
  have HX3 := Lib.hid (HX.out.below hb3 HX.out.lt)
  have HY3 := Lib.hid (HY.out.below hb3 HY.out.lt)
  have HB3 := Lib.hid (HB.out.trans (hb3.mono HB.out.size))
  clear hb3
  go_wp2_with fail
  refine (sub_two a b _ ha hb).mono ?_
  rintro e w' ⟨rfl, rfl⟩
  go_wp2_with fail
  refine (mul_two a b _ ha hb).mono ?_
  rintro e w' ⟨rfl, rfl⟩
  go_wp2_with fail
  refine (sum_two z ad n cap _ hn (HS.out.below HB3.out) HZ.out).mono ?_
  rintro e w4 ⟨rfl, hb4⟩
  have HX4 := Lib.hid (HX3.out.below hb4 HX3.out.lt)
  have HY4 := Lib.hid (HY3.out.below hb4 HY3.out.lt)
  have HB4 := Lib.hid (HB3.out.trans (hb4.mono HB3.out.size))
  clear hb4
  go_wp2_with fail
  have ne := bw_ne w4
  have HS4 := Lib.hid (HS.out.below HB4.out)
  refine wp_region_bw (by kernel_rfl) (by kernel_rfl) ?_
  repeat (go_big_quiet_step (fail))
  refine BigFrame.wpQuiet_want rfl (fun K hK => quiet_load_arr 27 _ rfl w1.heap.size (by rfl) (fun w' ⟨v, hv⟩ => by rw [hv]; exact bw_arr HX4.out v) Try.underlying27 sz8 (hK _ ?_))
  clear hK K
  go_simp
  refine BigFrame.wpQuiet_want rfl (fun K hK => quiet_load_arr 27 _ rfl w2.heap.size (by rfl) (fun w' ⟨v, hv⟩ => by rw [hv]; exact bw_arr HY4.out v) Try.underlying27 sz8 (hK _ ?_))
  clear hK K
  go_simp
  go_big_quiet_step (exact calls_bw (radd_two a b _ ha hb))
  go_big_quiet_step (exact calls_bw (fits_two (a + b) _))
  repeat (go_big_quiet_step (fail))
  refine BigFrame.wpQuiet_want rfl (fun K hK => quiet_load_arr 27 _ rfl w1.heap.size (by rfl) (fun w' ⟨v, hv⟩ => by rw [hv]; exact bw_arr HX4.out v) Try.underlying27 sz8 (hK _ ?_))
  clear hK K
  go_simp
  refine BigFrame.wpQuiet_want rfl (fun K hK => quiet_load_arr 27 _ rfl w2.heap.size (by rfl) (fun w' ⟨v, hv⟩ => by rw [hv]; exact bw_arr HY4.out v) Try.underlying27 sz8 (hK _ ?_))
  clear hK K
  go_simp
  go_big_quiet_step (exact calls_bw (rneg_two b _ hb))
  go_big_quiet_step (exact calls_bw (rsub_two a b _ ha hb))
  go_big_quiet_step (exact calls_bw (fits_two (a - b) _))
  repeat (go_big_quiet_step (fail))
  go_big_quiet_step (exact calls_bw (rmul_any a b _ ha hb))
  go_big_quiet_step (exact calls_bw (fits_two (a * b) _))
  repeat (go_big_quiet_step (fail))
  go_big_quiet_step (exact calls_bw (rsum_any z ad n cap _ hn (HS4.out.below (Subtype.property _)) HZ.out))
  go_big_quiet_step (exact calls_bw (fits_two (sm z n) _))
  repeat (go_big_quiet_step (fail))
  go_big_quiet_step (exact calls_bw_same (awake_any _))
  repeat (go_big_quiet_step (fail))
  refine wpQuiet_nil ?_
  intro v
  go_wp2_with fail
  go_ret
  exact ⟨rfl, HB4.out.trans (v.2.mono HB4.out.size)⟩
end Go.Proofs.Ytnbgmnjmandolaa
