/-
  THE WALKS of num.Add, of the sum at an empty slice, of the reference's Neg and Sum, and of the law's fits.
-/
import Derived.Test.YtnbgmnjmandolaaSum
import Derived.Test.YtnbgmnjmandolaaRefInt
import Derived.Test.YtnbgmnjmandolaaTail
namespace Go.Proofs.Ytnbgmnjmandolaa
open Go Go.RowKit NumM

set_option maxHeartbeats 1000000 in
theorem add_num (a b : Int) (w : World) (ha : Fits a) (hb : Fits b) :
    Calls Try.prog 14 #[.int .i64 a, .int .i64 b] w fun e w' => e = .returned (sumV (a + b)) ∧ Below w.heap.size w w' := by
  go_enter Try.func14, Try.ntmps14
  go_wp2_with fail
  have hN : Arr (w.alloc (.cells #[.int .i64 a, .int .i64 b] 3)) w.heap.size 3 2 (two a b) := Arr.new w 3 2 (two a b)
  refine (sum_some (two a b) 2 2 w.heap.size 0 _ (by omega) (by omega) (by simp) ?_ ?_).mono ?_
  · intro k hk
    obtain rfl | rfl : k = 0 ∨ k = 1 := by omega
    · exact ha
    · exact hb
  · intro k hk
    rw [Nat.zero_add]
    exact hN.cell hk
  rintro e w1 ⟨rfl, hb1⟩
  have HB := Lib.hid (((Below.refl w.heap.size w).alloc (Nat.le_refl _) _).trans (hb1.mono (by simp)))
  clear hb1 hN
  rw [show sm (two a b) 2 = a + b from by simp [sm, two]]
  by_cases hf : Fits (a + b)
  · rw [sumV_fits hf]
    go_wp2_with fail
    go_ret2
    exact ⟨ret_eq (sumV_fits hf).symm, HB.out⟩
  · rw [sumV_not hf]
    go_wp2_with fail
    go_ret2
    exact ⟨ret_eq (sumV_not hf).symm, HB.out⟩
/-- a slice of ints, the empty one too -/
def Sl (w : World) (ad : Option Addr) (n : Nat) (z : Nat → Int) : Prop := n = 0 ∨ ∃ b off, ad = some ⟨b, off, none⟩ ∧ b < w.heap.size ∧ ∀ k, k < n → w.cell? ⟨b, off + k, none⟩ = some (.int .i64 (z k))
theorem Sl.below {w w' : World} {ad : Option Addr} {n : Nat} {z : Nat → Int} (h : Sl w ad n z) (hb : Below w.heap.size w w') : Sl w' ad n z := by
  rcases h with h | ⟨b, off, rfl, hlt, hc⟩
  · exact .inl h
  · exact .inr ⟨b, off, rfl, Nat.lt_of_lt_of_le hlt hb.size, fun k hk => (hb.cell (p := ⟨b, off + k, none⟩) hlt).trans (hc k hk)⟩
set_option maxHeartbeats 1000000 in
theorem sum_none (ad : Option Addr) (cap : Nat) (w : World) :
    Calls Try.prog 17 #[.slice ad 0 cap] w fun e w' => e = .returned (sumV 0) ∧ Below w.heap.size w w' := by
  go_enter Try.func17, Try.ntmps17
  go_wp2_with fail
  go_step3
  go_wp2_with fail
  go_step3
  go_wp2_with fail
  refine wp_loop_rounds 1 ?_
  rw [rounds_succ]
  go_wp2_with fail
  refine (joined_any 0 0 _ (by omega) (by omega) (by omega)).mono ?_
  rintro e w3 ⟨rfl, rfl⟩
  rw [show (0 : Int) * 4294967296 + 0 = 0 from rfl, sumV_fits (by decide)]
  go_wp2_with fail
  rw [Exit.noGoto_ret]
  go_ret2
  exact ⟨ret_eq (sumV_fits (by decide)).symm, ((Below.refl _ _).alloc (Nat.le_refl _) _).alloc (by simp) _⟩
set_option maxHeartbeats 1000000 in
theorem fits_a (v : Int) (w : World) (hv : Fits v) :
    Calls Try.prog 18 #[.int .i64 v, .int .i64 0, .agg (ints 8 (cn v))] w fun e w' => e = .returned (.bool true) ∧ Below w.heap.size w w' := by
  have HN := Lib.hid (Arr.new w 27 8 (cn v))
  go_enter Try.func18, Try.ntmps18
  go_wp2_with (refine wpList_load_arr rfl 27 _ rfl w.heap.size (by rfl) HN.out Try.underlying27 sz8 ?_)
  refine (int_fits v _ hv).mono ?_
  rintro e w1 ⟨rfl, hb1⟩
  go_wp2_with fail
  go_ret
  exact ⟨rfl, ((Below.refl w.heap.size w).alloc (Nat.le_refl _) _).trans (hb1.mono (by simp))⟩
set_option maxHeartbeats 1000000 in
theorem fits_b (v : Int) (w : World) (hv : ¬ Fits v) :
    Calls Try.prog 18 #[.int .i64 0, .int .i64 11, .agg (ints 8 (cn v))] w fun e w' => e = .returned (.bool true) ∧ Below w.heap.size w w' := by
  have HN := Lib.hid (Arr.new w 27 8 (cn v))
  go_enter Try.func18, Try.ntmps18
  go_wp2_with (refine wpList_load_arr rfl 27 _ rfl w.heap.size (by rfl) HN.out Try.underlying27 sz8 ?_)
  refine (int_not v _ hv).mono ?_
  rintro e w1 ⟨rfl, hb1⟩
  go_wp2_with fail
  go_ret
  exact ⟨rfl, ((Below.refl w.heap.size w).alloc (Nat.le_refl _) _).trans (hb1.mono (by simp))⟩
theorem sum_any (z : Nat → Int) (ad : Option Addr) (n cap : Nat) (w : World) (hn : n ≤ 40) (hs : Sl w ad n z) (hz : ∀ k, k < n → Fits (z k)) :
    Calls Try.prog 17 #[.slice ad n cap] w fun e w' => e = .returned (sumV (sm z n)) ∧ Below w.heap.size w w' := by
  by_cases h : n = 0
  · subst h; exact sum_none ad cap w
  · rcases hs with h0 | ⟨b, off, rfl, hlt, hc⟩
    · exact absurd h0 h
    · exact sum_some z n cap b off w hn (by omega) hlt hz hc
/-- a number's pieces, less than nought, after k rounds -/
def ngs (x : Nat → Int) (k : Nat) : Nat → Int := fun j => if j < k then 0 - x j else x j
theorem ngs_step (x : Nat → Int) (k : Nat) (X : Int) (hX : X = 0 - x k) (j : Nat) : upd (ngs x k) k X j = ngs x (k + 1) j := by
  subst hX
  unfold upd ngs
  by_cases h : j = k
  · subst h; simp
  · rw [if_neg h]
    by_cases h2 : j < k
    · rw [if_pos h2, if_pos (by omega)]
    · rw [if_neg h2, if_neg (by omega)]
theorem ngs_tl (x : Nat → Int) : tl (ngs x 8) 0 8 = - tl x 0 8 := by
  simp [tl, ngs]; omega
set_option maxRecDepth 100000 in
set_option maxHeartbeats 1000000 in
theorem neg_any (x : Nat → Int) (w : World) (hx : ∀ j, j ≤ 7 → -274877906944 ≤ x j ∧ x j ≤ 274877906943) :
    Calls Try.prog 19 #[.agg (ints 8 x)] w fun e w' => e = .returned (.agg (ints 8 (cn (- tl x 0 8)))) ∧ Below w.heap.size w w' := by
  have Hx := Lib.hid hx
  clear hx
  go_enter Try.func19, Try.ntmps19
  go_wp2
  go_loopw [3] (fun i wr => ∃ k : Nat, k ≤ 8 ∧ i = .int .i64 k ∧ Arr wr w.heap.size 27 8 (ngs x k) ∧ Arr wr (w.heap.size + 1) 27 8 (fun _ => 0) ∧ Below w.heap.size w wr) (fun i _ => 8 - (intOf i).toNat)
  case atStart =>
    have h3 := Arr.new (w.alloc (.cells (ints 8 x) 27)) 27 8 (fun _ => 0)
    simp only [World.size_alloc] at h3
    exact ⟨0, by omega, rfl, (Arr.new w _ 8 x).alloc _, h3, ((Below.refl _ _).alloc (Nat.le_refl _) _).alloc (by simp) _⟩
  case round =>
    obtain ⟨k, hk, rfl, hA, hZ, hB⟩ := hrel
    have HA := Lib.hid hA
    have HZ := Lib.hid hZ
    by_cases h7 : k = 8
    · subst h7
      have Hbd : Hid (∀ j, j ≤ 7 → -549755813888 ≤ ngs x 8 j ∧ ngs x 8 j ≤ 549755813888) := fun j hj => by
        have := Hx.out j hj
        unfold ngs; rw [if_pos (by omega)]; omega
      clear hA hZ
      go_wp2_with (refine wpList_load_arr rfl 27 _ rfl w.heap.size (by rfl) HA.out Try.underlying27 sz8 ?_)
      refine (even_any _ _ Hbd.out).mono ?_
      rintro e w1 ⟨rfl, hb1⟩
      have HZ1 := Lib.hid (HZ.out.below hb1 HZ.out.lt)
      have HB1 := Lib.hid (hB.trans (hb1.mono hB.size))
      clear hb1
      go_wp2_with (refine wpList_store_abs (D := w.heap.size) (w0 := w) rfl 27 _ _ rfl (w.heap.size + 1) 8 _ (by rfl) (by rfl) HZ1.out sz8 HB1.out (by omega) ?_)
      intro W4 hA4 _ _ hB4
      go_wp2
      exact ret_arr rfl rfl rfl hA4 Try.underlying27 sz8 ⟨ret_eq (congrArg Value.agg (by rw [ngs_tl])), hB4⟩
    · have c0 := hA.cell (k := k) (by omega)
      have f0 := hA.free k
      clear hA hZ
      have b0 := Hx.out k (by omega)
      have a0 : ngs x k k = x k := by unfold ngs; rw [if_neg (by omega)]
      rw [a0] at c0
      clear a0
      have hlt : k < 8 := by omega
      go_wp2
      go_roundw
      case rel => exact ⟨k + 1, by omega, by go_num, (HA.out.set k _).congr (fun j _ => ngs_step x k _ (by omega) j), HZ.out.far (by simp) _, hB.setCell (by simp) _⟩
      case measure => simp [intOf]; omega
end Go.Proofs.Ytnbgmnjmandolaa
