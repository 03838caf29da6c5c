/-
  THE WALKS of the reference's numbers: carry, Of, Add, Neg, Int, Sum.
-/
import Derived.Test.YtnbgmnjmandolaaRefEven
import Derived.Test.YtnbgmnjmandolaaQuiet
namespace Go.Proofs.Ytnbgmnjmandolaa
open Go Go.RowKit NumM

theorem ofs_step (n : Int) (k : Nat) (X : Int) (hX : X = if k = 3 then dv n 3 else dv n k % 65536) (j : Nat) : upd (ofs n k) k X j = ofs n (k + 1) j := by
  subst hX
  unfold upd ofs
  by_cases h : j = k
  · subst h; simp
  · rw [if_neg h]
    by_cases h2 : j < k
    · rw [if_pos h2, if_pos (show j < k + 1 by omega)]
    · rw [if_neg h2, if_neg (show ¬ j < k + 1 by omega)]
theorem upd2 (f : Nat → Int) (k : Nat) (X Y : Int) (j : Nat) : upd (upd f k X) k Y j = upd f k Y j := by
  unfold upd; by_cases h : j = k
  · rw [if_pos h, if_pos h]
  · rw [if_neg h, if_neg h, if_neg h]
theorem ret_int {k : IntKind} {a b : Int} (h : a = b) : Ending.returned (.int k a) = .returned (.int k b) := by rw [h]
theorem carry_any (n low : Int) (w : World) :
    Calls Try.prog 23 #[.int .i64 n, .int .i64 low] w fun e w' => e = .returned (.int .i64 (car n low)) ∧ w = w' := by
  by_cases h1 : n < 0
  · by_cases h2 : low = 0
    · have h2' : (low != 0) = false := by simpa using h2
      have E : Hid (car n low = 0) := by unfold car; exact if_neg (fun h => h.2 h2)
      clear h2
      go_enter Try.func23, Try.ntmps23
      go_wp2
      go_ret
      exact ⟨ret_int E.out.symm, rfl⟩
    · have h2' : (low != 0) = true := by simpa using h2
      have E : Hid (car n low = 1) := by unfold car; exact if_pos ⟨h1, h2⟩
      clear h2
      go_enter Try.func23, Try.ntmps23
      go_wp2
      go_ret
      exact ⟨ret_int E.out.symm, rfl⟩
  · have E : Hid (car n low = 0) := by unfold car; exact if_neg (fun h => h1 h.1)
    go_enter Try.func23, Try.ntmps23
    go_wp2
    go_ret
    exact ⟨ret_int E.out.symm, rfl⟩

/-- the sums of pieces after k rounds -/
def ads (x y : Nat → Int) (k : Nat) : Nat → Int := fun j => if j < k then x j + y j else x j
theorem ads_step (x y : Nat → Int) (k : Nat) (X : Int) (hX : X = ads x y k k + y k) (j : Nat) : upd (ads x y k) k X j = ads x y (k + 1) j := by
  subst hX
  unfold upd ads
  by_cases h : j = k
  · subst h; simp
  · rw [if_neg h]
    by_cases h2 : j < k
    · rw [if_pos h2, if_pos (by omega)]
    · rw [if_neg h2, if_neg (by omega)]
theorem ads_tl (x y : Nat → Int) : tl (ads x y 8) 0 8 = tl x 0 8 + tl y 0 8 := by
  simp [tl, ads]; omega
set_option maxRecDepth 100000 in
set_option maxHeartbeats 1000000 in
theorem add_any (x y : Nat → Int) (w : World) (hx : ∀ j, j ≤ 7 → -274877906944 ≤ x j ∧ x j ≤ 274877906943) (hy : ∀ j, j ≤ 7 → -274877906944 ≤ y j ∧ y j ≤ 274877906943) :
    Calls Try.prog 11 #[.agg (ints 8 x), .agg (ints 8 y)] w fun e w' => e = .returned (.agg (ints 8 (cn (tl x 0 8 + tl y 0 8)))) ∧ Below w.heap.size w w' := by
  have Hx := Lib.hid hx
  have Hy := Lib.hid hy
  clear hx hy
  go_enter Try.func11, Try.ntmps11
  go_wp2
  go_loopw [5] (fun i wr => ∃ k : Nat, k ≤ 8 ∧ i = .int .i64 k ∧ Arr wr w.heap.size 27 8 (ads x y k) ∧ Arr wr (w.heap.size + 1) 27 8 y ∧ Arr wr (w.heap.size + 2) 27 8 (fun _ => 0) ∧ Below w.heap.size w wr) (fun i _ => 8 - (intOf i).toNat)
  case atStart =>
    have h2 := Arr.new (w.alloc (.cells (ints 8 x) 27)) 27 8 y
    have h3 := Arr.new ((w.alloc (.cells (ints 8 x) 27)).alloc (.cells (ints 8 y) 27)) 27 8 (fun _ => 0)
    simp only [World.size_alloc] at h2 h3
    exact ⟨0, by omega, rfl, ((Arr.new w _ 8 x).alloc _).alloc _, h2.alloc _, h3, (((Below.refl _ _).alloc (Nat.le_refl _) _).alloc (by simp) _).alloc (by simp; omega) _⟩
  case round =>
    obtain ⟨k, hk, rfl, hA, hY, hZ, hB⟩ := hrel
    by_cases h7 : k = 8
    · subst h7
      have HA := Lib.hid hA
      have HZ := Lib.hid hZ
      have Hbd : Hid (∀ j, j ≤ 7 → -549755813888 ≤ ads x y 8 j ∧ ads x y 8 j ≤ 549755813888) := fun j hj => by
        have := Hx.out j hj
        have := Hy.out j hj
        unfold ads; rw [if_pos (by omega)]; omega
      clear hA hZ hY
      go_wp2_with (first
        | (refine wpList_load_arr rfl 27 _ rfl w.heap.size rfl HA.out Try.underlying27 sz8 ?_)
        | (go_at_call 21; refine (even_any (ads x y 8) _ Hbd.out).mono ?_; rintro e w1 ⟨rfl, hb1⟩; have HZ1 := Lib.hid (HZ.out.below hb1 HZ.out.lt); have HB1 := Lib.hid hb1; clear hb1)
        | (refine wpList_store_arr rfl 27 _ _ rfl (w.heap.size + 1 + 1) 8 _ rfl rfl HZ1.out sz8 ?_))
      exact ret_arr rfl rfl rfl (HZ1.out.setRow _) Try.underlying27 sz8 ⟨ret_eq (congrArg Value.agg (by rw [ads_tl])), below_setRow (hB.trans (HB1.out.mono hB.size)) (by omega) _⟩
    · have HA := Lib.hid hA
      have HY := Lib.hid hY
      have HZ := Lib.hid hZ
      have c0 := hA.cell (k := k) (by omega)
      have c1 := hY.cell (k := k) (by omega)
      have f0 := hA.free k
      clear hA hZ hY
      have b0 := Hx.out k (by omega)
      have b1 := Hy.out k (by omega)
      have a0 : ads x y k k = x k := by unfold ads; rw [if_neg (by omega)]
      rw [a0] at c0
      have A0 := Lib.hid a0
      clear a0
      have hlt : k < 8 := by omega
      go_wp2
      go_region
      all_goals go_wp2
      go_roundw
      case rel =>
        exact ⟨k + 1, by omega, by go_num, (HA.out.set k _).drew.congr (fun j _ => ads_step x y k _ (by rw [A0.out]) j), (HY.out.far (by simp) _).drew, (HZ.out.far (by simp) _).drew, (hB.setCell (by simp) _).drew⟩
      case measure => simp [intOf]; omega

set_option maxRecDepth 100000 in
set_option maxHeartbeats 2000000 in
theorem of_any (n : Int) (w : World) (hn : Fits n) :
    Calls Try.prog 13 #[.int .i64 n] w fun e w' => e = .returned (.agg (ints 8 (cn n))) ∧ Below w.heap.size w w' := by
  have Hn := Lib.hid hn
  clear hn
  go_enter Try.func13, Try.ntmps13
  go_wp2
  go_loopw [0, 4] (fun v i wr => ∃ k : Nat, k ≤ 4 ∧ i = .int .i64 k ∧ v = .int .i64 (dv n k) ∧ Arr wr w.heap.size 27 8 (fun _ => 0) ∧ Arr wr (w.heap.size + 1) 27 8 (ofs n k) ∧ Below w.heap.size w wr) (fun _ i _ => 4 - (intOf i).toNat)
  case atStart =>
    have h2 := Arr.new (w.alloc (.cells (ints 8 (fun _ => 0)) 27)) 27 8 (fun _ => 0)
    simp only [World.size_alloc] at h2
    exact ⟨0, by omega, rfl, rfl, (Arr.new w _ 8 (fun _ => 0)).alloc _, h2, ((Below.refl _ _).alloc (Nat.le_refl _) _).alloc (by simp) _⟩
  case round =>
    obtain ⟨k, hk, rfl, rfl, hZ, hA, hB⟩ := hrel
    by_cases h7 : k = 4
    · subst h7
      have HA := Lib.hid hA
      have HZ := Lib.hid hZ
      have Hbd : Hid (∀ j, j ≤ 7 → -549755813888 ≤ ofs n 4 j ∧ ofs n 4 j ≤ 549755813888) := fun j _ => by
        have := dv_bd n Hn.out
        unfold ofs
        by_cases h : j < 4
        · rw [if_pos h]; split <;> omega
        · rw [if_neg h]; omega
      clear hA hZ
      go_wp2_with (first
        | (refine wpList_load_arr rfl 27 _ rfl (w.heap.size + 1) rfl HA.out Try.underlying27 sz8 ?_)
        | (go_at_call 21; refine (even_any (ofs n 4) _ Hbd.out).mono ?_; rintro e w1 ⟨rfl, hb1⟩; have HZ1 := Lib.hid (HZ.out.below hb1 HZ.out.lt); have HB1 := Lib.hid hb1; clear hb1)
        | (refine wpList_store_arr rfl 27 _ _ rfl w.heap.size 8 _ rfl rfl HZ1.out sz8 ?_))
      exact ret_arr rfl rfl rfl (HZ1.out.setRow _) Try.underlying27 sz8 ⟨ret_eq (congrArg Value.agg (by rw [ofs_tl])), below_setRow (hB.trans (HB1.out.mono hB.size)) (Nat.le_refl _) _⟩
    · have HA := Lib.hid hA
      have HZ := Lib.hid hZ
      have c0 := hA.cell (k := k) (by omega)
      have f0 := hA.free k
      clear hA hZ
      have hf := dv_fits n Hn.out k (by omega)
      have lb := low_bd (dv n k)
      have tb := tdiv_bd (dv n k) hf
      have cb := car_bd (dv n k) (dv n k % 65536)
      have tc := Lib.hid (tdiv_car (dv n k))
      unfold Fits at hf
      have hlt : k < 4 := by omega
      have l3 : k = 3 → -32768 ≤ dv n k ∧ dv n k ≤ 32767 := fun h => by subst h; exact ⟨(dv_bd n Hn.out).2.2.1, (dv_bd n Hn.out).2.2.2⟩
      by_cases hn : (dv n k).tmod 65536 < 0
      · have hng : dv n k < 0 := (tmod_sign _ _ (by omega)).1 hn
        have l := Lib.hid (low_neg _ hn)
        by_cases h3 : k = 3
        · have hk3 : ((k : Int) == 3) = true := by subst h3; rfl
          have l3' := l3 h3
          have H3 := Lib.hid h3
          clear h3 l3
          go_wp2_with (go_at_call 23; refine (carry_any _ _ _).mono ?_; rintro e w' ⟨rfl, rfl⟩)
          go_roundw
          case rel => exact ⟨k + 1, by omega, by go_num, by rw [l.out.1, wrap_in _ (by rw [tc.out]; unfold Fits; omega), tc.out]; rfl, ((HZ.out.far (by simp) _).far (by simp) _), ((HA.out.set k _).set k _).congr (fun j _ => (upd2 _ k _ _ j).trans (ofs_step n k _ (by rw [if_pos H3.out, show dv n 3 = dv n k from by rw [H3.out]]; have := l.out.1; omega) j)), ((hB.setCell (by simp) _).setCell (by simp) _)⟩
          case measure => simp [intOf]; omega
        · have hk3 : ((k : Int) == 3) = false := by simp; omega
          have H3 := Lib.hid h3
          clear h3 l3
          go_wp2_with (go_at_call 23; refine (carry_any _ _ _).mono ?_; rintro e w' ⟨rfl, rfl⟩)
          go_roundw
          case rel => exact ⟨k + 1, by omega, by go_num, by rw [l.out.1, wrap_in _ (by rw [tc.out]; unfold Fits; omega), tc.out]; rfl, (HZ.out.far (by simp) _), (HA.out.set k _).congr (fun j _ => ofs_step n k _ (by rw [if_neg H3.out]; exact l.out.1) j), (hB.setCell (by simp) _)⟩
          case measure => simp [intOf]; omega
      · have l := Lib.hid (low_pos (dv n k) hn)
        by_cases h3 : k = 3
        · have hk3 : ((k : Int) == 3) = true := by subst h3; rfl
          have l3' := l3 h3
          have hng : ¬ dv n k < 0 := fun h => by
            have := l.out.1
            have := (tmod_sign (dv n k) 65536 (by omega))
            omega
          have H3 := Lib.hid h3
          clear h3 l3
          go_wp2_with (go_at_call 23; refine (carry_any _ _ _).mono ?_; rintro e w' ⟨rfl, rfl⟩)
          go_roundw
          case rel => exact ⟨k + 1, by omega, by go_num, by rw [tc.out]; rfl, (HZ.out.far (by simp) _), (HA.out.set k _).congr (fun j _ => ofs_step n k _ (by rw [if_pos H3.out, show dv n 3 = dv n k from by rw [H3.out]]; have := l.out.1; omega) j), (hB.setCell (by simp) _)⟩
          case measure => simp [intOf]; omega
        · have hk3 : ((k : Int) == 3) = false := by simp; omega
          have H3 := Lib.hid h3
          clear h3 l3
          go_wp2_with (go_at_call 23; refine (carry_any _ _ _).mono ?_; rintro e w' ⟨rfl, rfl⟩)
          go_roundw
          case rel => exact ⟨k + 1, by omega, by go_num, by rw [l.out.1, wrap_in _ (by rw [tc.out]; unfold Fits; omega), tc.out]; rfl, (HZ.out.far (by simp) _), (HA.out.set k _).congr (fun j _ => ofs_step n k _ (by rw [if_neg H3.out]; exact l.out.1) j), (hB.setCell (by simp) _)⟩
          case measure => simp [intOf]; omega
end Go.Proofs.Ytnbgmnjmandolaa
