/-
  THE WALKS of clock.Join and Split.
-/
import Derived.Test.YtbejbagpdjfgmaaDoorText
import Derived.Test.YtbejbagpdjfgmaaDoorCivOf
namespace Go.Proofs.YtbejbagpdjfgmaaDoor
open Go Go.RowKit CivM NumM
set_option maxHeartbeats 2000000 in
theorem join_ok (y m d s : Int) (w : World) (hA : Ahead w) (hv : Valid y m d) (h1 : -604800 < s) (h2 : s < 604800) :
    Calls Tryd.prog 9 #[.agg #[.int .i64 y, .int .i64 m, .int .i64 d], .int .i64 s] w fun e w' => e = .returned (.tuple #[.int .i64 (num y m d * 86400 + s), .int .i64 0]) ∧ Below w.heap.size w w' := by
  have nb := num_bd hv
  have HA := Lib.hid hA
  have HV := Lib.hid hv
  have hb0 : Below w.heap.size w (w.alloc (.cells #[.int .i64 y, .int .i64 m, .int .i64 d] 23)) := (Below.refl _ _).alloc (Nat.le_refl _) _
  have HB0 := Lib.hid hb0
  have hs0 : (w.alloc (.cells #[.int .i64 y, .int .i64 m, .int .i64 d] 23)).heap.size = w.heap.size + 1 := by simp
  clear hA hv hb0
  obtain ⟨N, hN⟩ : ∃ N, num y m d = N := ⟨_, rfl⟩
  rw [hN] at nb ⊢
  have HN := Lib.hid hN
  obtain ⟨nb1, nb2⟩ := nb
  clear hN
  go_enter Tryd.func9, Tryd.ntmps9
  go_wp2_with fail
  refine (days_ok y m d _ (HA.out.below HB0.out) HV.out).mono ?_
  rintro e w1 ⟨rfl, hb⟩
  have HB1 := Lib.hid (HB0.out.trans (hb.mono (by omega)))
  clear hb
  rw [HN.out]
  go_wp2_with fail
  refine (may_yes s _ h1 h2).mono ?_
  rintro e w9 ⟨rfl, rfl⟩
  go_wp2_with fail
  go_ret2
  exact ⟨rfl, HB1.out⟩
set_option maxHeartbeats 2000000 in
theorem join_bad (y m d s : Int) (w : World) (hA : Ahead w) (hv : ¬ Valid y m d) :
    Calls Tryd.prog 9 #[.agg #[.int .i64 y, .int .i64 m, .int .i64 d], .int .i64 s] w fun e w' => e = .returned (.tuple #[.int .i64 0, .int .i64 10]) ∧ Below w.heap.size w w' := by
  have HA := Lib.hid hA
  have HV := Lib.hid hv
  have hb0 : Below w.heap.size w (w.alloc (.cells #[.int .i64 y, .int .i64 m, .int .i64 d] 23)) := (Below.refl _ _).alloc (Nat.le_refl _) _
  have HB0 := Lib.hid hb0
  have hs0 : (w.alloc (.cells #[.int .i64 y, .int .i64 m, .int .i64 d] 23)).heap.size = w.heap.size + 1 := by simp
  clear hA hv hb0
  go_enter Tryd.func9, Tryd.ntmps9
  go_wp2_with fail
  refine (days_no y m d _ (HA.out.below HB0.out) HV.out).mono ?_
  rintro e w1 ⟨rfl, hb⟩
  have HB1 := Lib.hid (HB0.out.trans (hb.mono (by omega)))
  clear hb
  go_wp2_with fail
  go_ret2
  exact ⟨rfl, HB1.out⟩
set_option maxHeartbeats 2000000 in
theorem join_far (y m d s : Int) (w : World) (hA : Ahead w) (hv : Valid y m d) (h : s ≤ -604800 ∨ 604800 ≤ s) :
    Calls Tryd.prog 9 #[.agg #[.int .i64 y, .int .i64 m, .int .i64 d], .int .i64 s] w fun e w' => e = .returned (.tuple #[.int .i64 0, .int .i64 10]) ∧ Below w.heap.size w w' := by
  have HA := Lib.hid hA
  have HV := Lib.hid hv
  have hb0 : Below w.heap.size w (w.alloc (.cells #[.int .i64 y, .int .i64 m, .int .i64 d] 23)) := (Below.refl _ _).alloc (Nat.le_refl _) _
  have HB0 := Lib.hid hb0
  have hs0 : (w.alloc (.cells #[.int .i64 y, .int .i64 m, .int .i64 d] 23)).heap.size = w.heap.size + 1 := by simp
  clear hA hv hb0
  rcases h with h | h
  ·
    go_enter Tryd.func9, Tryd.ntmps9
    go_wp2_with fail
    refine (days_ok y m d _ (HA.out.below HB0.out) HV.out).mono ?_
    rintro e w1 ⟨rfl, hb⟩
    have HB1 := Lib.hid (HB0.out.trans (hb.mono (by omega)))
    clear hb
    go_wp2_with fail
    refine (may_lo s _ h).mono ?_
    rintro e w9 ⟨rfl, rfl⟩
    go_wp2_with fail
    go_ret2
    exact ⟨rfl, HB1.out⟩
  ·
    go_enter Tryd.func9, Tryd.ntmps9
    go_wp2_with fail
    refine (days_ok y m d _ (HA.out.below HB0.out) HV.out).mono ?_
    rintro e w1 ⟨rfl, hb⟩
    have HB1 := Lib.hid (HB0.out.trans (hb.mono (by omega)))
    clear hb
    go_wp2_with fail
    refine (may_hi s _ h).mono ?_
    rintro e w9 ⟨rfl, rfl⟩
    go_wp2_with fail
    go_ret2
    exact ⟨rfl, HB1.out⟩
set_option maxHeartbeats 2000000 in
theorem split_ok (y m d s : Int) (w : World) (hA : Ahead w) (hv : Valid y m d) (hf : Fits s) (hs : s / 86400 = num y m d) :
    Calls Tryd.prog 13 #[.int .i64 s] w fun e w' => e = .returned (.tuple #[.agg #[.int .i64 y, .int .i64 m, .int .i64 d], .int .i64 (s % 86400), .int .i64 0]) ∧ Below w.heap.size w w' := by
  have HA := Lib.hid hA
  have nb := num_bd hv
  rw [← hs] at nb
  obtain ⟨nb1, nb2⟩ := nb
  have SO := Lib.hid (fun w hA => hs ▸ of_ok y m d w hA hv)
  clear hA hv hs
  unfold Fits at hf
  obtain ⟨f1, f2⟩ := hf
  have HBw := Lib.hid (Below.refl w.heap.size w)
  go_enter Tryd.func13, Tryd.ntmps13
  go_upto_region 1 with fail
  generalize hW0 : w.alloc (.cells #[.int .i64 0, .int .i64 0, .int .i64 0] 23) = W0
  have k0 : Dt W0 w.heap.size 0 0 0 := by rw [← hW0]; exact Dt.new w 0 0 0
  have s0 : W0.heap.size = w.heap.size + 1 := by rw [← hW0]; simp
  have hb0 : Below w.heap.size w W0 := by rw [← hW0]; exact (Below.refl _ _).alloc (Nat.le_refl _) _
  have HK0 := Lib.hid k0
  have HB0 := Lib.hid hb0
  clear hW0 k0 hb0
  go_wp2_with fail
  refine (div_pos s 86400 _ ⟨f1, f2⟩ (by decide)).mono ?_
  rintro e w9 ⟨rfl, rfl⟩
  go_wp2_with fail
  refine (SO.out _ (HA.out.below HB0.out)).mono ?_
  rintro e W1 ⟨rfl, hb⟩
  have HK1 := Lib.hid (HK0.out.below hb (by omega))
  have HB1 := Lib.hid (HB0.out.trans (hb.mono (by omega)))
  obtain ⟨z0, z1, z2⟩ := HK1.out.cells
  have g0 := HK1.out.free 0
  have g1 := HK1.out.free 1
  have g2 := HK1.out.free 2
  clear hb
  go_upto_region 3 with fail
  generalize hX : W1.alloc (.cells #[.int .i64 y, .int .i64 m, .int .i64 d] 23) = W2
  have s2 : W2.heap.size = W1.heap.size + 1 := by rw [← hX]; simp
  have b2 : Below W1.heap.size W1 W2 := by rw [← hX]; exact (Below.refl _ _).alloc (Nat.le_refl _) _
  have kd : Dt W2 W1.heap.size (y) (m) (d) := by rw [← hX]; exact Dt.new W1 _ _ _
  have sw1 : w.heap.size < W1.heap.size := HK1.out.lt
  have HK2 := Lib.hid (HK1.out.below b2 sw1)
  have HB2 := Lib.hid (HB1.out.trans (b2.mono (by omega)))
  obtain ⟨y0, y1, y2⟩ := kd.cells
  clear hX b2 kd z0 z1 z2 g0 g1 g2
  obtain ⟨z0, z1, z2⟩ := HK2.out.cells
  have g0 := HK2.out.free 0
  have g1 := HK2.out.free 1
  have g2 := HK2.out.free 2
  have hlt2 : w.heap.size < W2.heap.size := by omega
  go_wp2_with fail
  have hrow : ((((W2.setCell ⟨w.heap.size, 0, none⟩ (.int .i64 y)).setCell ⟨w.heap.size, 1, none⟩ (.int .i64 m)).setCell ⟨w.heap.size, 2, none⟩ (.int .i64 d))).heap[w.heap.size]? = some (.cells #[.int .i64 y, .int .i64 m, .int .i64 d] 23 (0, 0)) := ((HK2.out.set0 _).set1 _).set2 _
  have e0 := cell_of_row _ w.heap.size 0 _ _ _ hrow
  have e1 := cell_of_row _ w.heap.size 1 _ _ _ hrow
  have e2 := cell_of_row _ w.heap.size 2 _ _ _ hrow
  refine bodyPost_ret (v := .tuple #[.agg #[.int .i64 y, .int .i64 m, .int .i64 d], .int .i64 (s - s / 86400 * 86400), .int .i64 0]) ?_ rfl ⟨by rw [show s - s / 86400 * 86400 = s % 86400 by omega], ((HB2.out.setCell (by simp only; omega) _).setCell (by simp only; omega) _).setCell (by simp only; omega) _⟩
  simp [results, Tryd.f13, go_sem, e0, e1, e2]
set_option maxHeartbeats 2000000 in
theorem split_no (s : Int) (w : World) (hf : Fits s) (hs : ¬ (-37243778 ≤ s / 86400 ∧ s / 86400 ≤ 35805087)) :
    Calls Tryd.prog 13 #[.int .i64 s] w fun e w' => e = .returned (.tuple #[.agg #[.int .i64 0, .int .i64 0, .int .i64 0], .int .i64 0, .int .i64 10]) ∧ Below w.heap.size w w' := by
  have SO := Lib.hid (fun w => of_no (s / 86400) w ⟨by have := hf.1; omega, by have := hf.2; omega⟩ hs)
  clear hs
  unfold Fits at hf
  obtain ⟨f1, f2⟩ := hf
  have HBw := Lib.hid (Below.refl w.heap.size w)
  go_enter Tryd.func13, Tryd.ntmps13
  go_upto_region 1 with fail
  generalize hW0 : w.alloc (.cells #[.int .i64 0, .int .i64 0, .int .i64 0] 23) = W0
  have k0 : Dt W0 w.heap.size 0 0 0 := by rw [← hW0]; exact Dt.new w 0 0 0
  have s0 : W0.heap.size = w.heap.size + 1 := by rw [← hW0]; simp
  have hb0 : Below w.heap.size w W0 := by rw [← hW0]; exact (Below.refl _ _).alloc (Nat.le_refl _) _
  have HK0 := Lib.hid k0
  have HB0 := Lib.hid hb0
  clear hW0 k0 hb0
  go_wp2_with fail
  refine (div_pos s 86400 _ ⟨f1, f2⟩ (by decide)).mono ?_
  rintro e w9 ⟨rfl, rfl⟩
  go_wp2_with fail
  refine (SO.out _).mono ?_
  rintro e W1 ⟨rfl, hb⟩
  have HK1 := Lib.hid (HK0.out.below hb (by omega))
  have HB1 := Lib.hid (HB0.out.trans (hb.mono (by omega)))
  obtain ⟨z0, z1, z2⟩ := HK1.out.cells
  have g0 := HK1.out.free 0
  have g1 := HK1.out.free 1
  have g2 := HK1.out.free 2
  clear hb
  go_upto_region 3 with fail
  generalize hX : W1.alloc (.cells #[.int .i64 0, .int .i64 0, .int .i64 0] 23) = W2
  have s2 : W2.heap.size = W1.heap.size + 1 := by rw [← hX]; simp
  have b2 : Below W1.heap.size W1 W2 := by rw [← hX]; exact (Below.refl _ _).alloc (Nat.le_refl _) _
  have kd : Dt W2 W1.heap.size (0) (0) (0) := by rw [← hX]; exact Dt.new W1 _ _ _
  have sw1 : w.heap.size < W1.heap.size := HK1.out.lt
  have HK2 := Lib.hid (HK1.out.below b2 sw1)
  have HB2 := Lib.hid (HB1.out.trans (b2.mono (by omega)))
  obtain ⟨y0, y1, y2⟩ := kd.cells
  clear hX b2 kd z0 z1 z2 g0 g1 g2
  obtain ⟨z0, z1, z2⟩ := HK2.out.cells
  have g0 := HK2.out.free 0
  have g1 := HK2.out.free 1
  have g2 := HK2.out.free 2
  have hlt2 : w.heap.size < W2.heap.size := by omega
  go_wp2_with fail
  have hrow : ((((W2.setCell ⟨w.heap.size, 0, none⟩ (.int .i64 0)).setCell ⟨w.heap.size, 1, none⟩ (.int .i64 0)).setCell ⟨w.heap.size, 2, none⟩ (.int .i64 0))).heap[w.heap.size]? = some (.cells #[.int .i64 0, .int .i64 0, .int .i64 0] 23 (0, 0)) := ((HK2.out.set0 _).set1 _).set2 _
  have e0 := cell_of_row _ w.heap.size 0 _ _ _ hrow
  have e1 := cell_of_row _ w.heap.size 1 _ _ _ hrow
  have e2 := cell_of_row _ w.heap.size 2 _ _ _ hrow
  refine bodyPost_ret (v := .tuple #[.agg #[.int .i64 0, .int .i64 0, .int .i64 0], .int .i64 0, .int .i64 10]) ?_ rfl ⟨rfl, ((HB2.out.setCell (by simp only; omega) _).setCell (by simp only; omega) _).setCell (by simp only; omega) _⟩
  simp [results, Tryd.f13, go_sem, e0, e1, e2]
end Go.Proofs.YtbejbagpdjfgmaaDoor
