/-
  THE LAW DayformWeeks, walked.
-/
import Derived.Test.YtmkbfjklhejdnaaDoorDfTurns
namespace Go.Proofs.YtmkbfjklhejdnaaDoor.dayformWeeks
open Go Go.RowKit CivM NumM
set_option maxRecDepth 100000 in
set_option maxHeartbeats 2000000 in
theorem walk_bad (k wk n y m e : Int) (w : World) (h : Reads w) (q : (e != 0) = true) (hA : InIs k wk n y m 0 0 0 e) :
    Calls Tryd.prog 5 #[.agg #[.int .i64 k, .int .i64 wk, .int .i64 n], .int .i64 y, .int .i64 m] w (One w) := by
  have HR := Lib.hid h
  have HBw := Lib.hid (Below.refl w.heap.size w)
  have SA := Lib.hid hA
  clear h hA
  go_enter Tryd.func5, Tryd.ntmps5
  go_upto_region 1 with fail
  generalize hX : w.alloc (.cells #[.int .i64 k, .int .i64 wk, .int .i64 n] 24) = v0
  have sv0 : v0.heap.size = w.heap.size + 1 := by rw [← hX]; simp
  have bv0 : Below w.heap.size w v0 := by rw [← hX]; exact (Below.refl _ _).alloc (Nat.le_refl _) _
  have HYv0 := Lib.hid (show v0.heap[w.heap.size]? = some (.cells #[.int .i64 k, .int .i64 wk, .int .i64 n] 24 (0, 0)) by rw [← hX]; exact heap_alloc_new w _)
  have HBv0 := Lib.hid (HBw.out.trans (bv0.mono HBw.out.size))
  clear hX
  obtain ⟨p0, p1, p2⟩ := row3_cells HYv0.out
  go_wp2_with fail
  refine (SA.out _ (HR.out.below HBv0.out).a).mono ?_
  rintro e w1 ⟨rfl, hbw1⟩
  have HBw1 := Lib.hid (HBv0.out.trans (hbw1.mono HBv0.out.size))
  have HD1 := Lib.hid ((hbw1.block w.heap.size (by omega)).trans HYv0.out)
  have sw1 := hbw1.size
  clear hbw1 p0 p1 p2
  go_upto_region 2 with fail
  generalize hX : w1.alloc (.cells #[.int .i64 0, .int .i64 0, .int .i64 0] 31) = v1
  have sv1 : v1.heap.size = w1.heap.size + 1 := by rw [← hX]; simp
  have bv1 : Below w1.heap.size w1 v1 := by rw [← hX]; exact (Below.refl _ _).alloc (Nat.le_refl _) _
  have HYv1 := Lib.hid (show v1.heap[w1.heap.size]? = some (.cells #[.int .i64 0, .int .i64 0, .int .i64 0] 31 (0, 0)) by rw [← hX]; exact heap_alloc_new w1 _)
  have HBv1 := Lib.hid (HBw1.out.trans (bv1.mono HBw1.out.size))
  clear hX
  obtain ⟨p0, p1, p2⟩ := row3_cells HYv1.out
  go_wp2_with fail
  refine (awake_any _ (HR.out.below HBv1.out)).mono ?_
  rintro e w2 ⟨rfl, hbw2⟩
  have HBw2 := Lib.hid (HBv1.out.trans (hbw2.mono HBv1.out.size))
  clear p0 p1 p2
  go_wp2_with fail
  go_ret
  exact ⟨rfl, HBw2.out⟩
set_option maxRecDepth 100000 in
set_option maxHeartbeats 2000000 in
theorem walk_fixed (wk n y m a1 a2 a3 X T : Int) (w : World) (h : Reads w) (hA : InIs 0 wk n y m a1 a2 a3 0) (va : Valid a1 a2 a3) (na : num a1 a2 a3 = X) (vt : Valid y m n) (nt : num y m n = T) (hp : X = T) :
    Calls Tryd.prog 5 #[.agg #[.int .i64 0, .int .i64 wk, .int .i64 n], .int .i64 y, .int .i64 m] w (One w) := by
  have HXb := Lib.hid (na ▸ num_bd va)
  have DA := Lib.hid (fun w hA => na ▸ days_ok a1 a2 a3 w hA va)
  have DT := Lib.hid (fun w hA => nt ▸ days_ok y m n w hA vt)
  have HTb := Lib.hid (nt ▸ num_bd vt)
  have HL := Lib.hid (fun w hA => long_ok y m w hA vt.y1 vt.y2 vt.m1 vt.m2)
  have HP := Lib.hid hp
  clear va na nt vt hp
  have HR := Lib.hid h
  have HBw := Lib.hid (Below.refl w.heap.size w)
  have SA := Lib.hid hA
  clear h hA
  go_enter Tryd.func5, Tryd.ntmps5
  go_upto_region 1 with fail
  generalize hX : w.alloc (.cells #[.int .i64 0, .int .i64 wk, .int .i64 n] 24) = v0
  have sv0 : v0.heap.size = w.heap.size + 1 := by rw [← hX]; simp
  have bv0 : Below w.heap.size w v0 := by rw [← hX]; exact (Below.refl _ _).alloc (Nat.le_refl _) _
  have HYv0 := Lib.hid (show v0.heap[w.heap.size]? = some (.cells #[.int .i64 0, .int .i64 wk, .int .i64 n] 24 (0, 0)) by rw [← hX]; exact heap_alloc_new w _)
  have HBv0 := Lib.hid (HBw.out.trans (bv0.mono HBw.out.size))
  clear hX
  obtain ⟨p0, p1, p2⟩ := row3_cells HYv0.out
  go_wp2_with fail
  refine (SA.out _ (HR.out.below HBv0.out).a).mono ?_
  rintro e w1 ⟨rfl, hbw1⟩
  have HBw1 := Lib.hid (HBv0.out.trans (hbw1.mono HBv0.out.size))
  have HD1 := Lib.hid ((hbw1.block w.heap.size (by omega)).trans HYv0.out)
  have sw1 := hbw1.size
  clear hbw1 p0 p1 p2
  go_upto_region 2 with fail
  generalize hX : w1.alloc (.cells #[.int .i64 a1, .int .i64 a2, .int .i64 a3] 31) = v1
  have sv1 : v1.heap.size = w1.heap.size + 1 := by rw [← hX]; simp
  have bv1 : Below w1.heap.size w1 v1 := by rw [← hX]; exact (Below.refl _ _).alloc (Nat.le_refl _) _
  have HYv1 := Lib.hid (show v1.heap[w1.heap.size]? = some (.cells #[.int .i64 a1, .int .i64 a2, .int .i64 a3] 31 (0, 0)) by rw [← hX]; exact heap_alloc_new w1 _)
  have HBv1 := Lib.hid (HBw1.out.trans (bv1.mono HBw1.out.size))
  clear hX
  have HD1b := Lib.hid ((bv1.block w.heap.size (by omega)).trans HD1.out)
  obtain ⟨p0, p1, p2⟩ := row3_cells HYv1.out
  go_wp2_with fail
  refine (DA.out _ (HR.out.below HBv1.out).a).mono ?_
  rintro e w2 ⟨rfl, hbw2⟩
  have HBw2 := Lib.hid (HBv1.out.trans (hbw2.mono HBv1.out.size))
  have HD2 := Lib.hid ((hbw2.block w.heap.size (by omega)).trans HD1b.out)
  have sw2 := hbw2.size
  clear hbw2 p0 p1 p2
  go_wp2_with fail
  refine (HL.out _ (HR.out.below HBw2.out).a).mono ?_
  rintro e w3 ⟨rfl, hbw3⟩
  have HBw3 := Lib.hid (HBw2.out.trans (hbw3.mono HBw2.out.size))
  have HD3 := Lib.hid ((hbw3.block w.heap.size (by omega)).trans HD2.out)
  have sw3 := hbw3.size
  clear hbw3
  obtain ⟨p0, p1, p2⟩ := row3_cells HD3.out
  go_wp2_with fail
  refine (DT.out _ (HR.out.below HBw3.out).a).mono ?_
  rintro e w4 ⟨rfl, hbw4⟩
  have HBw4 := Lib.hid (HBw3.out.trans (hbw4.mono HBw3.out.size))
  have HD4 := Lib.hid ((hbw4.block w.heap.size (by omega)).trans HD3.out)
  have sw4 := hbw4.size
  clear hbw4 p0 p1 p2
  obtain ⟨p0, p1, p2⟩ := row3_cells HD4.out
  obtain ⟨x1, x2⟩ := HXb.out
  obtain ⟨t1, t2⟩ := HTb.out
  clear HXb HTb
  have hX := HP.out
  clear HP
  subst hX
  go_wp2_with fail
  refine (awake_any _ (HR.out.below HBw4.out)).mono ?_
  rintro e w5 ⟨rfl, hbw5⟩
  have HBw5 := Lib.hid (HBw4.out.trans (hbw5.mono HBw4.out.size))
  clear p0 p1 p2
  go_wp2_with fail
  go_ret
  exact ⟨rfl, HBw5.out⟩
set_option maxRecDepth 100000 in
set_option maxHeartbeats 2000000 in
theorem walk_noless (wk n y m a1 a2 a3 X T : Int) (w : World) (h : Reads w) (hA : InIs 2 wk n y m a1 a2 a3 0) (va : Valid a1 a2 a3) (na : num a1 a2 a3 = X) (vt : Valid y m n) (nt : num y m n = T) (hp : T ≤ X ∧ X ≤ T + 6 ∧ (X + 4) % 7 = wk) :
    Calls Tryd.prog 5 #[.agg #[.int .i64 2, .int .i64 wk, .int .i64 n], .int .i64 y, .int .i64 m] w (One w) := by
  have HXb := Lib.hid (na ▸ num_bd va)
  have DA := Lib.hid (fun w hA => na ▸ days_ok a1 a2 a3 w hA va)
  have DT := Lib.hid (fun w hA => nt ▸ days_ok y m n w hA vt)
  have HTb := Lib.hid (nt ▸ num_bd vt)
  have HL := Lib.hid (fun w hA => long_ok y m w hA vt.y1 vt.y2 vt.m1 vt.m2)
  have HP := Lib.hid hp
  clear va na nt vt hp
  have HR := Lib.hid h
  have HBw := Lib.hid (Below.refl w.heap.size w)
  have SA := Lib.hid hA
  clear h hA
  go_enter Tryd.func5, Tryd.ntmps5
  go_upto_region 1 with fail
  generalize hX : w.alloc (.cells #[.int .i64 2, .int .i64 wk, .int .i64 n] 24) = v0
  have sv0 : v0.heap.size = w.heap.size + 1 := by rw [← hX]; simp
  have bv0 : Below w.heap.size w v0 := by rw [← hX]; exact (Below.refl _ _).alloc (Nat.le_refl _) _
  have HYv0 := Lib.hid (show v0.heap[w.heap.size]? = some (.cells #[.int .i64 2, .int .i64 wk, .int .i64 n] 24 (0, 0)) by rw [← hX]; exact heap_alloc_new w _)
  have HBv0 := Lib.hid (HBw.out.trans (bv0.mono HBw.out.size))
  clear hX
  obtain ⟨p0, p1, p2⟩ := row3_cells HYv0.out
  go_wp2_with fail
  refine (SA.out _ (HR.out.below HBv0.out).a).mono ?_
  rintro e w1 ⟨rfl, hbw1⟩
  have HBw1 := Lib.hid (HBv0.out.trans (hbw1.mono HBv0.out.size))
  have HD1 := Lib.hid ((hbw1.block w.heap.size (by omega)).trans HYv0.out)
  have sw1 := hbw1.size
  clear hbw1 p0 p1 p2
  go_upto_region 2 with fail
  generalize hX : w1.alloc (.cells #[.int .i64 a1, .int .i64 a2, .int .i64 a3] 31) = v1
  have sv1 : v1.heap.size = w1.heap.size + 1 := by rw [← hX]; simp
  have bv1 : Below w1.heap.size w1 v1 := by rw [← hX]; exact (Below.refl _ _).alloc (Nat.le_refl _) _
  have HYv1 := Lib.hid (show v1.heap[w1.heap.size]? = some (.cells #[.int .i64 a1, .int .i64 a2, .int .i64 a3] 31 (0, 0)) by rw [← hX]; exact heap_alloc_new w1 _)
  have HBv1 := Lib.hid (HBw1.out.trans (bv1.mono HBw1.out.size))
  clear hX
  have HD1b := Lib.hid ((bv1.block w.heap.size (by omega)).trans HD1.out)
  obtain ⟨p0, p1, p2⟩ := row3_cells HYv1.out
  go_wp2_with fail
  refine (DA.out _ (HR.out.below HBv1.out).a).mono ?_
  rintro e w2 ⟨rfl, hbw2⟩
  have HBw2 := Lib.hid (HBv1.out.trans (hbw2.mono HBv1.out.size))
  have HD2 := Lib.hid ((hbw2.block w.heap.size (by omega)).trans HD1b.out)
  have sw2 := hbw2.size
  clear hbw2 p0 p1 p2
  go_wp2_with fail
  refine (HL.out _ (HR.out.below HBw2.out).a).mono ?_
  rintro e w3 ⟨rfl, hbw3⟩
  have HBw3 := Lib.hid (HBw2.out.trans (hbw3.mono HBw2.out.size))
  have HD3 := Lib.hid ((hbw3.block w.heap.size (by omega)).trans HD2.out)
  have sw3 := hbw3.size
  clear hbw3
  obtain ⟨p0, p1, p2⟩ := row3_cells HD3.out
  go_wp2_with fail
  refine (DT.out _ (HR.out.below HBw3.out).a).mono ?_
  rintro e w4 ⟨rfl, hbw4⟩
  have HBw4 := Lib.hid (HBw3.out.trans (hbw4.mono HBw3.out.size))
  have HD4 := Lib.hid ((hbw4.block w.heap.size (by omega)).trans HD3.out)
  have sw4 := hbw4.size
  clear hbw4 p0 p1 p2
  obtain ⟨p0, p1, p2⟩ := row3_cells HD4.out
  obtain ⟨x1, x2⟩ := HXb.out
  obtain ⟨t1, t2⟩ := HTb.out
  clear HXb HTb
  obtain ⟨z1, z2, z3⟩ := HP.out
  have HZ := Lib.hid z3
  clear z3 HP
  go_upto_region 17 with fail
  have bW := bw_cell p1
  have hne := bw_ne w4
  have hfx : Fits X := by unfold Fits; omega
  have HFx := Lib.hid hfx
  have SW := Lib.hid (fun v : BW w4 => calls_bw_same (weekday_any X v.1 HFx.out))
  refine wp_region_bw (by kernel_rfl) (by kernel_rfl) ?_
  repeat (go_big_quiet_step (exact SW.out _))
  refine wpQuiet_nil ?_
  rintro w5 ⟨v5, e5⟩
  have b5 := v5.2
  rw [← e5] at b5
  have HD5 := Lib.hid ((b5.block w.heap.size (by omega)).trans HD4.out)
  have HBw5 := Lib.hid (HBw4.out.trans (b5.mono (by omega)))
  clear e5 v5 b5 bW hne p0 p1 p2 hfx
  obtain ⟨p0, p1, p2⟩ := row3_cells HD5.out
  rw [HZ.out]
  go_wp2_with fail
  refine (awake_any _ (HR.out.below HBw5.out)).mono ?_
  rintro e w6 ⟨rfl, hbw6⟩
  have HBw6 := Lib.hid (HBw5.out.trans (hbw6.mono HBw5.out.size))
  clear p0 p1 p2
  go_wp2_with fail
  go_ret
  exact ⟨rfl, HBw6.out⟩
set_option maxRecDepth 100000 in
set_option maxHeartbeats 2000000 in
theorem walk_nogreater (wk n y m a1 a2 a3 X T : Int) (w : World) (h : Reads w) (hA : InIs 3 wk n y m a1 a2 a3 0) (va : Valid a1 a2 a3) (na : num a1 a2 a3 = X) (vt : Valid y m n) (nt : num y m n = T) (hp : T - 6 ≤ X ∧ X ≤ T ∧ (X + 4) % 7 = wk) :
    Calls Tryd.prog 5 #[.agg #[.int .i64 3, .int .i64 wk, .int .i64 n], .int .i64 y, .int .i64 m] w (One w) := by
  have HXb := Lib.hid (na ▸ num_bd va)
  have DA := Lib.hid (fun w hA => na ▸ days_ok a1 a2 a3 w hA va)
  have DT := Lib.hid (fun w hA => nt ▸ days_ok y m n w hA vt)
  have HTb := Lib.hid (nt ▸ num_bd vt)
  have HL := Lib.hid (fun w hA => long_ok y m w hA vt.y1 vt.y2 vt.m1 vt.m2)
  have HP := Lib.hid hp
  clear va na nt vt hp
  have HR := Lib.hid h
  have HBw := Lib.hid (Below.refl w.heap.size w)
  have SA := Lib.hid hA
  clear h hA
  go_enter Tryd.func5, Tryd.ntmps5
  go_upto_region 1 with fail
  generalize hX : w.alloc (.cells #[.int .i64 3, .int .i64 wk, .int .i64 n] 24) = v0
  have sv0 : v0.heap.size = w.heap.size + 1 := by rw [← hX]; simp
  have bv0 : Below w.heap.size w v0 := by rw [← hX]; exact (Below.refl _ _).alloc (Nat.le_refl _) _
  have HYv0 := Lib.hid (show v0.heap[w.heap.size]? = some (.cells #[.int .i64 3, .int .i64 wk, .int .i64 n] 24 (0, 0)) by rw [← hX]; exact heap_alloc_new w _)
  have HBv0 := Lib.hid (HBw.out.trans (bv0.mono HBw.out.size))
  clear hX
  obtain ⟨p0, p1, p2⟩ := row3_cells HYv0.out
  go_wp2_with fail
  refine (SA.out _ (HR.out.below HBv0.out).a).mono ?_
  rintro e w1 ⟨rfl, hbw1⟩
  have HBw1 := Lib.hid (HBv0.out.trans (hbw1.mono HBv0.out.size))
  have HD1 := Lib.hid ((hbw1.block w.heap.size (by omega)).trans HYv0.out)
  have sw1 := hbw1.size
  clear hbw1 p0 p1 p2
  go_upto_region 2 with fail
  generalize hX : w1.alloc (.cells #[.int .i64 a1, .int .i64 a2, .int .i64 a3] 31) = v1
  have sv1 : v1.heap.size = w1.heap.size + 1 := by rw [← hX]; simp
  have bv1 : Below w1.heap.size w1 v1 := by rw [← hX]; exact (Below.refl _ _).alloc (Nat.le_refl _) _
  have HYv1 := Lib.hid (show v1.heap[w1.heap.size]? = some (.cells #[.int .i64 a1, .int .i64 a2, .int .i64 a3] 31 (0, 0)) by rw [← hX]; exact heap_alloc_new w1 _)
  have HBv1 := Lib.hid (HBw1.out.trans (bv1.mono HBw1.out.size))
  clear hX
  have HD1b := Lib.hid ((bv1.block w.heap.size (by omega)).trans HD1.out)
  obtain ⟨p0, p1, p2⟩ := row3_cells HYv1.out
  go_wp2_with fail
  refine (DA.out _ (HR.out.below HBv1.out).a).mono ?_
  rintro e w2 ⟨rfl, hbw2⟩
  have HBw2 := Lib.hid (HBv1.out.trans (hbw2.mono HBv1.out.size))
  have HD2 := Lib.hid ((hbw2.block w.heap.size (by omega)).trans HD1b.out)
  have sw2 := hbw2.size
  clear hbw2 p0 p1 p2
  go_wp2_with fail
  refine (HL.out _ (HR.out.below HBw2.out).a).mono ?_
  rintro e w3 ⟨rfl, hbw3⟩
  have HBw3 := Lib.hid (HBw2.out.trans (hbw3.mono HBw2.out.size))
  have HD3 := Lib.hid ((hbw3.block w.heap.size (by omega)).trans HD2.out)
  have sw3 := hbw3.size
  clear hbw3
  obtain ⟨p0, p1, p2⟩ := row3_cells HD3.out
  go_wp2_with fail
  refine (DT.out _ (HR.out.below HBw3.out).a).mono ?_
  rintro e w4 ⟨rfl, hbw4⟩
  have HBw4 := Lib.hid (HBw3.out.trans (hbw4.mono HBw3.out.size))
  have HD4 := Lib.hid ((hbw4.block w.heap.size (by omega)).trans HD3.out)
  have sw4 := hbw4.size
  clear hbw4 p0 p1 p2
  obtain ⟨p0, p1, p2⟩ := row3_cells HD4.out
  obtain ⟨x1, x2⟩ := HXb.out
  obtain ⟨t1, t2⟩ := HTb.out
  clear HXb HTb
  obtain ⟨z1, z2, z3⟩ := HP.out
  have HZ := Lib.hid z3
  clear z3 HP
  go_upto_region 17 with fail
  have bW := bw_cell p1
  have hne := bw_ne w4
  have hfx : Fits X := by unfold Fits; omega
  have HFx := Lib.hid hfx
  have SW := Lib.hid (fun v : BW w4 => calls_bw_same (weekday_any X v.1 HFx.out))
  refine wp_region_bw (by kernel_rfl) (by kernel_rfl) ?_
  repeat (go_big_quiet_step (exact SW.out _))
  refine wpQuiet_nil ?_
  rintro w5 ⟨v5, e5⟩
  have b5 := v5.2
  rw [← e5] at b5
  have HD5 := Lib.hid ((b5.block w.heap.size (by omega)).trans HD4.out)
  have HBw5 := Lib.hid (HBw4.out.trans (b5.mono (by omega)))
  clear e5 v5 b5 bW hne p0 p1 p2 hfx
  obtain ⟨p0, p1, p2⟩ := row3_cells HD5.out
  rw [HZ.out]
  go_wp2_with fail
  refine (awake_any _ (HR.out.below HBw5.out)).mono ?_
  rintro e w6 ⟨rfl, hbw6⟩
  have HBw6 := Lib.hid (HBw5.out.trans (hbw6.mono HBw5.out.size))
  clear p0 p1 p2
  go_wp2_with fail
  go_ret
  exact ⟨rfl, HBw6.out⟩
set_option maxRecDepth 100000 in
set_option maxHeartbeats 2000000 in
theorem walk_last (wk y m a3 L X T : Int) (w : World) (h : Reads w) (hA : InIs 1 wk 0 y m y m a3 0) (hB : InIs 3 wk L y m y m a3 0) (hL : dim y m = L) (va : Valid y m a3) (na : num y m a3 = X) (vt : Valid y m L) (nt : num y m L = T) (h3 : L - 7 < a3) (hp : T - 6 ≤ X ∧ X ≤ T ∧ (X + 4) % 7 = wk) :
    Calls Tryd.prog 5 #[.agg #[.int .i64 1, .int .i64 wk, .int .i64 0], .int .i64 y, .int .i64 m] w (One w) := by
  have HXb := Lib.hid (na ▸ num_bd va)
  have DA := Lib.hid (fun w hA => na ▸ days_ok y m a3 w hA va)
  have DT := Lib.hid (fun w hA => nt ▸ days_ok y m L w hA vt)
  have HTb := Lib.hid (nt ▸ num_bd vt)
  have HL := Lib.hid (fun w hA => hL ▸ long_ok y m w hA vt.y1 vt.y2 vt.m1 vt.m2)
  have HP := Lib.hid hp
  have SB := Lib.hid hB
  have lb := dim_bd y m
  rw [hL] at lb
  obtain ⟨lb1, lb2⟩ := lb
  clear va na nt vt hp hL hB
  have HR := Lib.hid h
  have HBw := Lib.hid (Below.refl w.heap.size w)
  have SA := Lib.hid hA
  clear h hA
  go_enter Tryd.func5, Tryd.ntmps5
  go_upto_region 1 with fail
  generalize hX : w.alloc (.cells #[.int .i64 1, .int .i64 wk, .int .i64 0] 24) = v0
  have sv0 : v0.heap.size = w.heap.size + 1 := by rw [← hX]; simp
  have bv0 : Below w.heap.size w v0 := by rw [← hX]; exact (Below.refl _ _).alloc (Nat.le_refl _) _
  have HYv0 := Lib.hid (show v0.heap[w.heap.size]? = some (.cells #[.int .i64 1, .int .i64 wk, .int .i64 0] 24 (0, 0)) by rw [← hX]; exact heap_alloc_new w _)
  have HBv0 := Lib.hid (HBw.out.trans (bv0.mono HBw.out.size))
  clear hX
  obtain ⟨p0, p1, p2⟩ := row3_cells HYv0.out
  go_wp2_with fail
  refine (SA.out _ (HR.out.below HBv0.out).a).mono ?_
  rintro e w1 ⟨rfl, hbw1⟩
  have HBw1 := Lib.hid (HBv0.out.trans (hbw1.mono HBv0.out.size))
  have HD1 := Lib.hid ((hbw1.block w.heap.size (by omega)).trans HYv0.out)
  have sw1 := hbw1.size
  clear hbw1 p0 p1 p2
  go_upto_region 2 with fail
  generalize hX : w1.alloc (.cells #[.int .i64 y, .int .i64 m, .int .i64 a3] 31) = v1
  have sv1 : v1.heap.size = w1.heap.size + 1 := by rw [← hX]; simp
  have bv1 : Below w1.heap.size w1 v1 := by rw [← hX]; exact (Below.refl _ _).alloc (Nat.le_refl _) _
  have HYv1 := Lib.hid (show v1.heap[w1.heap.size]? = some (.cells #[.int .i64 y, .int .i64 m, .int .i64 a3] 31 (0, 0)) by rw [← hX]; exact heap_alloc_new w1 _)
  have HBv1 := Lib.hid (HBw1.out.trans (bv1.mono HBw1.out.size))
  clear hX
  have HD1b := Lib.hid ((bv1.block w.heap.size (by omega)).trans HD1.out)
  obtain ⟨p0, p1, p2⟩ := row3_cells HYv1.out
  go_wp2_with fail
  refine (DA.out _ (HR.out.below HBv1.out).a).mono ?_
  rintro e w2 ⟨rfl, hbw2⟩
  have HBw2 := Lib.hid (HBv1.out.trans (hbw2.mono HBv1.out.size))
  have HD2 := Lib.hid ((hbw2.block w.heap.size (by omega)).trans HD1b.out)
  have HX2 := Lib.hid ((hbw2.block w1.heap.size (by omega)).trans HYv1.out)
  have sw2 := hbw2.size
  clear hbw2 p0 p1 p2
  go_wp2_with fail
  refine (HL.out _ (HR.out.below HBw2.out).a).mono ?_
  rintro e w3 ⟨rfl, hbw3⟩
  have HBw3 := Lib.hid (HBw2.out.trans (hbw3.mono HBw2.out.size))
  have HD3 := Lib.hid ((hbw3.block w.heap.size (by omega)).trans HD2.out)
  have HX3 := Lib.hid ((hbw3.block w1.heap.size (by omega)).trans HX2.out)
  have sw3 := hbw3.size
  clear hbw3
  obtain ⟨p0, p1, p2⟩ := row3_cells HD3.out
  go_wp2_with fail
  refine (SB.out _ (HR.out.below HBw3.out).a).mono ?_
  rintro e u4 ⟨rfl, hbu4⟩
  have HBu4 := Lib.hid (HBw3.out.trans (hbu4.mono HBw3.out.size))
  have HDu := Lib.hid ((hbu4.block w.heap.size (by omega)).trans HD3.out)
  have HXu := Lib.hid ((hbu4.block w1.heap.size (by omega)).trans HX3.out)
  have su4 := hbu4.size
  clear hbu4 p0 p1 p2
  go_upto_region 10 with fail
  generalize hX : u4.alloc (.cells #[.int .i64 y, .int .i64 m, .int .i64 a3] 31) = v4
  have sv4 : v4.heap.size = u4.heap.size + 1 := by rw [← hX]; simp
  have bv4 : Below u4.heap.size u4 v4 := by rw [← hX]; exact (Below.refl _ _).alloc (Nat.le_refl _) _
  have HYv4 := Lib.hid (show v4.heap[u4.heap.size]? = some (.cells #[.int .i64 y, .int .i64 m, .int .i64 a3] 31 (0, 0)) by rw [← hX]; exact heap_alloc_new u4 _)
  have HBv4 := Lib.hid (HBu4.out.trans (bv4.mono HBu4.out.size))
  clear hX
  have HDv := Lib.hid ((bv4.block w.heap.size (by omega)).trans HDu.out)
  obtain ⟨p0, p1, p2⟩ := row3_cells ((bv4.block w1.heap.size (by omega)).trans HXu.out)
  obtain ⟨r0, r1, r2⟩ := row3_cells HYv4.out
  go_wp2_with fail
  refine (DT.out _ (HR.out.below HBv4.out).a).mono ?_
  rintro e w4 ⟨rfl, hbw4⟩
  have HBw4 := Lib.hid (HBv4.out.trans (hbw4.mono HBv4.out.size))
  have HD4 := Lib.hid ((hbw4.block w.heap.size (by omega)).trans HDv.out)
  have sw4 := hbw4.size
  clear hbw4 p0 p1 p2 r0 r1 r2
  obtain ⟨p0, p1, p2⟩ := row3_cells HD4.out
  obtain ⟨x1, x2⟩ := HXb.out
  obtain ⟨t1, t2⟩ := HTb.out
  clear HXb HTb
  obtain ⟨z1, z2, z3⟩ := HP.out
  have HZ := Lib.hid z3
  clear z3 HP
  go_upto_region 17 with fail
  have bW := bw_cell p1
  have hne := bw_ne w4
  have hfx : Fits X := by unfold Fits; omega
  have HFx := Lib.hid hfx
  have SW := Lib.hid (fun v : BW w4 => calls_bw_same (weekday_any X v.1 HFx.out))
  refine wp_region_bw (by kernel_rfl) (by kernel_rfl) ?_
  repeat (go_big_quiet_step (exact SW.out _))
  refine wpQuiet_nil ?_
  rintro w5 ⟨v5, e5⟩
  have b5 := v5.2
  rw [← e5] at b5
  have HD5 := Lib.hid ((b5.block w.heap.size (by omega)).trans HD4.out)
  have HBw5 := Lib.hid (HBw4.out.trans (b5.mono (by omega)))
  clear e5 v5 b5 bW hne p0 p1 p2 hfx
  obtain ⟨p0, p1, p2⟩ := row3_cells HD5.out
  rw [HZ.out]
  go_wp2_with fail
  refine (awake_any _ (HR.out.below HBw5.out)).mono ?_
  rintro e w6 ⟨rfl, hbw6⟩
  have HBw6 := Lib.hid (HBw5.out.trans (hbw6.mono HBw5.out.size))
  clear p0 p1 p2
  go_wp2_with fail
  go_ret
  exact ⟨rfl, HBw6.out⟩
theorem offD_bd {D wk s : Int} (hs : s = 1 ∨ s = -1) : 0 ≤ offD D wk s ∧ offD D wk s ≤ 6 := by
  unfold offD
  rcases hs with rfl | rfl
  · rw [if_pos rfl]; omega
  · rw [if_neg (by decide)]; omega
theorem offD_wd {D wk s : Int} (hs : s = 1 ∨ s = -1) (h0 : 0 ≤ wk) (h1 : wk ≤ 6) : (D + s * offD D wk s + 4) % 7 = wk := (offD_is hs h0 h1 rfl).2.2.1
theorem told_valid {k wk n y m : Int} (h : MayIn k wk n y m) : Valid y m (if k = 1 then dim y m else n) := by
  obtain ⟨hr, ⟨l1, l2, l3, l4⟩, hn⟩ := h
  have := dim_bd y m
  by_cases hk : k = 1
  · rw [if_pos hk]; exact ⟨l1, l2, l3, l4, by omega, Int.le_refl _⟩
  · rw [if_neg hk]
    refine ⟨l1, l2, l3, l4, ?_, hn⟩
    rcases hr with q | q | q <;> omega
theorem walk (k wk n y m : Int) (w : World) (h : Reads w) :
    Calls Tryd.prog 5 #[.agg #[.int .i64 k, .int .i64 wk, .int .i64 n], .int .i64 y, .int .i64 m] w (One w) := by
  obtain ⟨a1, a2, a3, e, hA, ⟨rfl, hm, va, na⟩ | ⟨rfl, rfl, rfl, rfl⟩⟩ := in_is k wk n y m
  · have vt := told_valid hm
    obtain ⟨hr, hl, hn⟩ := hm
    rcases rightD_kind hr with rfl | rfl | rfl | rfl
    · exact walk_fixed wk n y m a1 a2 a3 _ _ w h hA va rfl vt rfl na
    · have hn0 : n = 0 := by rcases hr with q | q | q <;> omega
      have hw : 0 ≤ wk ∧ wk ≤ 6 := by rcases hr with q | q | q <;> omega
      subst hn0
      have lb := dim_bd y m
      have vt2 : Valid y m (dim y m) := vt
      have hb := offD_bd (D := num y m (dim y m)) (wk := wk) (s := -1) (.inr rfl)
      have na2 : num a1 a2 a3 = num y m (dim y m) + (-1) * offD (num y m (dim y m)) wk (-1) := na
      have va2 : Valid y m (dim y m - offD (num y m (dim y m)) wk (-1)) := ⟨vt2.y1, vt2.y2, vt2.m1, vt2.m2, by omega, by omega⟩
      obtain ⟨e1, e2, e3⟩ := num_inj va va2 (by rw [na2]; unfold num; omega)
      subst e1 e2
      have hm3 : MayIn 3 wk (dim a1 a2) a1 a2 := ⟨.inr (.inr ⟨.inr rfl, by omega, by omega, hw.1, hw.2⟩), hl, Int.le_refl _⟩
      have hB : InIs 3 wk (dim a1 a2) a1 a2 a1 a2 a3 0 := fun w hA => by
        have := in_may 3 wk (dim a1 a2) a1 a2 w hA hm3
        rwa [show fndD 3 wk (dim a1 a2) a1 a2 = num a1 a2 a3 from na2.symm, ofV_ok va] at this
      refine walk_last wk a1 a2 a3 _ _ _ w h hA hB rfl va rfl vt2 rfl (by omega) ⟨by rw [na2]; omega, by rw [na2]; omega, by rw [na2]; exact offD_wd (.inr rfl) hw.1 hw.2⟩
    · have hw : 0 ≤ wk ∧ wk ≤ 6 := by rcases hr with q | q | q <;> omega
      have hb := offD_bd (D := num y m n) (wk := wk) (s := 1) (.inl rfl)
      have na2 : num a1 a2 a3 = num y m n + 1 * offD (num y m n) wk 1 := na
      exact walk_noless wk n y m a1 a2 a3 _ _ w h hA va rfl vt rfl ⟨by rw [na2]; omega, by rw [na2]; omega, by rw [na2]; exact offD_wd (.inl rfl) hw.1 hw.2⟩
    · have hw : 0 ≤ wk ∧ wk ≤ 6 := by rcases hr with q | q | q <;> omega
      have hb := offD_bd (D := num y m n) (wk := wk) (s := -1) (.inr rfl)
      have na2 : num a1 a2 a3 = num y m n + (-1) * offD (num y m n) wk (-1) := na
      exact walk_nogreater wk n y m a1 a2 a3 _ _ w h hA va rfl vt rfl ⟨by rw [na2]; omega, by rw [na2]; omega, by rw [na2]; exact offD_wd (.inr rfl) hw.1 hw.2⟩
  · exact walk_bad k wk n y m 10 w h rfl hA
end Go.Proofs.YtmkbfjklhejdnaaDoor.dayformWeeks
