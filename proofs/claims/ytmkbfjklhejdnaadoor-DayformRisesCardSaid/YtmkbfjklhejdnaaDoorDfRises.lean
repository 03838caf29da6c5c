/-
  THE LAW DayformRises, walked.
-/
import Derived.Test.YtmkbfjklhejdnaaDoorDfTurns
namespace Go.Proofs.YtmkbfjklhejdnaaDoor.dayformRises
open Go Go.RowKit CivM NumM
set_option maxRecDepth 100000 in
set_option maxHeartbeats 2000000 in
theorem walk_small (wk n y m : Int) (w : World) (h : Reads w) (hn : n < 1 ∨ 21 < n) :
    Calls Tryd.prog 7 #[.int .i64 wk, .int .i64 n, .agg #[.int .i64 y, .int .i64 m]] w (One w) := by
  have HR := Lib.hid h
  have HBw := Lib.hid (Below.refl w.heap.size w)
  clear h
  have hb : Below w.heap.size w (w.alloc (.cells #[.int .i64 y, .int .i64 m] 43)) := (Below.refl _ _).alloc (Nat.le_refl _) _
  have HBv := Lib.hid hb
  clear hb
  rcases hn with hn | hn
  · go_enter Tryd.func7, Tryd.ntmps7
    go_wp2_with fail
    refine (awake_any _ (HR.out.below HBv.out)).mono ?_
    rintro e w1 ⟨rfl, hbw1⟩
    have HBw1 := Lib.hid (HBv.out.trans (hbw1.mono HBv.out.size))
    go_wp2_with fail
    go_ret
    exact ⟨rfl, HBw1.out⟩
  · go_enter Tryd.func7, Tryd.ntmps7
    go_wp2_with fail
    refine (awake_any _ (HR.out.below HBv.out)).mono ?_
    rintro e w1 ⟨rfl, hbw1⟩
    have HBw1 := Lib.hid (HBv.out.trans (hbw1.mono HBv.out.size))
    go_wp2_with fail
    go_ret
    exact ⟨rfl, HBw1.out⟩
set_option maxRecDepth 100000 in
set_option maxHeartbeats 2000000 in
theorem walk_bad1 (wk n y m a1 a2 a3 b1 b2 b3 c1 c2 c3 e f g : Int) (w : World) (h : Reads w) (n1 : 1 ≤ n) (n2 : n ≤ 21) (q : (e != 0) = true) (hA : InIs 2 wk n y m a1 a2 a3 e) (hB : InIs 2 wk (n + 1) y m b1 b2 b3 f) (hC : InIs 2 wk (n + 7) y m c1 c2 c3 g) :
    Calls Tryd.prog 7 #[.int .i64 wk, .int .i64 n, .agg #[.int .i64 y, .int .i64 m]] w (One w) := by
  have HR := Lib.hid h
  have HBw := Lib.hid (Below.refl w.heap.size w)
  have SA := Lib.hid hA
  have SB := Lib.hid hB
  have SC := Lib.hid hC
  clear h hA hB hC
  go_enter Tryd.func7, Tryd.ntmps7
  go_upto_region 3 with fail
  generalize hX : w.alloc (.cells #[.int .i64 y, .int .i64 m] 43) = v0
  have sv0 : v0.heap.size = w.heap.size + 1 := by rw [← hX]; simp
  have bv0 : Below w.heap.size w v0 := by rw [← hX]; exact (Below.refl _ _).alloc (Nat.le_refl _) _
  have HYv0 := Lib.hid (show v0.heap[w.heap.size]? = some (.cells #[.int .i64 y, .int .i64 m] 43 (0, 0)) by rw [← hX]; exact heap_alloc_new w _)
  have HBv0 := Lib.hid (HBw.out.trans (bv0.mono HBw.out.size))
  clear hX
  obtain ⟨p0, p1⟩ := row2_cells HYv0.out
  go_wp2_with fail
  refine (SA.out _ (HR.out.below HBv0.out).a).mono ?_
  rintro e w1 ⟨rfl, hbw1⟩
  have HBw1 := Lib.hid (HBv0.out.trans (hbw1.mono HBv0.out.size))
  have HP1 := Lib.hid ((hbw1.block w.heap.size (by omega)).trans HYv0.out)
  have sw1 := hbw1.size
  clear hbw1 p0 p1
  go_upto_region 4 with fail
  generalize hX : w1.alloc (.cells #[.int .i64 a1, .int .i64 a2, .int .i64 a3] 31) = v1
  have sv1 : v1.heap.size = w1.heap.size + 1 := by rw [← hX]; simp
  have bv1 : Below w1.heap.size w1 v1 := by rw [← hX]; exact (Below.refl _ _).alloc (Nat.le_refl _) _
  have HYv1 := Lib.hid (show v1.heap[w1.heap.size]? = some (.cells #[.int .i64 a1, .int .i64 a2, .int .i64 a3] 31 (0, 0)) by rw [← hX]; exact heap_alloc_new w1 _)
  have HBv1 := Lib.hid (HBw1.out.trans (bv1.mono HBw1.out.size))
  clear hX
  have HP1b := Lib.hid ((bv1.block w.heap.size (by omega)).trans HP1.out)
  obtain ⟨p0, p1⟩ := row2_cells HP1b.out
  go_wp2_with fail
  refine (SB.out _ (HR.out.below HBv1.out).a).mono ?_
  rintro e w2 ⟨rfl, hbw2⟩
  have HBw2 := Lib.hid (HBv1.out.trans (hbw2.mono HBv1.out.size))
  have HP2 := Lib.hid ((hbw2.block w.heap.size (by omega)).trans HP1b.out)
  have HX2 := Lib.hid ((hbw2.block w1.heap.size (by omega)).trans HYv1.out)
  have sw2 := hbw2.size
  clear hbw2 p0 p1
  go_upto_region 5 with fail
  generalize hX : w2.alloc (.cells #[.int .i64 b1, .int .i64 b2, .int .i64 b3] 31) = v2
  have sv2 : v2.heap.size = w2.heap.size + 1 := by rw [← hX]; simp
  have bv2 : Below w2.heap.size w2 v2 := by rw [← hX]; exact (Below.refl _ _).alloc (Nat.le_refl _) _
  have HYv2 := Lib.hid (show v2.heap[w2.heap.size]? = some (.cells #[.int .i64 b1, .int .i64 b2, .int .i64 b3] 31 (0, 0)) by rw [← hX]; exact heap_alloc_new w2 _)
  have HBv2 := Lib.hid (HBw2.out.trans (bv2.mono HBw2.out.size))
  clear hX
  have HP2b := Lib.hid ((bv2.block w.heap.size (by omega)).trans HP2.out)
  have HX2b := Lib.hid ((bv2.block w1.heap.size (by omega)).trans HX2.out)
  obtain ⟨p0, p1⟩ := row2_cells HP2b.out
  go_wp2_with fail
  refine (SC.out _ (HR.out.below HBv2.out).a).mono ?_
  rintro e w3 ⟨rfl, hbw3⟩
  have HBw3 := Lib.hid (HBv2.out.trans (hbw3.mono HBv2.out.size))
  have HX3 := Lib.hid ((hbw3.block w1.heap.size (by omega)).trans HX2b.out)
  have HZ3 := Lib.hid ((hbw3.block w2.heap.size (by omega)).trans HYv2.out)
  have sw3 := hbw3.size
  clear hbw3 p0 p1
  go_upto_region 6 with fail
  generalize hX : w3.alloc (.cells #[.int .i64 c1, .int .i64 c2, .int .i64 c3] 31) = v3
  have sv3 : v3.heap.size = w3.heap.size + 1 := by rw [← hX]; simp
  have bv3 : Below w3.heap.size w3 v3 := by rw [← hX]; exact (Below.refl _ _).alloc (Nat.le_refl _) _
  have HYv3 := Lib.hid (show v3.heap[w3.heap.size]? = some (.cells #[.int .i64 c1, .int .i64 c2, .int .i64 c3] 31 (0, 0)) by rw [← hX]; exact heap_alloc_new w3 _)
  have HBv3 := Lib.hid (HBw3.out.trans (bv3.mono HBw3.out.size))
  clear hX
  go_wp2_with fail
  refine (awake_any _ (HR.out.below HBv3.out)).mono ?_
  rintro e w4 ⟨rfl, hbw4⟩
  have HBw4 := Lib.hid (HBv3.out.trans (hbw4.mono HBv3.out.size))
  go_wp2_with fail
  go_ret
  exact ⟨rfl, HBw4.out⟩
set_option maxRecDepth 100000 in
set_option maxHeartbeats 2000000 in
theorem walk_bad2 (wk n y m a1 a2 a3 b1 b2 b3 c1 c2 c3 f g : Int) (w : World) (h : Reads w) (n1 : 1 ≤ n) (n2 : n ≤ 21) (q : (f != 0) = true) (hA : InIs 2 wk n y m a1 a2 a3 0) (hB : InIs 2 wk (n + 1) y m b1 b2 b3 f) (hC : InIs 2 wk (n + 7) y m c1 c2 c3 g) :
    Calls Tryd.prog 7 #[.int .i64 wk, .int .i64 n, .agg #[.int .i64 y, .int .i64 m]] w (One w) := by
  have HR := Lib.hid h
  have HBw := Lib.hid (Below.refl w.heap.size w)
  have SA := Lib.hid hA
  have SB := Lib.hid hB
  have SC := Lib.hid hC
  clear h hA hB hC
  go_enter Tryd.func7, Tryd.ntmps7
  go_upto_region 3 with fail
  generalize hX : w.alloc (.cells #[.int .i64 y, .int .i64 m] 43) = v0
  have sv0 : v0.heap.size = w.heap.size + 1 := by rw [← hX]; simp
  have bv0 : Below w.heap.size w v0 := by rw [← hX]; exact (Below.refl _ _).alloc (Nat.le_refl _) _
  have HYv0 := Lib.hid (show v0.heap[w.heap.size]? = some (.cells #[.int .i64 y, .int .i64 m] 43 (0, 0)) by rw [← hX]; exact heap_alloc_new w _)
  have HBv0 := Lib.hid (HBw.out.trans (bv0.mono HBw.out.size))
  clear hX
  obtain ⟨p0, p1⟩ := row2_cells HYv0.out
  go_wp2_with fail
  refine (SA.out _ (HR.out.below HBv0.out).a).mono ?_
  rintro e w1 ⟨rfl, hbw1⟩
  have HBw1 := Lib.hid (HBv0.out.trans (hbw1.mono HBv0.out.size))
  have HP1 := Lib.hid ((hbw1.block w.heap.size (by omega)).trans HYv0.out)
  have sw1 := hbw1.size
  clear hbw1 p0 p1
  go_upto_region 4 with fail
  generalize hX : w1.alloc (.cells #[.int .i64 a1, .int .i64 a2, .int .i64 a3] 31) = v1
  have sv1 : v1.heap.size = w1.heap.size + 1 := by rw [← hX]; simp
  have bv1 : Below w1.heap.size w1 v1 := by rw [← hX]; exact (Below.refl _ _).alloc (Nat.le_refl _) _
  have HYv1 := Lib.hid (show v1.heap[w1.heap.size]? = some (.cells #[.int .i64 a1, .int .i64 a2, .int .i64 a3] 31 (0, 0)) by rw [← hX]; exact heap_alloc_new w1 _)
  have HBv1 := Lib.hid (HBw1.out.trans (bv1.mono HBw1.out.size))
  clear hX
  have HP1b := Lib.hid ((bv1.block w.heap.size (by omega)).trans HP1.out)
  obtain ⟨p0, p1⟩ := row2_cells HP1b.out
  go_wp2_with fail
  refine (SB.out _ (HR.out.below HBv1.out).a).mono ?_
  rintro e w2 ⟨rfl, hbw2⟩
  have HBw2 := Lib.hid (HBv1.out.trans (hbw2.mono HBv1.out.size))
  have HP2 := Lib.hid ((hbw2.block w.heap.size (by omega)).trans HP1b.out)
  have HX2 := Lib.hid ((hbw2.block w1.heap.size (by omega)).trans HYv1.out)
  have sw2 := hbw2.size
  clear hbw2 p0 p1
  go_upto_region 5 with fail
  generalize hX : w2.alloc (.cells #[.int .i64 b1, .int .i64 b2, .int .i64 b3] 31) = v2
  have sv2 : v2.heap.size = w2.heap.size + 1 := by rw [← hX]; simp
  have bv2 : Below w2.heap.size w2 v2 := by rw [← hX]; exact (Below.refl _ _).alloc (Nat.le_refl _) _
  have HYv2 := Lib.hid (show v2.heap[w2.heap.size]? = some (.cells #[.int .i64 b1, .int .i64 b2, .int .i64 b3] 31 (0, 0)) by rw [← hX]; exact heap_alloc_new w2 _)
  have HBv2 := Lib.hid (HBw2.out.trans (bv2.mono HBw2.out.size))
  clear hX
  have HP2b := Lib.hid ((bv2.block w.heap.size (by omega)).trans HP2.out)
  have HX2b := Lib.hid ((bv2.block w1.heap.size (by omega)).trans HX2.out)
  obtain ⟨p0, p1⟩ := row2_cells HP2b.out
  go_wp2_with fail
  refine (SC.out _ (HR.out.below HBv2.out).a).mono ?_
  rintro e w3 ⟨rfl, hbw3⟩
  have HBw3 := Lib.hid (HBv2.out.trans (hbw3.mono HBv2.out.size))
  have HX3 := Lib.hid ((hbw3.block w1.heap.size (by omega)).trans HX2b.out)
  have HZ3 := Lib.hid ((hbw3.block w2.heap.size (by omega)).trans HYv2.out)
  have sw3 := hbw3.size
  clear hbw3 p0 p1
  go_upto_region 6 with fail
  generalize hX : w3.alloc (.cells #[.int .i64 c1, .int .i64 c2, .int .i64 c3] 31) = v3
  have sv3 : v3.heap.size = w3.heap.size + 1 := by rw [← hX]; simp
  have bv3 : Below w3.heap.size w3 v3 := by rw [← hX]; exact (Below.refl _ _).alloc (Nat.le_refl _) _
  have HYv3 := Lib.hid (show v3.heap[w3.heap.size]? = some (.cells #[.int .i64 c1, .int .i64 c2, .int .i64 c3] 31 (0, 0)) by rw [← hX]; exact heap_alloc_new w3 _)
  have HBv3 := Lib.hid (HBw3.out.trans (bv3.mono HBw3.out.size))
  clear hX
  go_wp2_with fail
  refine (awake_any _ (HR.out.below HBv3.out)).mono ?_
  rintro e w4 ⟨rfl, hbw4⟩
  have HBw4 := Lib.hid (HBv3.out.trans (hbw4.mono HBv3.out.size))
  go_wp2_with fail
  go_ret
  exact ⟨rfl, HBw4.out⟩
set_option maxRecDepth 100000 in
set_option maxHeartbeats 2000000 in
theorem walk_bad3 (wk n y m a1 a2 a3 b1 b2 b3 c1 c2 c3 g : Int) (w : World) (h : Reads w) (n1 : 1 ≤ n) (n2 : n ≤ 21) (q : (g != 0) = true) (hA : InIs 2 wk n y m a1 a2 a3 0) (hB : InIs 2 wk (n + 1) y m b1 b2 b3 0) (hC : InIs 2 wk (n + 7) y m c1 c2 c3 g) :
    Calls Tryd.prog 7 #[.int .i64 wk, .int .i64 n, .agg #[.int .i64 y, .int .i64 m]] w (One w) := by
  have HR := Lib.hid h
  have HBw := Lib.hid (Below.refl w.heap.size w)
  have SA := Lib.hid hA
  have SB := Lib.hid hB
  have SC := Lib.hid hC
  clear h hA hB hC
  go_enter Tryd.func7, Tryd.ntmps7
  go_upto_region 3 with fail
  generalize hX : w.alloc (.cells #[.int .i64 y, .int .i64 m] 43) = v0
  have sv0 : v0.heap.size = w.heap.size + 1 := by rw [← hX]; simp
  have bv0 : Below w.heap.size w v0 := by rw [← hX]; exact (Below.refl _ _).alloc (Nat.le_refl _) _
  have HYv0 := Lib.hid (show v0.heap[w.heap.size]? = some (.cells #[.int .i64 y, .int .i64 m] 43 (0, 0)) by rw [← hX]; exact heap_alloc_new w _)
  have HBv0 := Lib.hid (HBw.out.trans (bv0.mono HBw.out.size))
  clear hX
  obtain ⟨p0, p1⟩ := row2_cells HYv0.out
  go_wp2_with fail
  refine (SA.out _ (HR.out.below HBv0.out).a).mono ?_
  rintro e w1 ⟨rfl, hbw1⟩
  have HBw1 := Lib.hid (HBv0.out.trans (hbw1.mono HBv0.out.size))
  have HP1 := Lib.hid ((hbw1.block w.heap.size (by omega)).trans HYv0.out)
  have sw1 := hbw1.size
  clear hbw1 p0 p1
  go_upto_region 4 with fail
  generalize hX : w1.alloc (.cells #[.int .i64 a1, .int .i64 a2, .int .i64 a3] 31) = v1
  have sv1 : v1.heap.size = w1.heap.size + 1 := by rw [← hX]; simp
  have bv1 : Below w1.heap.size w1 v1 := by rw [← hX]; exact (Below.refl _ _).alloc (Nat.le_refl _) _
  have HYv1 := Lib.hid (show v1.heap[w1.heap.size]? = some (.cells #[.int .i64 a1, .int .i64 a2, .int .i64 a3] 31 (0, 0)) by rw [← hX]; exact heap_alloc_new w1 _)
  have HBv1 := Lib.hid (HBw1.out.trans (bv1.mono HBw1.out.size))
  clear hX
  have HP1b := Lib.hid ((bv1.block w.heap.size (by omega)).trans HP1.out)
  obtain ⟨p0, p1⟩ := row2_cells HP1b.out
  go_wp2_with fail
  refine (SB.out _ (HR.out.below HBv1.out).a).mono ?_
  rintro e w2 ⟨rfl, hbw2⟩
  have HBw2 := Lib.hid (HBv1.out.trans (hbw2.mono HBv1.out.size))
  have HP2 := Lib.hid ((hbw2.block w.heap.size (by omega)).trans HP1b.out)
  have HX2 := Lib.hid ((hbw2.block w1.heap.size (by omega)).trans HYv1.out)
  have sw2 := hbw2.size
  clear hbw2 p0 p1
  go_upto_region 5 with fail
  generalize hX : w2.alloc (.cells #[.int .i64 b1, .int .i64 b2, .int .i64 b3] 31) = v2
  have sv2 : v2.heap.size = w2.heap.size + 1 := by rw [← hX]; simp
  have bv2 : Below w2.heap.size w2 v2 := by rw [← hX]; exact (Below.refl _ _).alloc (Nat.le_refl _) _
  have HYv2 := Lib.hid (show v2.heap[w2.heap.size]? = some (.cells #[.int .i64 b1, .int .i64 b2, .int .i64 b3] 31 (0, 0)) by rw [← hX]; exact heap_alloc_new w2 _)
  have HBv2 := Lib.hid (HBw2.out.trans (bv2.mono HBw2.out.size))
  clear hX
  have HP2b := Lib.hid ((bv2.block w.heap.size (by omega)).trans HP2.out)
  have HX2b := Lib.hid ((bv2.block w1.heap.size (by omega)).trans HX2.out)
  obtain ⟨p0, p1⟩ := row2_cells HP2b.out
  go_wp2_with fail
  refine (SC.out _ (HR.out.below HBv2.out).a).mono ?_
  rintro e w3 ⟨rfl, hbw3⟩
  have HBw3 := Lib.hid (HBv2.out.trans (hbw3.mono HBv2.out.size))
  have HX3 := Lib.hid ((hbw3.block w1.heap.size (by omega)).trans HX2b.out)
  have HZ3 := Lib.hid ((hbw3.block w2.heap.size (by omega)).trans HYv2.out)
  have sw3 := hbw3.size
  clear hbw3 p0 p1
  go_upto_region 6 with fail
  generalize hX : w3.alloc (.cells #[.int .i64 c1, .int .i64 c2, .int .i64 c3] 31) = v3
  have sv3 : v3.heap.size = w3.heap.size + 1 := by rw [← hX]; simp
  have bv3 : Below w3.heap.size w3 v3 := by rw [← hX]; exact (Below.refl _ _).alloc (Nat.le_refl _) _
  have HYv3 := Lib.hid (show v3.heap[w3.heap.size]? = some (.cells #[.int .i64 c1, .int .i64 c2, .int .i64 c3] 31 (0, 0)) by rw [← hX]; exact heap_alloc_new w3 _)
  have HBv3 := Lib.hid (HBw3.out.trans (bv3.mono HBw3.out.size))
  clear hX
  go_wp2_with fail
  refine (awake_any _ (HR.out.below HBv3.out)).mono ?_
  rintro e w4 ⟨rfl, hbw4⟩
  have HBw4 := Lib.hid (HBv3.out.trans (hbw4.mono HBv3.out.size))
  go_wp2_with fail
  go_ret
  exact ⟨rfl, HBw4.out⟩
set_option maxRecDepth 100000 in
set_option maxHeartbeats 2000000 in
theorem walk_good (wk n y m a1 a2 a3 b1 b2 b3 c1 c2 c3 X Y : Int) (w : World) (h : Reads w) (n1 : 1 ≤ n) (n2 : n ≤ 21) (hA : InIs 2 wk n y m a1 a2 a3 0) (hB : InIs 2 wk (n + 1) y m b1 b2 b3 0) (hC : InIs 2 wk (n + 7) y m c1 c2 c3 0)
    (va : Valid a1 a2 a3) (vb : Valid b1 b2 b3) (vc : Valid c1 c2 c3) (na : num a1 a2 a3 = X) (nb : num b1 b2 b3 = Y) (nc : num c1 c2 c3 = X + 7) (hY : Y = X ∨ Y = X + 7) :
    Calls Tryd.prog 7 #[.int .i64 wk, .int .i64 n, .agg #[.int .i64 y, .int .i64 m]] w (One w) := by
  have HX := Lib.hid (na ▸ num_bd va)
  have DA := Lib.hid (fun w hA => na ▸ days_ok a1 a2 a3 w hA va)
  have DB := Lib.hid (fun w hA => nb ▸ days_ok b1 b2 b3 w hA vb)
  have DC := Lib.hid (fun w hA => nc ▸ days_ok c1 c2 c3 w hA vc)
  have HY := Lib.hid hY
  clear va vb vc na nb nc hY
  have HR := Lib.hid h
  have HBw := Lib.hid (Below.refl w.heap.size w)
  have SA := Lib.hid hA
  have SB := Lib.hid hB
  have SC := Lib.hid hC
  clear h hA hB hC
  go_enter Tryd.func7, Tryd.ntmps7
  go_upto_region 3 with fail
  generalize hX : w.alloc (.cells #[.int .i64 y, .int .i64 m] 43) = v0
  have sv0 : v0.heap.size = w.heap.size + 1 := by rw [← hX]; simp
  have bv0 : Below w.heap.size w v0 := by rw [← hX]; exact (Below.refl _ _).alloc (Nat.le_refl _) _
  have HYv0 := Lib.hid (show v0.heap[w.heap.size]? = some (.cells #[.int .i64 y, .int .i64 m] 43 (0, 0)) by rw [← hX]; exact heap_alloc_new w _)
  have HBv0 := Lib.hid (HBw.out.trans (bv0.mono HBw.out.size))
  clear hX
  obtain ⟨p0, p1⟩ := row2_cells HYv0.out
  go_wp2_with fail
  refine (SA.out _ (HR.out.below HBv0.out).a).mono ?_
  rintro e w1 ⟨rfl, hbw1⟩
  have HBw1 := Lib.hid (HBv0.out.trans (hbw1.mono HBv0.out.size))
  have HP1 := Lib.hid ((hbw1.block w.heap.size (by omega)).trans HYv0.out)
  have sw1 := hbw1.size
  clear hbw1 p0 p1
  go_upto_region 4 with fail
  generalize hX : w1.alloc (.cells #[.int .i64 a1, .int .i64 a2, .int .i64 a3] 31) = v1
  have sv1 : v1.heap.size = w1.heap.size + 1 := by rw [← hX]; simp
  have bv1 : Below w1.heap.size w1 v1 := by rw [← hX]; exact (Below.refl _ _).alloc (Nat.le_refl _) _
  have HYv1 := Lib.hid (show v1.heap[w1.heap.size]? = some (.cells #[.int .i64 a1, .int .i64 a2, .int .i64 a3] 31 (0, 0)) by rw [← hX]; exact heap_alloc_new w1 _)
  have HBv1 := Lib.hid (HBw1.out.trans (bv1.mono HBw1.out.size))
  clear hX
  have HP1b := Lib.hid ((bv1.block w.heap.size (by omega)).trans HP1.out)
  obtain ⟨p0, p1⟩ := row2_cells HP1b.out
  go_wp2_with fail
  refine (SB.out _ (HR.out.below HBv1.out).a).mono ?_
  rintro e w2 ⟨rfl, hbw2⟩
  have HBw2 := Lib.hid (HBv1.out.trans (hbw2.mono HBv1.out.size))
  have HP2 := Lib.hid ((hbw2.block w.heap.size (by omega)).trans HP1b.out)
  have HX2 := Lib.hid ((hbw2.block w1.heap.size (by omega)).trans HYv1.out)
  have sw2 := hbw2.size
  clear hbw2 p0 p1
  go_upto_region 5 with fail
  generalize hX : w2.alloc (.cells #[.int .i64 b1, .int .i64 b2, .int .i64 b3] 31) = v2
  have sv2 : v2.heap.size = w2.heap.size + 1 := by rw [← hX]; simp
  have bv2 : Below w2.heap.size w2 v2 := by rw [← hX]; exact (Below.refl _ _).alloc (Nat.le_refl _) _
  have HYv2 := Lib.hid (show v2.heap[w2.heap.size]? = some (.cells #[.int .i64 b1, .int .i64 b2, .int .i64 b3] 31 (0, 0)) by rw [← hX]; exact heap_alloc_new w2 _)
  have HBv2 := Lib.hid (HBw2.out.trans (bv2.mono HBw2.out.size))
  clear hX
  have HP2b := Lib.hid ((bv2.block w.heap.size (by omega)).trans HP2.out)
  have HX2b := Lib.hid ((bv2.block w1.heap.size (by omega)).trans HX2.out)
  obtain ⟨p0, p1⟩ := row2_cells HP2b.out
  go_wp2_with fail
  refine (SC.out _ (HR.out.below HBv2.out).a).mono ?_
  rintro e w3 ⟨rfl, hbw3⟩
  have HBw3 := Lib.hid (HBv2.out.trans (hbw3.mono HBv2.out.size))
  have HX3 := Lib.hid ((hbw3.block w1.heap.size (by omega)).trans HX2b.out)
  have HZ3 := Lib.hid ((hbw3.block w2.heap.size (by omega)).trans HYv2.out)
  have sw3 := hbw3.size
  clear hbw3 p0 p1
  go_upto_region 6 with fail
  generalize hX : w3.alloc (.cells #[.int .i64 c1, .int .i64 c2, .int .i64 c3] 31) = v3
  have sv3 : v3.heap.size = w3.heap.size + 1 := by rw [← hX]; simp
  have bv3 : Below w3.heap.size w3 v3 := by rw [← hX]; exact (Below.refl _ _).alloc (Nat.le_refl _) _
  have HYv3 := Lib.hid (show v3.heap[w3.heap.size]? = some (.cells #[.int .i64 c1, .int .i64 c2, .int .i64 c3] 31 (0, 0)) by rw [← hX]; exact heap_alloc_new w3 _)
  have HBv3 := Lib.hid (HBw3.out.trans (bv3.mono HBw3.out.size))
  clear hX
  have HX4 := Lib.hid ((bv3.block w1.heap.size (by omega)).trans HX3.out)
  have HZ4 := Lib.hid ((bv3.block w2.heap.size (by omega)).trans HZ3.out)
  obtain ⟨p0, p1, p2⟩ := row3_cells HX4.out
  go_wp2_with fail
  refine (DA.out _ (HR.out.below HBv3.out).a).mono ?_
  rintro e w4 ⟨rfl, hbw4⟩
  have HBw4 := Lib.hid (HBv3.out.trans (hbw4.mono HBv3.out.size))
  have HZ5 := Lib.hid ((hbw4.block w2.heap.size (by omega)).trans HZ4.out)
  have HC5 := Lib.hid ((hbw4.block w3.heap.size (by omega)).trans HYv3.out)
  have sw4 := hbw4.size
  clear hbw4 p0 p1 p2
  obtain ⟨p0, p1, p2⟩ := row3_cells HZ5.out
  go_wp2_with fail
  refine (DB.out _ (HR.out.below HBw4.out).a).mono ?_
  rintro e w5 ⟨rfl, hbw5⟩
  have HBw5 := Lib.hid (HBw4.out.trans (hbw5.mono HBw4.out.size))
  have HC6 := Lib.hid ((hbw5.block w3.heap.size (by omega)).trans HC5.out)
  have sw5 := hbw5.size
  clear hbw5 p0 p1 p2
  obtain ⟨p0, p1, p2⟩ := row3_cells HC6.out
  go_wp2_with fail
  refine (DC.out _ (HR.out.below HBw5.out).a).mono ?_
  rintro e w6 ⟨rfl, hbw6⟩
  have HBw6 := Lib.hid (HBw5.out.trans (hbw6.mono HBw5.out.size))
  clear p0 p1 p2 hbw6
  have x1 := HX.out.1
  have x2 := HX.out.2
  have hY := HY.out
  clear HX HY
  rcases hY with hY | hY
  · subst hY
    go_wp2_with fail
    refine (awake_any _ (HR.out.below HBw6.out)).mono ?_
    rintro e w7 ⟨rfl, hbw7⟩
    have HBw7 := Lib.hid (HBw6.out.trans (hbw7.mono HBw6.out.size))
    go_wp2_with fail
    go_ret
    exact ⟨rfl, HBw7.out⟩
  · subst hY
    have q : (X + 7 == X) = false := by rw [beq_eq_false_iff_ne]; omega
    go_wp2_with fail
    refine (awake_any _ (HR.out.below HBw6.out)).mono ?_
    rintro e w7 ⟨rfl, hbw7⟩
    have HBw7 := Lib.hid (HBw6.out.trans (hbw7.mono HBw6.out.size))
    go_wp2_with fail
    go_ret
    exact ⟨rfl, HBw7.out⟩
theorem rise {wk n y m : Int} : (fndD 2 wk (n + 1) y m = fndD 2 wk n y m ∨ fndD 2 wk (n + 1) y m = fndD 2 wk n y m + 7) ∧ fndD 2 wk (n + 7) y m = fndD 2 wk n y m + 7 := by
  have h1 : num y m (n + 1) = num y m n + 1 := by unfold num; omega
  have h7 : num y m (n + 7) = num y m n + 7 := by unfold num; omega
  have e0 : fndD 2 wk n y m = num y m n + 1 * offD (num y m n) wk 1 := rfl
  have e1 : fndD 2 wk (n + 1) y m = num y m (n + 1) + 1 * offD (num y m (n + 1)) wk 1 := rfl
  have e7 : fndD 2 wk (n + 7) y m = num y m (n + 7) + 1 * offD (num y m (n + 7)) wk 1 := rfl
  rw [e0, e1, e7, h1, h7]
  unfold offD
  rw [if_pos rfl, if_pos rfl, if_pos rfl]
  omega
theorem walk (wk n y m : Int) (w : World) (h : Reads w) :
    Calls Tryd.prog 7 #[.int .i64 wk, .int .i64 n, .agg #[.int .i64 y, .int .i64 m]] w (One w) := by
  by_cases hn : n < 1 ∨ 21 < n
  · exact walk_small wk n y m w h hn
  · obtain ⟨a1, a2, a3, e, hA, ha⟩ := in_is 2 wk n y m
    obtain ⟨b1, b2, b3, f, hB, hb⟩ := in_is 2 wk (n + 1) y m
    obtain ⟨c1, c2, c3, g, hC, hc⟩ := in_is 2 wk (n + 7) y m
    rcases ha with ⟨rfl, _, va, na⟩ | ⟨rfl, _⟩
    · rcases hb with ⟨rfl, _, vb, nb⟩ | ⟨rfl, _⟩
      · rcases hc with ⟨rfl, _, vc, nc⟩ | ⟨rfl, _⟩
        · obtain ⟨r1, r7⟩ := rise (wk := wk) (n := n) (y := y) (m := m)
          exact walk_good wk n y m a1 a2 a3 b1 b2 b3 c1 c2 c3 _ _ w h (by omega) (by omega) hA hB hC va vb vc na nb (nc.trans r7) r1
        · exact walk_bad3 wk n y m a1 a2 a3 b1 b2 b3 c1 c2 c3 10 w h (by omega) (by omega) rfl hA hB hC
      · exact walk_bad2 wk n y m a1 a2 a3 b1 b2 b3 c1 c2 c3 10 g w h (by omega) (by omega) rfl hA hB hC
    · exact walk_bad1 wk n y m a1 a2 a3 b1 b2 b3 c1 c2 c3 10 f g w h (by omega) (by omega) rfl hA hB hC
end Go.Proofs.YtmkbfjklhejdnaaDoor.dayformRises
