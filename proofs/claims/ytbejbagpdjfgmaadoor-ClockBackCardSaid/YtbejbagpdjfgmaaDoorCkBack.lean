/-
  THE LAW ClockBack, walked.
-/
import Derived.Test.YtbejbagpdjfgmaaDoorPrint
import Derived.Test.YtbejbagpdjfgmaaDoorCkSpans
namespace Go.Proofs.YtbejbagpdjfgmaaDoor.clockBack
open Go Go.RowKit CivM NumM clockRise clockSpans
/-- Split answers this -/
def SpI (t a b c r e : Int) : Prop := ∀ w, Ahead w → Calls Tryd.prog 13 #[.int .i64 t] w fun e' w' => e' = .returned (.tuple #[.agg #[.int .i64 a, .int .i64 b, .int .i64 c], .int .i64 r, .int .i64 e]) ∧ Below w.heap.size w w'
/-- Span answers this -/
def SIs (l : List UInt8) (n : Int) : Prop := ∀ w, Reads w → Calls Tryd.prog 18 #[.string ⟨l.toArray⟩] w fun e' w' => e' = .returned (.tuple #[.int .i64 n, .int .i64 0]) ∧ Below w.heap.size w w'
/-- Text answers this -/
def TIs (n : Int) (l : List UInt8) (e : Int) : Prop := ∀ w, Reads w → Calls Tryd.prog 17 #[.int .i64 n] w fun e' w' => e' = .returned (.tuple #[.string ⟨l.toArray⟩, .int .i64 e]) ∧ Below w.heap.size w w'
/-- the hypotheses of each part -/
structure AOk (t a b c r1 : Int) : Prop where
  j : JIs a b c r1 t 0
  lo : 0 ≤ r1
  hi : r1 ≤ 86399
structure BOk (y m d y' m' d' s r whole first : Int) : Prop where
  j1 : JIs y' m' d' 0 whole 0
  j2 : JIs y m d 0 first 0
  a1 : -4000000000000 ≤ whole
  a2 : whole ≤ 4000000000000
  b1 : -4000000000000 ≤ first
  b2 : first ≤ 4000000000000
  md : (s - r).tmod 86400 = 0
  eq : whole - first = s - r
  r1 : 0 ≤ r
  r2 : r ≤ 86399
  s1 : -604800 < s
  s2 : s < 604800
set_option maxRecDepth 100000 in
set_option maxHeartbeats 4000000 in
theorem walk_ok_ok_ok_ok (t y m d s k a b c r1 n y' m' d' r : Int) (T : List UInt8) (w : World) (h : Reads w)
    (hA : SpI t a b c r1 0) (hAJ : AOk t a b c r1)
    (wh fi : Int) (hJ : JIs y m d s n 0) (hB : SpI n y' m' d' r 0) (hBB : BOk y m d y' m' d' s r wh fi)
    (hT : TIs s T 0) (hS : SIs T s)
    (Q : List UInt8) (hP : Prt s k Q 0) (hQ : PIs Q s k 0)
    : Calls Tryd.prog 4 #[.int .i64 t, .agg #[.int .i64 y, .int .i64 m, .int .i64 d], .agg #[.int .i64 s, .int .i64 k]] w (One w) := by
  have SAJ := Lib.hid hAJ.j
  obtain ⟨_, la1, la2⟩ := hAJ
  have SJ1 := Lib.hid hBB.j1
  have SJ2 := Lib.hid hBB.j2
  obtain ⟨_, _, l1, l2, l3, l4, l5, l6, l7, l8, l9, l10⟩ := hBB
  have SS := Lib.hid hS
  clear hS
  have SQ := Lib.hid hQ
  clear hQ
  have HR := Lib.hid h
  have HBw := Lib.hid (Below.refl w.heap.size w)
  have SA := Lib.hid hA
  have SJ := Lib.hid hJ
  have SB := Lib.hid hB
  have ST := Lib.hid hT
  have SP := Lib.hid hP
  clear h hA hJ hB hT hP
  go_enter Tryd.func4, Tryd.ntmps4
  go_upto_region 1 with fail
  generalize hX : w.alloc (.cells #[.int .i64 y, .int .i64 m, .int .i64 d] 23) = v0
  have sv0 : v0.heap.size = w.heap.size + 1 := by rw [← hX]; simp
  have bv0 : Below w.heap.size w v0 := by rw [← hX]; exact (Below.refl _ _).alloc (Nat.le_refl _) _
  have HYv0 := Lib.hid (show v0.heap[w.heap.size]? = some (.cells #[.int .i64 y, .int .i64 m, .int .i64 d] 23 (0, 0)) by rw [← hX]; exact heap_alloc_new w _)
  have HBv0 := Lib.hid (HBw.out.trans (bv0.mono HBw.out.size))
  clear hX
  generalize hX : v0.alloc (.cells #[.int .i64 s, .int .i64 k] 39) = v1
  have sv1 : v1.heap.size = v0.heap.size + 1 := by rw [← hX]; simp
  have bv1 : Below v0.heap.size v0 v1 := by rw [← hX]; exact (Below.refl _ _).alloc (Nat.le_refl _) _
  have HYv1 := Lib.hid (show v1.heap[v0.heap.size]? = some (.cells #[.int .i64 s, .int .i64 k] 39 (0, 0)) by rw [← hX]; exact heap_alloc_new v0 _)
  have HBv1 := Lib.hid (HBv0.out.trans (bv1.mono HBv0.out.size))
  clear hX
  have HDv1 := Lib.hid ((bv1.block w.heap.size (by omega)).trans HYv0.out)
  have HCv1 := HYv1
  rw [sv0] at HCv1
  clear bv1 bv0
  go_wp2_with fail
  refine (SA.out _ (HR.out.below HBv1.out).a).mono ?_
  rintro e w1 ⟨rfl, hbw1⟩
  have HBw1 := Lib.hid (HBv1.out.trans (hbw1.mono HBv1.out.size))
  have sw1 := hbw1.size
  have HDw1 := Lib.hid ((hbw1.block w.heap.size (by omega)).trans HDv1.out)
  have HCw1 := Lib.hid ((hbw1.block (w.heap.size + 1) (by omega)).trans HCv1.out)
  clear hbw1
  go_upto_region 2 with fail
  generalize hX : w1.alloc (.cells #[.int .i64 a, .int .i64 b, .int .i64 c] 23) = v2
  have sv2 : v2.heap.size = w1.heap.size + 1 := by rw [← hX]; simp
  have bv2 : Below w1.heap.size w1 v2 := by rw [← hX]; exact (Below.refl _ _).alloc (Nat.le_refl _) _
  have HYv2 := Lib.hid (show v2.heap[w1.heap.size]? = some (.cells #[.int .i64 a, .int .i64 b, .int .i64 c] 23 (0, 0)) by rw [← hX]; exact heap_alloc_new w1 _)
  have HBv2 := Lib.hid (HBw1.out.trans (bv2.mono HBw1.out.size))
  clear hX
  have HDv2 := Lib.hid ((bv2.block w.heap.size (by omega)).trans HDw1.out)
  have HCv2 := Lib.hid ((bv2.block (w.heap.size + 1) (by omega)).trans HCw1.out)
  clear bv2
  obtain ⟨x0, x1, x2⟩ := row3_cells HYv2.out
  go_wp2_with fail
  refine (SAJ.out _ (HR.out.below HBv2.out).a).mono ?_
  rintro e w2 ⟨rfl, hbw2⟩
  have HBw2 := Lib.hid (HBv2.out.trans (hbw2.mono HBv2.out.size))
  have sw2 := hbw2.size
  have HDw2 := Lib.hid ((hbw2.block w.heap.size (by omega)).trans HDv2.out)
  have HCw2 := Lib.hid ((hbw2.block (w.heap.size + 1) (by omega)).trans HCv2.out)
  clear hbw2
  clear x0 x1 x2
  obtain ⟨d0, d1, d2⟩ := row3_cells HDw2.out
  obtain ⟨c0, c1⟩ := row2_cells HCw2.out
  go_wp2_with fail
  refine (SJ.out _ (HR.out.below HBw2.out).a).mono ?_
  rintro e w3 ⟨rfl, hbw3⟩
  have HBw3 := Lib.hid (HBw2.out.trans (hbw3.mono HBw2.out.size))
  have sw3 := hbw3.size
  have HDw3 := Lib.hid ((hbw3.block w.heap.size (by omega)).trans HDw2.out)
  have HCw3 := Lib.hid ((hbw3.block (w.heap.size + 1) (by omega)).trans HCw2.out)
  clear hbw3
  clear d0 d1 d2 c0 c1
  go_wp2_with fail
  refine (SB.out _ (HR.out.below HBw3.out).a).mono ?_
  rintro e w4 ⟨rfl, hbw4⟩
  have HBw4 := Lib.hid (HBw3.out.trans (hbw4.mono HBw3.out.size))
  have sw4 := hbw4.size
  have HDw4 := Lib.hid ((hbw4.block w.heap.size (by omega)).trans HDw3.out)
  have HCw4 := Lib.hid ((hbw4.block (w.heap.size + 1) (by omega)).trans HCw3.out)
  clear hbw4
  go_upto_region 8 with fail
  generalize hX : w4.alloc (.cells #[.int .i64 y', .int .i64 m', .int .i64 d'] 23) = uno
  have suno : uno.heap.size = w4.heap.size + 1 := by rw [← hX]; simp
  have buno : Below w4.heap.size w4 uno := by rw [← hX]; exact (Below.refl _ _).alloc (Nat.le_refl _) _
  have HYuno := Lib.hid (show uno.heap[w4.heap.size]? = some (.cells #[.int .i64 y', .int .i64 m', .int .i64 d'] 23 (0, 0)) by rw [← hX]; exact heap_alloc_new w4 _)
  have HBuno := Lib.hid (HBw4.out.trans (buno.mono HBw4.out.size))
  clear hX
  have HDuno := Lib.hid ((buno.block w.heap.size (by omega)).trans HDw4.out)
  have HCuno := Lib.hid ((buno.block (w.heap.size + 1) (by omega)).trans HCw4.out)
  clear buno
  obtain ⟨d0, d1, d2⟩ := row3_cells HDuno.out
  obtain ⟨c0, c1⟩ := row2_cells HCuno.out
  obtain ⟨x0, x1, x2⟩ := row3_cells HYuno.out
  go_wp2_with fail
  refine (SJ1.out _ (HR.out.below HBuno.out).a).mono ?_
  rintro e w5 ⟨rfl, hbw5⟩
  have HBw5 := Lib.hid (HBuno.out.trans (hbw5.mono HBuno.out.size))
  have sw5 := hbw5.size
  have HDw5 := Lib.hid ((hbw5.block w.heap.size (by omega)).trans HDuno.out)
  have HCw5 := Lib.hid ((hbw5.block (w.heap.size + 1) (by omega)).trans HCuno.out)
  clear hbw5
  clear d0 d1 d2 c0 c1
  clear x0 x1 x2
  obtain ⟨d0, d1, d2⟩ := row3_cells HDw5.out
  obtain ⟨c0, c1⟩ := row2_cells HCw5.out
  go_wp2_with fail
  refine (SJ2.out _ (HR.out.below HBw5.out).a).mono ?_
  rintro e uok ⟨rfl, hbuok⟩
  have HBuok := Lib.hid (HBw5.out.trans (hbuok.mono HBw5.out.size))
  have suok := hbuok.size
  have HDuok := Lib.hid ((hbuok.block w.heap.size (by omega)).trans HDw5.out)
  have HCuok := Lib.hid ((hbuok.block (w.heap.size + 1) (by omega)).trans HCw5.out)
  clear hbuok
  clear d0 d1 d2 c0 c1
  obtain ⟨d0, d1, d2⟩ := row3_cells HDuok.out
  obtain ⟨c0, c1⟩ := row2_cells HCuok.out
  go_wp2_with fail
  refine (ST.out _ (HR.out.below HBuok.out)).mono ?_
  rintro e w7 ⟨rfl, hbw7⟩
  have HBw7 := Lib.hid (HBuok.out.trans (hbw7.mono HBuok.out.size))
  have sw7 := hbw7.size
  have HDw7 := Lib.hid ((hbw7.block w.heap.size (by omega)).trans HDuok.out)
  have HCw7 := Lib.hid ((hbw7.block (w.heap.size + 1) (by omega)).trans HCuok.out)
  clear hbw7
  clear d0 d1 d2 c0 c1
  go_wp2_with fail
  refine (SS.out _ (HR.out.below HBw7.out)).mono ?_
  rintro e w8 ⟨rfl, hbw8⟩
  have HBw8 := Lib.hid (HBw7.out.trans (hbw8.mono HBw7.out.size))
  have sw8 := hbw8.size
  have HDw8 := Lib.hid ((hbw8.block w.heap.size (by omega)).trans HDw7.out)
  have HCw8 := Lib.hid ((hbw8.block (w.heap.size + 1) (by omega)).trans HCw7.out)
  clear hbw8
  obtain ⟨d0, d1, d2⟩ := row3_cells HDw8.out
  obtain ⟨c0, c1⟩ := row2_cells HCw8.out
  go_wp2_with fail
  refine (SP.out _ (HR.out.below HBw8.out)).mono ?_
  rintro e w9 ⟨rfl, hbw9⟩
  have HBw9 := Lib.hid (HBw8.out.trans (hbw9.mono HBw8.out.size))
  have sw9 := hbw9.size
  have HDw9 := Lib.hid ((hbw9.block w.heap.size (by omega)).trans HDw8.out)
  have HCw9 := Lib.hid ((hbw9.block (w.heap.size + 1) (by omega)).trans HCw8.out)
  clear hbw9
  clear d0 d1 d2 c0 c1
  go_wp2_with fail
  refine (SQ.out _ (HR.out.below HBw9.out)).mono ?_
  rintro e w10 ⟨rfl, hbw10⟩
  have HBw10 := Lib.hid (HBw9.out.trans (hbw10.mono HBw9.out.size))
  have sw10 := hbw10.size
  have HDw10 := Lib.hid ((hbw10.block w.heap.size (by omega)).trans HDw9.out)
  have HCw10 := Lib.hid ((hbw10.block (w.heap.size + 1) (by omega)).trans HCw9.out)
  clear hbw10
  go_upto_region 22 with fail
  generalize hX : w10.alloc (.cells #[.int .i64 s, .int .i64 k] 39) = v10
  have sv10 : v10.heap.size = w10.heap.size + 1 := by rw [← hX]; simp
  have bv10 : Below w10.heap.size w10 v10 := by rw [← hX]; exact (Below.refl _ _).alloc (Nat.le_refl _) _
  have HYv10 := Lib.hid (show v10.heap[w10.heap.size]? = some (.cells #[.int .i64 s, .int .i64 k] 39 (0, 0)) by rw [← hX]; exact heap_alloc_new w10 _)
  have HBv10 := Lib.hid (HBw10.out.trans (bv10.mono HBw10.out.size))
  clear hX
  have HDv10 := Lib.hid ((bv10.block w.heap.size (by omega)).trans HDw10.out)
  have HCv10 := Lib.hid ((bv10.block (w.heap.size + 1) (by omega)).trans HCw10.out)
  clear bv10
  obtain ⟨c0, c1⟩ := row2_cells HCv10.out
  obtain ⟨x0, x1⟩ := row2_cells HYv10.out
  go_wp2_with fail
  refine (awake_any _ (HR.out.below HBv10.out)).mono ?_
  rintro e w11 ⟨rfl, hbw11⟩
  have HBw11 := Lib.hid (HBv10.out.trans (hbw11.mono HBv10.out.size))
  clear hbw11 c0 c1 x0 x1
  go_wp2_with fail
  go_ret
  exact ⟨rfl, HBw11.out⟩
set_option maxRecDepth 100000 in
set_option maxHeartbeats 4000000 in
theorem walk_ok_ok_ok_no (t y m d s k a b c r1 n y' m' d' r : Int) (T : List UInt8) (w : World) (h : Reads w)
    (hA : SpI t a b c r1 0) (hAJ : AOk t a b c r1)
    (wh fi : Int) (hJ : JIs y m d s n 0) (hB : SpI n y' m' d' r 0) (hBB : BOk y m d y' m' d' s r wh fi)
    (hT : TIs s T 0) (hS : SIs T s)
    (hP : Prt s k [] 10)
    : Calls Tryd.prog 4 #[.int .i64 t, .agg #[.int .i64 y, .int .i64 m, .int .i64 d], .agg #[.int .i64 s, .int .i64 k]] w (One w) := by
  have SAJ := Lib.hid hAJ.j
  obtain ⟨_, la1, la2⟩ := hAJ
  have SJ1 := Lib.hid hBB.j1
  have SJ2 := Lib.hid hBB.j2
  obtain ⟨_, _, l1, l2, l3, l4, l5, l6, l7, l8, l9, l10⟩ := hBB
  have SS := Lib.hid hS
  clear hS
  skip
  have HR := Lib.hid h
  have HBw := Lib.hid (Below.refl w.heap.size w)
  have SA := Lib.hid hA
  have SJ := Lib.hid hJ
  have SB := Lib.hid hB
  have ST := Lib.hid hT
  have SP := Lib.hid hP
  clear h hA hJ hB hT hP
  go_enter Tryd.func4, Tryd.ntmps4
  go_upto_region 1 with fail
  generalize hX : w.alloc (.cells #[.int .i64 y, .int .i64 m, .int .i64 d] 23) = v0
  have sv0 : v0.heap.size = w.heap.size + 1 := by rw [← hX]; simp
  have bv0 : Below w.heap.size w v0 := by rw [← hX]; exact (Below.refl _ _).alloc (Nat.le_refl _) _
  have HYv0 := Lib.hid (show v0.heap[w.heap.size]? = some (.cells #[.int .i64 y, .int .i64 m, .int .i64 d] 23 (0, 0)) by rw [← hX]; exact heap_alloc_new w _)
  have HBv0 := Lib.hid (HBw.out.trans (bv0.mono HBw.out.size))
  clear hX
  generalize hX : v0.alloc (.cells #[.int .i64 s, .int .i64 k] 39) = v1
  have sv1 : v1.heap.size = v0.heap.size + 1 := by rw [← hX]; simp
  have bv1 : Below v0.heap.size v0 v1 := by rw [← hX]; exact (Below.refl _ _).alloc (Nat.le_refl _) _
  have HYv1 := Lib.hid (show v1.heap[v0.heap.size]? = some (.cells #[.int .i64 s, .int .i64 k] 39 (0, 0)) by rw [← hX]; exact heap_alloc_new v0 _)
  have HBv1 := Lib.hid (HBv0.out.trans (bv1.mono HBv0.out.size))
  clear hX
  have HDv1 := Lib.hid ((bv1.block w.heap.size (by omega)).trans HYv0.out)
  have HCv1 := HYv1
  rw [sv0] at HCv1
  clear bv1 bv0
  go_wp2_with fail
  refine (SA.out _ (HR.out.below HBv1.out).a).mono ?_
  rintro e w1 ⟨rfl, hbw1⟩
  have HBw1 := Lib.hid (HBv1.out.trans (hbw1.mono HBv1.out.size))
  have sw1 := hbw1.size
  have HDw1 := Lib.hid ((hbw1.block w.heap.size (by omega)).trans HDv1.out)
  have HCw1 := Lib.hid ((hbw1.block (w.heap.size + 1) (by omega)).trans HCv1.out)
  clear hbw1
  go_upto_region 2 with fail
  generalize hX : w1.alloc (.cells #[.int .i64 a, .int .i64 b, .int .i64 c] 23) = v2
  have sv2 : v2.heap.size = w1.heap.size + 1 := by rw [← hX]; simp
  have bv2 : Below w1.heap.size w1 v2 := by rw [← hX]; exact (Below.refl _ _).alloc (Nat.le_refl _) _
  have HYv2 := Lib.hid (show v2.heap[w1.heap.size]? = some (.cells #[.int .i64 a, .int .i64 b, .int .i64 c] 23 (0, 0)) by rw [← hX]; exact heap_alloc_new w1 _)
  have HBv2 := Lib.hid (HBw1.out.trans (bv2.mono HBw1.out.size))
  clear hX
  have HDv2 := Lib.hid ((bv2.block w.heap.size (by omega)).trans HDw1.out)
  have HCv2 := Lib.hid ((bv2.block (w.heap.size + 1) (by omega)).trans HCw1.out)
  clear bv2
  obtain ⟨x0, x1, x2⟩ := row3_cells HYv2.out
  go_wp2_with fail
  refine (SAJ.out _ (HR.out.below HBv2.out).a).mono ?_
  rintro e w2 ⟨rfl, hbw2⟩
  have HBw2 := Lib.hid (HBv2.out.trans (hbw2.mono HBv2.out.size))
  have sw2 := hbw2.size
  have HDw2 := Lib.hid ((hbw2.block w.heap.size (by omega)).trans HDv2.out)
  have HCw2 := Lib.hid ((hbw2.block (w.heap.size + 1) (by omega)).trans HCv2.out)
  clear hbw2
  clear x0 x1 x2
  obtain ⟨d0, d1, d2⟩ := row3_cells HDw2.out
  obtain ⟨c0, c1⟩ := row2_cells HCw2.out
  go_wp2_with fail
  refine (SJ.out _ (HR.out.below HBw2.out).a).mono ?_
  rintro e w3 ⟨rfl, hbw3⟩
  have HBw3 := Lib.hid (HBw2.out.trans (hbw3.mono HBw2.out.size))
  have sw3 := hbw3.size
  have HDw3 := Lib.hid ((hbw3.block w.heap.size (by omega)).trans HDw2.out)
  have HCw3 := Lib.hid ((hbw3.block (w.heap.size + 1) (by omega)).trans HCw2.out)
  clear hbw3
  clear d0 d1 d2 c0 c1
  go_wp2_with fail
  refine (SB.out _ (HR.out.below HBw3.out).a).mono ?_
  rintro e w4 ⟨rfl, hbw4⟩
  have HBw4 := Lib.hid (HBw3.out.trans (hbw4.mono HBw3.out.size))
  have sw4 := hbw4.size
  have HDw4 := Lib.hid ((hbw4.block w.heap.size (by omega)).trans HDw3.out)
  have HCw4 := Lib.hid ((hbw4.block (w.heap.size + 1) (by omega)).trans HCw3.out)
  clear hbw4
  go_upto_region 8 with fail
  generalize hX : w4.alloc (.cells #[.int .i64 y', .int .i64 m', .int .i64 d'] 23) = uno
  have suno : uno.heap.size = w4.heap.size + 1 := by rw [← hX]; simp
  have buno : Below w4.heap.size w4 uno := by rw [← hX]; exact (Below.refl _ _).alloc (Nat.le_refl _) _
  have HYuno := Lib.hid (show uno.heap[w4.heap.size]? = some (.cells #[.int .i64 y', .int .i64 m', .int .i64 d'] 23 (0, 0)) by rw [← hX]; exact heap_alloc_new w4 _)
  have HBuno := Lib.hid (HBw4.out.trans (buno.mono HBw4.out.size))
  clear hX
  have HDuno := Lib.hid ((buno.block w.heap.size (by omega)).trans HDw4.out)
  have HCuno := Lib.hid ((buno.block (w.heap.size + 1) (by omega)).trans HCw4.out)
  clear buno
  obtain ⟨d0, d1, d2⟩ := row3_cells HDuno.out
  obtain ⟨c0, c1⟩ := row2_cells HCuno.out
  obtain ⟨x0, x1, x2⟩ := row3_cells HYuno.out
  go_wp2_with fail
  refine (SJ1.out _ (HR.out.below HBuno.out).a).mono ?_
  rintro e w5 ⟨rfl, hbw5⟩
  have HBw5 := Lib.hid (HBuno.out.trans (hbw5.mono HBuno.out.size))
  have sw5 := hbw5.size
  have HDw5 := Lib.hid ((hbw5.block w.heap.size (by omega)).trans HDuno.out)
  have HCw5 := Lib.hid ((hbw5.block (w.heap.size + 1) (by omega)).trans HCuno.out)
  clear hbw5
  clear d0 d1 d2 c0 c1
  clear x0 x1 x2
  obtain ⟨d0, d1, d2⟩ := row3_cells HDw5.out
  obtain ⟨c0, c1⟩ := row2_cells HCw5.out
  go_wp2_with fail
  refine (SJ2.out _ (HR.out.below HBw5.out).a).mono ?_
  rintro e uok ⟨rfl, hbuok⟩
  have HBuok := Lib.hid (HBw5.out.trans (hbuok.mono HBw5.out.size))
  have suok := hbuok.size
  have HDuok := Lib.hid ((hbuok.block w.heap.size (by omega)).trans HDw5.out)
  have HCuok := Lib.hid ((hbuok.block (w.heap.size + 1) (by omega)).trans HCw5.out)
  clear hbuok
  clear d0 d1 d2 c0 c1
  obtain ⟨d0, d1, d2⟩ := row3_cells HDuok.out
  obtain ⟨c0, c1⟩ := row2_cells HCuok.out
  go_wp2_with fail
  refine (ST.out _ (HR.out.below HBuok.out)).mono ?_
  rintro e w7 ⟨rfl, hbw7⟩
  have HBw7 := Lib.hid (HBuok.out.trans (hbw7.mono HBuok.out.size))
  have sw7 := hbw7.size
  have HDw7 := Lib.hid ((hbw7.block w.heap.size (by omega)).trans HDuok.out)
  have HCw7 := Lib.hid ((hbw7.block (w.heap.size + 1) (by omega)).trans HCuok.out)
  clear hbw7
  clear d0 d1 d2 c0 c1
  go_wp2_with fail
  refine (SS.out _ (HR.out.below HBw7.out)).mono ?_
  rintro e w8 ⟨rfl, hbw8⟩
  have HBw8 := Lib.hid (HBw7.out.trans (hbw8.mono HBw7.out.size))
  have sw8 := hbw8.size
  have HDw8 := Lib.hid ((hbw8.block w.heap.size (by omega)).trans HDw7.out)
  have HCw8 := Lib.hid ((hbw8.block (w.heap.size + 1) (by omega)).trans HCw7.out)
  clear hbw8
  obtain ⟨d0, d1, d2⟩ := row3_cells HDw8.out
  obtain ⟨c0, c1⟩ := row2_cells HCw8.out
  go_wp2_with fail
  refine (SP.out _ (HR.out.below HBw8.out)).mono ?_
  rintro e w9 ⟨rfl, hbw9⟩
  have HBw9 := Lib.hid (HBw8.out.trans (hbw9.mono HBw8.out.size))
  have sw9 := hbw9.size
  have HDw9 := Lib.hid ((hbw9.block w.heap.size (by omega)).trans HDw8.out)
  have HCw9 := Lib.hid ((hbw9.block (w.heap.size + 1) (by omega)).trans HCw8.out)
  clear hbw9
  clear d0 d1 d2 c0 c1
  go_wp2_with fail
  refine (awake_any _ (HR.out.below HBw9.out)).mono ?_
  rintro e w10 ⟨rfl, hbw10⟩
  have HBw10 := Lib.hid (HBw9.out.trans (hbw10.mono HBw9.out.size))
  clear hbw10
  go_wp2_with fail
  go_ret
  exact ⟨rfl, HBw10.out⟩
set_option maxRecDepth 100000 in
set_option maxHeartbeats 4000000 in
theorem walk_ok_no_ok_ok (t y m d s k a b c r1 n y' m' d' r : Int) (T : List UInt8) (w : World) (h : Reads w)
    (hA : SpI t a b c r1 0) (hAJ : AOk t a b c r1)
    (hJ : JIs y m d s n 0) (hB : SpI n y' m' d' r 10)
    (hT : TIs s T 0) (hS : SIs T s)
    (Q : List UInt8) (hP : Prt s k Q 0) (hQ : PIs Q s k 0)
    : Calls Tryd.prog 4 #[.int .i64 t, .agg #[.int .i64 y, .int .i64 m, .int .i64 d], .agg #[.int .i64 s, .int .i64 k]] w (One w) := by
  have SAJ := Lib.hid hAJ.j
  obtain ⟨_, la1, la2⟩ := hAJ
  skip
  have SS := Lib.hid hS
  clear hS
  have SQ := Lib.hid hQ
  clear hQ
  have HR := Lib.hid h
  have HBw := Lib.hid (Below.refl w.heap.size w)
  have SA := Lib.hid hA
  have SJ := Lib.hid hJ
  have SB := Lib.hid hB
  have ST := Lib.hid hT
  have SP := Lib.hid hP
  clear h hA hJ hB hT hP
  go_enter Tryd.func4, Tryd.ntmps4
  go_upto_region 1 with fail
  generalize hX : w.alloc (.cells #[.int .i64 y, .int .i64 m, .int .i64 d] 23) = v0
  have sv0 : v0.heap.size = w.heap.size + 1 := by rw [← hX]; simp
  have bv0 : Below w.heap.size w v0 := by rw [← hX]; exact (Below.refl _ _).alloc (Nat.le_refl _) _
  have HYv0 := Lib.hid (show v0.heap[w.heap.size]? = some (.cells #[.int .i64 y, .int .i64 m, .int .i64 d] 23 (0, 0)) by rw [← hX]; exact heap_alloc_new w _)
  have HBv0 := Lib.hid (HBw.out.trans (bv0.mono HBw.out.size))
  clear hX
  generalize hX : v0.alloc (.cells #[.int .i64 s, .int .i64 k] 39) = v1
  have sv1 : v1.heap.size = v0.heap.size + 1 := by rw [← hX]; simp
  have bv1 : Below v0.heap.size v0 v1 := by rw [← hX]; exact (Below.refl _ _).alloc (Nat.le_refl _) _
  have HYv1 := Lib.hid (show v1.heap[v0.heap.size]? = some (.cells #[.int .i64 s, .int .i64 k] 39 (0, 0)) by rw [← hX]; exact heap_alloc_new v0 _)
  have HBv1 := Lib.hid (HBv0.out.trans (bv1.mono HBv0.out.size))
  clear hX
  have HDv1 := Lib.hid ((bv1.block w.heap.size (by omega)).trans HYv0.out)
  have HCv1 := HYv1
  rw [sv0] at HCv1
  clear bv1 bv0
  go_wp2_with fail
  refine (SA.out _ (HR.out.below HBv1.out).a).mono ?_
  rintro e w1 ⟨rfl, hbw1⟩
  have HBw1 := Lib.hid (HBv1.out.trans (hbw1.mono HBv1.out.size))
  have sw1 := hbw1.size
  have HDw1 := Lib.hid ((hbw1.block w.heap.size (by omega)).trans HDv1.out)
  have HCw1 := Lib.hid ((hbw1.block (w.heap.size + 1) (by omega)).trans HCv1.out)
  clear hbw1
  go_upto_region 2 with fail
  generalize hX : w1.alloc (.cells #[.int .i64 a, .int .i64 b, .int .i64 c] 23) = v2
  have sv2 : v2.heap.size = w1.heap.size + 1 := by rw [← hX]; simp
  have bv2 : Below w1.heap.size w1 v2 := by rw [← hX]; exact (Below.refl _ _).alloc (Nat.le_refl _) _
  have HYv2 := Lib.hid (show v2.heap[w1.heap.size]? = some (.cells #[.int .i64 a, .int .i64 b, .int .i64 c] 23 (0, 0)) by rw [← hX]; exact heap_alloc_new w1 _)
  have HBv2 := Lib.hid (HBw1.out.trans (bv2.mono HBw1.out.size))
  clear hX
  have HDv2 := Lib.hid ((bv2.block w.heap.size (by omega)).trans HDw1.out)
  have HCv2 := Lib.hid ((bv2.block (w.heap.size + 1) (by omega)).trans HCw1.out)
  clear bv2
  obtain ⟨x0, x1, x2⟩ := row3_cells HYv2.out
  go_wp2_with fail
  refine (SAJ.out _ (HR.out.below HBv2.out).a).mono ?_
  rintro e w2 ⟨rfl, hbw2⟩
  have HBw2 := Lib.hid (HBv2.out.trans (hbw2.mono HBv2.out.size))
  have sw2 := hbw2.size
  have HDw2 := Lib.hid ((hbw2.block w.heap.size (by omega)).trans HDv2.out)
  have HCw2 := Lib.hid ((hbw2.block (w.heap.size + 1) (by omega)).trans HCv2.out)
  clear hbw2
  clear x0 x1 x2
  obtain ⟨d0, d1, d2⟩ := row3_cells HDw2.out
  obtain ⟨c0, c1⟩ := row2_cells HCw2.out
  go_wp2_with fail
  refine (SJ.out _ (HR.out.below HBw2.out).a).mono ?_
  rintro e w3 ⟨rfl, hbw3⟩
  have HBw3 := Lib.hid (HBw2.out.trans (hbw3.mono HBw2.out.size))
  have sw3 := hbw3.size
  have HDw3 := Lib.hid ((hbw3.block w.heap.size (by omega)).trans HDw2.out)
  have HCw3 := Lib.hid ((hbw3.block (w.heap.size + 1) (by omega)).trans HCw2.out)
  clear hbw3
  clear d0 d1 d2 c0 c1
  go_wp2_with fail
  refine (SB.out _ (HR.out.below HBw3.out).a).mono ?_
  rintro e w4 ⟨rfl, hbw4⟩
  have HBw4 := Lib.hid (HBw3.out.trans (hbw4.mono HBw3.out.size))
  have sw4 := hbw4.size
  have HDw4 := Lib.hid ((hbw4.block w.heap.size (by omega)).trans HDw3.out)
  have HCw4 := Lib.hid ((hbw4.block (w.heap.size + 1) (by omega)).trans HCw3.out)
  clear hbw4
  go_upto_region 8 with fail
  generalize hX : w4.alloc (.cells #[.int .i64 y', .int .i64 m', .int .i64 d'] 23) = uno
  have suno : uno.heap.size = w4.heap.size + 1 := by rw [← hX]; simp
  have buno : Below w4.heap.size w4 uno := by rw [← hX]; exact (Below.refl _ _).alloc (Nat.le_refl _) _
  have HYuno := Lib.hid (show uno.heap[w4.heap.size]? = some (.cells #[.int .i64 y', .int .i64 m', .int .i64 d'] 23 (0, 0)) by rw [← hX]; exact heap_alloc_new w4 _)
  have HBuno := Lib.hid (HBw4.out.trans (buno.mono HBw4.out.size))
  clear hX
  have HDuno := Lib.hid ((buno.block w.heap.size (by omega)).trans HDw4.out)
  have HCuno := Lib.hid ((buno.block (w.heap.size + 1) (by omega)).trans HCw4.out)
  clear buno
  obtain ⟨d0, d1, d2⟩ := row3_cells HDuno.out
  obtain ⟨c0, c1⟩ := row2_cells HCuno.out
  go_wp2_with fail
  refine (ST.out _ (HR.out.below HBuno.out)).mono ?_
  rintro e w7 ⟨rfl, hbw7⟩
  have HBw7 := Lib.hid (HBuno.out.trans (hbw7.mono HBuno.out.size))
  have sw7 := hbw7.size
  have HDw7 := Lib.hid ((hbw7.block w.heap.size (by omega)).trans HDuno.out)
  have HCw7 := Lib.hid ((hbw7.block (w.heap.size + 1) (by omega)).trans HCuno.out)
  clear hbw7
  clear d0 d1 d2 c0 c1
  go_wp2_with fail
  refine (SS.out _ (HR.out.below HBw7.out)).mono ?_
  rintro e w8 ⟨rfl, hbw8⟩
  have HBw8 := Lib.hid (HBw7.out.trans (hbw8.mono HBw7.out.size))
  have sw8 := hbw8.size
  have HDw8 := Lib.hid ((hbw8.block w.heap.size (by omega)).trans HDw7.out)
  have HCw8 := Lib.hid ((hbw8.block (w.heap.size + 1) (by omega)).trans HCw7.out)
  clear hbw8
  obtain ⟨d0, d1, d2⟩ := row3_cells HDw8.out
  obtain ⟨c0, c1⟩ := row2_cells HCw8.out
  go_wp2_with fail
  refine (SP.out _ (HR.out.below HBw8.out)).mono ?_
  rintro e w9 ⟨rfl, hbw9⟩
  have HBw9 := Lib.hid (HBw8.out.trans (hbw9.mono HBw8.out.size))
  have sw9 := hbw9.size
  have HDw9 := Lib.hid ((hbw9.block w.heap.size (by omega)).trans HDw8.out)
  have HCw9 := Lib.hid ((hbw9.block (w.heap.size + 1) (by omega)).trans HCw8.out)
  clear hbw9
  clear d0 d1 d2 c0 c1
  go_wp2_with fail
  refine (SQ.out _ (HR.out.below HBw9.out)).mono ?_
  rintro e w10 ⟨rfl, hbw10⟩
  have HBw10 := Lib.hid (HBw9.out.trans (hbw10.mono HBw9.out.size))
  have sw10 := hbw10.size
  have HDw10 := Lib.hid ((hbw10.block w.heap.size (by omega)).trans HDw9.out)
  have HCw10 := Lib.hid ((hbw10.block (w.heap.size + 1) (by omega)).trans HCw9.out)
  clear hbw10
  go_upto_region 22 with fail
  generalize hX : w10.alloc (.cells #[.int .i64 s, .int .i64 k] 39) = v10
  have sv10 : v10.heap.size = w10.heap.size + 1 := by rw [← hX]; simp
  have bv10 : Below w10.heap.size w10 v10 := by rw [← hX]; exact (Below.refl _ _).alloc (Nat.le_refl _) _
  have HYv10 := Lib.hid (show v10.heap[w10.heap.size]? = some (.cells #[.int .i64 s, .int .i64 k] 39 (0, 0)) by rw [← hX]; exact heap_alloc_new w10 _)
  have HBv10 := Lib.hid (HBw10.out.trans (bv10.mono HBw10.out.size))
  clear hX
  have HDv10 := Lib.hid ((bv10.block w.heap.size (by omega)).trans HDw10.out)
  have HCv10 := Lib.hid ((bv10.block (w.heap.size + 1) (by omega)).trans HCw10.out)
  clear bv10
  obtain ⟨c0, c1⟩ := row2_cells HCv10.out
  obtain ⟨x0, x1⟩ := row2_cells HYv10.out
  go_wp2_with fail
  refine (awake_any _ (HR.out.below HBv10.out)).mono ?_
  rintro e w11 ⟨rfl, hbw11⟩
  have HBw11 := Lib.hid (HBv10.out.trans (hbw11.mono HBv10.out.size))
  clear hbw11 c0 c1 x0 x1
  go_wp2_with fail
  go_ret
  exact ⟨rfl, HBw11.out⟩
set_option maxRecDepth 100000 in
set_option maxHeartbeats 4000000 in
theorem walk_ok_no_ok_no (t y m d s k a b c r1 n y' m' d' r : Int) (T : List UInt8) (w : World) (h : Reads w)
    (hA : SpI t a b c r1 0) (hAJ : AOk t a b c r1)
    (hJ : JIs y m d s n 0) (hB : SpI n y' m' d' r 10)
    (hT : TIs s T 0) (hS : SIs T s)
    (hP : Prt s k [] 10)
    : Calls Tryd.prog 4 #[.int .i64 t, .agg #[.int .i64 y, .int .i64 m, .int .i64 d], .agg #[.int .i64 s, .int .i64 k]] w (One w) := by
  have SAJ := Lib.hid hAJ.j
  obtain ⟨_, la1, la2⟩ := hAJ
  skip
  have SS := Lib.hid hS
  clear hS
  skip
  have HR := Lib.hid h
  have HBw := Lib.hid (Below.refl w.heap.size w)
  have SA := Lib.hid hA
  have SJ := Lib.hid hJ
  have SB := Lib.hid hB
  have ST := Lib.hid hT
  have SP := Lib.hid hP
  clear h hA hJ hB hT hP
  go_enter Tryd.func4, Tryd.ntmps4
  go_upto_region 1 with fail
  generalize hX : w.alloc (.cells #[.int .i64 y, .int .i64 m, .int .i64 d] 23) = v0
  have sv0 : v0.heap.size = w.heap.size + 1 := by rw [← hX]; simp
  have bv0 : Below w.heap.size w v0 := by rw [← hX]; exact (Below.refl _ _).alloc (Nat.le_refl _) _
  have HYv0 := Lib.hid (show v0.heap[w.heap.size]? = some (.cells #[.int .i64 y, .int .i64 m, .int .i64 d] 23 (0, 0)) by rw [← hX]; exact heap_alloc_new w _)
  have HBv0 := Lib.hid (HBw.out.trans (bv0.mono HBw.out.size))
  clear hX
  generalize hX : v0.alloc (.cells #[.int .i64 s, .int .i64 k] 39) = v1
  have sv1 : v1.heap.size = v0.heap.size + 1 := by rw [← hX]; simp
  have bv1 : Below v0.heap.size v0 v1 := by rw [← hX]; exact (Below.refl _ _).alloc (Nat.le_refl _) _
  have HYv1 := Lib.hid (show v1.heap[v0.heap.size]? = some (.cells #[.int .i64 s, .int .i64 k] 39 (0, 0)) by rw [← hX]; exact heap_alloc_new v0 _)
  have HBv1 := Lib.hid (HBv0.out.trans (bv1.mono HBv0.out.size))
  clear hX
  have HDv1 := Lib.hid ((bv1.block w.heap.size (by omega)).trans HYv0.out)
  have HCv1 := HYv1
  rw [sv0] at HCv1
  clear bv1 bv0
  go_wp2_with fail
  refine (SA.out _ (HR.out.below HBv1.out).a).mono ?_
  rintro e w1 ⟨rfl, hbw1⟩
  have HBw1 := Lib.hid (HBv1.out.trans (hbw1.mono HBv1.out.size))
  have sw1 := hbw1.size
  have HDw1 := Lib.hid ((hbw1.block w.heap.size (by omega)).trans HDv1.out)
  have HCw1 := Lib.hid ((hbw1.block (w.heap.size + 1) (by omega)).trans HCv1.out)
  clear hbw1
  go_upto_region 2 with fail
  generalize hX : w1.alloc (.cells #[.int .i64 a, .int .i64 b, .int .i64 c] 23) = v2
  have sv2 : v2.heap.size = w1.heap.size + 1 := by rw [← hX]; simp
  have bv2 : Below w1.heap.size w1 v2 := by rw [← hX]; exact (Below.refl _ _).alloc (Nat.le_refl _) _
  have HYv2 := Lib.hid (show v2.heap[w1.heap.size]? = some (.cells #[.int .i64 a, .int .i64 b, .int .i64 c] 23 (0, 0)) by rw [← hX]; exact heap_alloc_new w1 _)
  have HBv2 := Lib.hid (HBw1.out.trans (bv2.mono HBw1.out.size))
  clear hX
  have HDv2 := Lib.hid ((bv2.block w.heap.size (by omega)).trans HDw1.out)
  have HCv2 := Lib.hid ((bv2.block (w.heap.size + 1) (by omega)).trans HCw1.out)
  clear bv2
  obtain ⟨x0, x1, x2⟩ := row3_cells HYv2.out
  go_wp2_with fail
  refine (SAJ.out _ (HR.out.below HBv2.out).a).mono ?_
  rintro e w2 ⟨rfl, hbw2⟩
  have HBw2 := Lib.hid (HBv2.out.trans (hbw2.mono HBv2.out.size))
  have sw2 := hbw2.size
  have HDw2 := Lib.hid ((hbw2.block w.heap.size (by omega)).trans HDv2.out)
  have HCw2 := Lib.hid ((hbw2.block (w.heap.size + 1) (by omega)).trans HCv2.out)
  clear hbw2
  clear x0 x1 x2
  obtain ⟨d0, d1, d2⟩ := row3_cells HDw2.out
  obtain ⟨c0, c1⟩ := row2_cells HCw2.out
  go_wp2_with fail
  refine (SJ.out _ (HR.out.below HBw2.out).a).mono ?_
  rintro e w3 ⟨rfl, hbw3⟩
  have HBw3 := Lib.hid (HBw2.out.trans (hbw3.mono HBw2.out.size))
  have sw3 := hbw3.size
  have HDw3 := Lib.hid ((hbw3.block w.heap.size (by omega)).trans HDw2.out)
  have HCw3 := Lib.hid ((hbw3.block (w.heap.size + 1) (by omega)).trans HCw2.out)
  clear hbw3
  clear d0 d1 d2 c0 c1
  go_wp2_with fail
  refine (SB.out _ (HR.out.below HBw3.out).a).mono ?_
  rintro e w4 ⟨rfl, hbw4⟩
  have HBw4 := Lib.hid (HBw3.out.trans (hbw4.mono HBw3.out.size))
  have sw4 := hbw4.size
  have HDw4 := Lib.hid ((hbw4.block w.heap.size (by omega)).trans HDw3.out)
  have HCw4 := Lib.hid ((hbw4.block (w.heap.size + 1) (by omega)).trans HCw3.out)
  clear hbw4
  go_upto_region 8 with fail
  generalize hX : w4.alloc (.cells #[.int .i64 y', .int .i64 m', .int .i64 d'] 23) = uno
  have suno : uno.heap.size = w4.heap.size + 1 := by rw [← hX]; simp
  have buno : Below w4.heap.size w4 uno := by rw [← hX]; exact (Below.refl _ _).alloc (Nat.le_refl _) _
  have HYuno := Lib.hid (show uno.heap[w4.heap.size]? = some (.cells #[.int .i64 y', .int .i64 m', .int .i64 d'] 23 (0, 0)) by rw [← hX]; exact heap_alloc_new w4 _)
  have HBuno := Lib.hid (HBw4.out.trans (buno.mono HBw4.out.size))
  clear hX
  have HDuno := Lib.hid ((buno.block w.heap.size (by omega)).trans HDw4.out)
  have HCuno := Lib.hid ((buno.block (w.heap.size + 1) (by omega)).trans HCw4.out)
  clear buno
  obtain ⟨d0, d1, d2⟩ := row3_cells HDuno.out
  obtain ⟨c0, c1⟩ := row2_cells HCuno.out
  go_wp2_with fail
  refine (ST.out _ (HR.out.below HBuno.out)).mono ?_
  rintro e w7 ⟨rfl, hbw7⟩
  have HBw7 := Lib.hid (HBuno.out.trans (hbw7.mono HBuno.out.size))
  have sw7 := hbw7.size
  have HDw7 := Lib.hid ((hbw7.block w.heap.size (by omega)).trans HDuno.out)
  have HCw7 := Lib.hid ((hbw7.block (w.heap.size + 1) (by omega)).trans HCuno.out)
  clear hbw7
  clear d0 d1 d2 c0 c1
  go_wp2_with fail
  refine (SS.out _ (HR.out.below HBw7.out)).mono ?_
  rintro e w8 ⟨rfl, hbw8⟩
  have HBw8 := Lib.hid (HBw7.out.trans (hbw8.mono HBw7.out.size))
  have sw8 := hbw8.size
  have HDw8 := Lib.hid ((hbw8.block w.heap.size (by omega)).trans HDw7.out)
  have HCw8 := Lib.hid ((hbw8.block (w.heap.size + 1) (by omega)).trans HCw7.out)
  clear hbw8
  obtain ⟨d0, d1, d2⟩ := row3_cells HDw8.out
  obtain ⟨c0, c1⟩ := row2_cells HCw8.out
  go_wp2_with fail
  refine (SP.out _ (HR.out.below HBw8.out)).mono ?_
  rintro e w9 ⟨rfl, hbw9⟩
  have HBw9 := Lib.hid (HBw8.out.trans (hbw9.mono HBw8.out.size))
  have sw9 := hbw9.size
  have HDw9 := Lib.hid ((hbw9.block w.heap.size (by omega)).trans HDw8.out)
  have HCw9 := Lib.hid ((hbw9.block (w.heap.size + 1) (by omega)).trans HCw8.out)
  clear hbw9
  clear d0 d1 d2 c0 c1
  go_wp2_with fail
  refine (awake_any _ (HR.out.below HBw9.out)).mono ?_
  rintro e w10 ⟨rfl, hbw10⟩
  have HBw10 := Lib.hid (HBw9.out.trans (hbw10.mono HBw9.out.size))
  clear hbw10
  go_wp2_with fail
  go_ret
  exact ⟨rfl, HBw10.out⟩
set_option maxRecDepth 100000 in
set_option maxHeartbeats 4000000 in
theorem walk_ok_nj_ok_ok (t y m d s k a b c r1 n y' m' d' r : Int) (T : List UInt8) (w : World) (h : Reads w)
    (hA : SpI t a b c r1 0) (hAJ : AOk t a b c r1)
    (g : Int) (hJ : JIs y m d s n 10) (hB : SpI n y' m' d' r g)
    (hT : TIs s T 0) (hS : SIs T s)
    (Q : List UInt8) (hP : Prt s k Q 0) (hQ : PIs Q s k 0)
    : Calls Tryd.prog 4 #[.int .i64 t, .agg #[.int .i64 y, .int .i64 m, .int .i64 d], .agg #[.int .i64 s, .int .i64 k]] w (One w) := by
  have SAJ := Lib.hid hAJ.j
  obtain ⟨_, la1, la2⟩ := hAJ
  skip
  have SS := Lib.hid hS
  clear hS
  have SQ := Lib.hid hQ
  clear hQ
  have HR := Lib.hid h
  have HBw := Lib.hid (Below.refl w.heap.size w)
  have SA := Lib.hid hA
  have SJ := Lib.hid hJ
  have SB := Lib.hid hB
  have ST := Lib.hid hT
  have SP := Lib.hid hP
  clear h hA hJ hB hT hP
  go_enter Tryd.func4, Tryd.ntmps4
  go_upto_region 1 with fail
  generalize hX : w.alloc (.cells #[.int .i64 y, .int .i64 m, .int .i64 d] 23) = v0
  have sv0 : v0.heap.size = w.heap.size + 1 := by rw [← hX]; simp
  have bv0 : Below w.heap.size w v0 := by rw [← hX]; exact (Below.refl _ _).alloc (Nat.le_refl _) _
  have HYv0 := Lib.hid (show v0.heap[w.heap.size]? = some (.cells #[.int .i64 y, .int .i64 m, .int .i64 d] 23 (0, 0)) by rw [← hX]; exact heap_alloc_new w _)
  have HBv0 := Lib.hid (HBw.out.trans (bv0.mono HBw.out.size))
  clear hX
  generalize hX : v0.alloc (.cells #[.int .i64 s, .int .i64 k] 39) = v1
  have sv1 : v1.heap.size = v0.heap.size + 1 := by rw [← hX]; simp
  have bv1 : Below v0.heap.size v0 v1 := by rw [← hX]; exact (Below.refl _ _).alloc (Nat.le_refl _) _
  have HYv1 := Lib.hid (show v1.heap[v0.heap.size]? = some (.cells #[.int .i64 s, .int .i64 k] 39 (0, 0)) by rw [← hX]; exact heap_alloc_new v0 _)
  have HBv1 := Lib.hid (HBv0.out.trans (bv1.mono HBv0.out.size))
  clear hX
  have HDv1 := Lib.hid ((bv1.block w.heap.size (by omega)).trans HYv0.out)
  have HCv1 := HYv1
  rw [sv0] at HCv1
  clear bv1 bv0
  go_wp2_with fail
  refine (SA.out _ (HR.out.below HBv1.out).a).mono ?_
  rintro e w1 ⟨rfl, hbw1⟩
  have HBw1 := Lib.hid (HBv1.out.trans (hbw1.mono HBv1.out.size))
  have sw1 := hbw1.size
  have HDw1 := Lib.hid ((hbw1.block w.heap.size (by omega)).trans HDv1.out)
  have HCw1 := Lib.hid ((hbw1.block (w.heap.size + 1) (by omega)).trans HCv1.out)
  clear hbw1
  go_upto_region 2 with fail
  generalize hX : w1.alloc (.cells #[.int .i64 a, .int .i64 b, .int .i64 c] 23) = v2
  have sv2 : v2.heap.size = w1.heap.size + 1 := by rw [← hX]; simp
  have bv2 : Below w1.heap.size w1 v2 := by rw [← hX]; exact (Below.refl _ _).alloc (Nat.le_refl _) _
  have HYv2 := Lib.hid (show v2.heap[w1.heap.size]? = some (.cells #[.int .i64 a, .int .i64 b, .int .i64 c] 23 (0, 0)) by rw [← hX]; exact heap_alloc_new w1 _)
  have HBv2 := Lib.hid (HBw1.out.trans (bv2.mono HBw1.out.size))
  clear hX
  have HDv2 := Lib.hid ((bv2.block w.heap.size (by omega)).trans HDw1.out)
  have HCv2 := Lib.hid ((bv2.block (w.heap.size + 1) (by omega)).trans HCw1.out)
  clear bv2
  obtain ⟨x0, x1, x2⟩ := row3_cells HYv2.out
  go_wp2_with fail
  refine (SAJ.out _ (HR.out.below HBv2.out).a).mono ?_
  rintro e w2 ⟨rfl, hbw2⟩
  have HBw2 := Lib.hid (HBv2.out.trans (hbw2.mono HBv2.out.size))
  have sw2 := hbw2.size
  have HDw2 := Lib.hid ((hbw2.block w.heap.size (by omega)).trans HDv2.out)
  have HCw2 := Lib.hid ((hbw2.block (w.heap.size + 1) (by omega)).trans HCv2.out)
  clear hbw2
  clear x0 x1 x2
  obtain ⟨d0, d1, d2⟩ := row3_cells HDw2.out
  obtain ⟨c0, c1⟩ := row2_cells HCw2.out
  go_wp2_with fail
  refine (SJ.out _ (HR.out.below HBw2.out).a).mono ?_
  rintro e w3 ⟨rfl, hbw3⟩
  have HBw3 := Lib.hid (HBw2.out.trans (hbw3.mono HBw2.out.size))
  have sw3 := hbw3.size
  have HDw3 := Lib.hid ((hbw3.block w.heap.size (by omega)).trans HDw2.out)
  have HCw3 := Lib.hid ((hbw3.block (w.heap.size + 1) (by omega)).trans HCw2.out)
  clear hbw3
  clear d0 d1 d2 c0 c1
  go_wp2_with fail
  refine (SB.out _ (HR.out.below HBw3.out).a).mono ?_
  rintro e w4 ⟨rfl, hbw4⟩
  have HBw4 := Lib.hid (HBw3.out.trans (hbw4.mono HBw3.out.size))
  have sw4 := hbw4.size
  have HDw4 := Lib.hid ((hbw4.block w.heap.size (by omega)).trans HDw3.out)
  have HCw4 := Lib.hid ((hbw4.block (w.heap.size + 1) (by omega)).trans HCw3.out)
  clear hbw4
  go_upto_region 8 with fail
  generalize hX : w4.alloc (.cells #[.int .i64 y', .int .i64 m', .int .i64 d'] 23) = uno
  have suno : uno.heap.size = w4.heap.size + 1 := by rw [← hX]; simp
  have buno : Below w4.heap.size w4 uno := by rw [← hX]; exact (Below.refl _ _).alloc (Nat.le_refl _) _
  have HYuno := Lib.hid (show uno.heap[w4.heap.size]? = some (.cells #[.int .i64 y', .int .i64 m', .int .i64 d'] 23 (0, 0)) by rw [← hX]; exact heap_alloc_new w4 _)
  have HBuno := Lib.hid (HBw4.out.trans (buno.mono HBw4.out.size))
  clear hX
  have HDuno := Lib.hid ((buno.block w.heap.size (by omega)).trans HDw4.out)
  have HCuno := Lib.hid ((buno.block (w.heap.size + 1) (by omega)).trans HCw4.out)
  clear buno
  obtain ⟨d0, d1, d2⟩ := row3_cells HDuno.out
  obtain ⟨c0, c1⟩ := row2_cells HCuno.out
  go_wp2_with fail
  have HDunj := HDuno
  have HCunj := HCuno
  have HBunj := HBuno
  refine (ST.out _ (HR.out.below HBunj.out)).mono ?_
  rintro e w7 ⟨rfl, hbw7⟩
  have HBw7 := Lib.hid (HBunj.out.trans (hbw7.mono HBunj.out.size))
  have sw7 := hbw7.size
  have HDw7 := Lib.hid ((hbw7.block w.heap.size (by omega)).trans HDunj.out)
  have HCw7 := Lib.hid ((hbw7.block (w.heap.size + 1) (by omega)).trans HCunj.out)
  clear hbw7
  clear d0 d1 d2 c0 c1
  go_wp2_with fail
  refine (SS.out _ (HR.out.below HBw7.out)).mono ?_
  rintro e w8 ⟨rfl, hbw8⟩
  have HBw8 := Lib.hid (HBw7.out.trans (hbw8.mono HBw7.out.size))
  have sw8 := hbw8.size
  have HDw8 := Lib.hid ((hbw8.block w.heap.size (by omega)).trans HDw7.out)
  have HCw8 := Lib.hid ((hbw8.block (w.heap.size + 1) (by omega)).trans HCw7.out)
  clear hbw8
  obtain ⟨d0, d1, d2⟩ := row3_cells HDw8.out
  obtain ⟨c0, c1⟩ := row2_cells HCw8.out
  go_wp2_with fail
  refine (SP.out _ (HR.out.below HBw8.out)).mono ?_
  rintro e w9 ⟨rfl, hbw9⟩
  have HBw9 := Lib.hid (HBw8.out.trans (hbw9.mono HBw8.out.size))
  have sw9 := hbw9.size
  have HDw9 := Lib.hid ((hbw9.block w.heap.size (by omega)).trans HDw8.out)
  have HCw9 := Lib.hid ((hbw9.block (w.heap.size + 1) (by omega)).trans HCw8.out)
  clear hbw9
  clear d0 d1 d2 c0 c1
  go_wp2_with fail
  refine (SQ.out _ (HR.out.below HBw9.out)).mono ?_
  rintro e w10 ⟨rfl, hbw10⟩
  have HBw10 := Lib.hid (HBw9.out.trans (hbw10.mono HBw9.out.size))
  have sw10 := hbw10.size
  have HDw10 := Lib.hid ((hbw10.block w.heap.size (by omega)).trans HDw9.out)
  have HCw10 := Lib.hid ((hbw10.block (w.heap.size + 1) (by omega)).trans HCw9.out)
  clear hbw10
  go_upto_region 22 with fail
  generalize hX : w10.alloc (.cells #[.int .i64 s, .int .i64 k] 39) = v10
  have sv10 : v10.heap.size = w10.heap.size + 1 := by rw [← hX]; simp
  have bv10 : Below w10.heap.size w10 v10 := by rw [← hX]; exact (Below.refl _ _).alloc (Nat.le_refl _) _
  have HYv10 := Lib.hid (show v10.heap[w10.heap.size]? = some (.cells #[.int .i64 s, .int .i64 k] 39 (0, 0)) by rw [← hX]; exact heap_alloc_new w10 _)
  have HBv10 := Lib.hid (HBw10.out.trans (bv10.mono HBw10.out.size))
  clear hX
  have HDv10 := Lib.hid ((bv10.block w.heap.size (by omega)).trans HDw10.out)
  have HCv10 := Lib.hid ((bv10.block (w.heap.size + 1) (by omega)).trans HCw10.out)
  clear bv10
  obtain ⟨c0, c1⟩ := row2_cells HCv10.out
  obtain ⟨x0, x1⟩ := row2_cells HYv10.out
  go_wp2_with fail
  refine (awake_any _ (HR.out.below HBv10.out)).mono ?_
  rintro e w11 ⟨rfl, hbw11⟩
  have HBw11 := Lib.hid (HBv10.out.trans (hbw11.mono HBv10.out.size))
  clear hbw11 c0 c1 x0 x1
  go_wp2_with fail
  go_ret
  exact ⟨rfl, HBw11.out⟩
set_option maxRecDepth 100000 in
set_option maxHeartbeats 4000000 in
theorem walk_ok_nj_ok_no (t y m d s k a b c r1 n y' m' d' r : Int) (T : List UInt8) (w : World) (h : Reads w)
    (hA : SpI t a b c r1 0) (hAJ : AOk t a b c r1)
    (g : Int) (hJ : JIs y m d s n 10) (hB : SpI n y' m' d' r g)
    (hT : TIs s T 0) (hS : SIs T s)
    (hP : Prt s k [] 10)
    : Calls Tryd.prog 4 #[.int .i64 t, .agg #[.int .i64 y, .int .i64 m, .int .i64 d], .agg #[.int .i64 s, .int .i64 k]] w (One w) := by
  have SAJ := Lib.hid hAJ.j
  obtain ⟨_, la1, la2⟩ := hAJ
  skip
  have SS := Lib.hid hS
  clear hS
  skip
  have HR := Lib.hid h
  have HBw := Lib.hid (Below.refl w.heap.size w)
  have SA := Lib.hid hA
  have SJ := Lib.hid hJ
  have SB := Lib.hid hB
  have ST := Lib.hid hT
  have SP := Lib.hid hP
  clear h hA hJ hB hT hP
  go_enter Tryd.func4, Tryd.ntmps4
  go_upto_region 1 with fail
  generalize hX : w.alloc (.cells #[.int .i64 y, .int .i64 m, .int .i64 d] 23) = v0
  have sv0 : v0.heap.size = w.heap.size + 1 := by rw [← hX]; simp
  have bv0 : Below w.heap.size w v0 := by rw [← hX]; exact (Below.refl _ _).alloc (Nat.le_refl _) _
  have HYv0 := Lib.hid (show v0.heap[w.heap.size]? = some (.cells #[.int .i64 y, .int .i64 m, .int .i64 d] 23 (0, 0)) by rw [← hX]; exact heap_alloc_new w _)
  have HBv0 := Lib.hid (HBw.out.trans (bv0.mono HBw.out.size))
  clear hX
  generalize hX : v0.alloc (.cells #[.int .i64 s, .int .i64 k] 39) = v1
  have sv1 : v1.heap.size = v0.heap.size + 1 := by rw [← hX]; simp
  have bv1 : Below v0.heap.size v0 v1 := by rw [← hX]; exact (Below.refl _ _).alloc (Nat.le_refl _) _
  have HYv1 := Lib.hid (show v1.heap[v0.heap.size]? = some (.cells #[.int .i64 s, .int .i64 k] 39 (0, 0)) by rw [← hX]; exact heap_alloc_new v0 _)
  have HBv1 := Lib.hid (HBv0.out.trans (bv1.mono HBv0.out.size))
  clear hX
  have HDv1 := Lib.hid ((bv1.block w.heap.size (by omega)).trans HYv0.out)
  have HCv1 := HYv1
  rw [sv0] at HCv1
  clear bv1 bv0
  go_wp2_with fail
  refine (SA.out _ (HR.out.below HBv1.out).a).mono ?_
  rintro e w1 ⟨rfl, hbw1⟩
  have HBw1 := Lib.hid (HBv1.out.trans (hbw1.mono HBv1.out.size))
  have sw1 := hbw1.size
  have HDw1 := Lib.hid ((hbw1.block w.heap.size (by omega)).trans HDv1.out)
  have HCw1 := Lib.hid ((hbw1.block (w.heap.size + 1) (by omega)).trans HCv1.out)
  clear hbw1
  go_upto_region 2 with fail
  generalize hX : w1.alloc (.cells #[.int .i64 a, .int .i64 b, .int .i64 c] 23) = v2
  have sv2 : v2.heap.size = w1.heap.size + 1 := by rw [← hX]; simp
  have bv2 : Below w1.heap.size w1 v2 := by rw [← hX]; exact (Below.refl _ _).alloc (Nat.le_refl _) _
  have HYv2 := Lib.hid (show v2.heap[w1.heap.size]? = some (.cells #[.int .i64 a, .int .i64 b, .int .i64 c] 23 (0, 0)) by rw [← hX]; exact heap_alloc_new w1 _)
  have HBv2 := Lib.hid (HBw1.out.trans (bv2.mono HBw1.out.size))
  clear hX
  have HDv2 := Lib.hid ((bv2.block w.heap.size (by omega)).trans HDw1.out)
  have HCv2 := Lib.hid ((bv2.block (w.heap.size + 1) (by omega)).trans HCw1.out)
  clear bv2
  obtain ⟨x0, x1, x2⟩ := row3_cells HYv2.out
  go_wp2_with fail
  refine (SAJ.out _ (HR.out.below HBv2.out).a).mono ?_
  rintro e w2 ⟨rfl, hbw2⟩
  have HBw2 := Lib.hid (HBv2.out.trans (hbw2.mono HBv2.out.size))
  have sw2 := hbw2.size
  have HDw2 := Lib.hid ((hbw2.block w.heap.size (by omega)).trans HDv2.out)
  have HCw2 := Lib.hid ((hbw2.block (w.heap.size + 1) (by omega)).trans HCv2.out)
  clear hbw2
  clear x0 x1 x2
  obtain ⟨d0, d1, d2⟩ := row3_cells HDw2.out
  obtain ⟨c0, c1⟩ := row2_cells HCw2.out
  go_wp2_with fail
  refine (SJ.out _ (HR.out.below HBw2.out).a).mono ?_
  rintro e w3 ⟨rfl, hbw3⟩
  have HBw3 := Lib.hid (HBw2.out.trans (hbw3.mono HBw2.out.size))
  have sw3 := hbw3.size
  have HDw3 := Lib.hid ((hbw3.block w.heap.size (by omega)).trans HDw2.out)
  have HCw3 := Lib.hid ((hbw3.block (w.heap.size + 1) (by omega)).trans HCw2.out)
  clear hbw3
  clear d0 d1 d2 c0 c1
  go_wp2_with fail
  refine (SB.out _ (HR.out.below HBw3.out).a).mono ?_
  rintro e w4 ⟨rfl, hbw4⟩
  have HBw4 := Lib.hid (HBw3.out.trans (hbw4.mono HBw3.out.size))
  have sw4 := hbw4.size
  have HDw4 := Lib.hid ((hbw4.block w.heap.size (by omega)).trans HDw3.out)
  have HCw4 := Lib.hid ((hbw4.block (w.heap.size + 1) (by omega)).trans HCw3.out)
  clear hbw4
  go_upto_region 8 with fail
  generalize hX : w4.alloc (.cells #[.int .i64 y', .int .i64 m', .int .i64 d'] 23) = uno
  have suno : uno.heap.size = w4.heap.size + 1 := by rw [← hX]; simp
  have buno : Below w4.heap.size w4 uno := by rw [← hX]; exact (Below.refl _ _).alloc (Nat.le_refl _) _
  have HYuno := Lib.hid (show uno.heap[w4.heap.size]? = some (.cells #[.int .i64 y', .int .i64 m', .int .i64 d'] 23 (0, 0)) by rw [← hX]; exact heap_alloc_new w4 _)
  have HBuno := Lib.hid (HBw4.out.trans (buno.mono HBw4.out.size))
  clear hX
  have HDuno := Lib.hid ((buno.block w.heap.size (by omega)).trans HDw4.out)
  have HCuno := Lib.hid ((buno.block (w.heap.size + 1) (by omega)).trans HCw4.out)
  clear buno
  obtain ⟨d0, d1, d2⟩ := row3_cells HDuno.out
  obtain ⟨c0, c1⟩ := row2_cells HCuno.out
  go_wp2_with fail
  have HDunj := HDuno
  have HCunj := HCuno
  have HBunj := HBuno
  refine (ST.out _ (HR.out.below HBunj.out)).mono ?_
  rintro e w7 ⟨rfl, hbw7⟩
  have HBw7 := Lib.hid (HBunj.out.trans (hbw7.mono HBunj.out.size))
  have sw7 := hbw7.size
  have HDw7 := Lib.hid ((hbw7.block w.heap.size (by omega)).trans HDunj.out)
  have HCw7 := Lib.hid ((hbw7.block (w.heap.size + 1) (by omega)).trans HCunj.out)
  clear hbw7
  clear d0 d1 d2 c0 c1
  go_wp2_with fail
  refine (SS.out _ (HR.out.below HBw7.out)).mono ?_
  rintro e w8 ⟨rfl, hbw8⟩
  have HBw8 := Lib.hid (HBw7.out.trans (hbw8.mono HBw7.out.size))
  have sw8 := hbw8.size
  have HDw8 := Lib.hid ((hbw8.block w.heap.size (by omega)).trans HDw7.out)
  have HCw8 := Lib.hid ((hbw8.block (w.heap.size + 1) (by omega)).trans HCw7.out)
  clear hbw8
  obtain ⟨d0, d1, d2⟩ := row3_cells HDw8.out
  obtain ⟨c0, c1⟩ := row2_cells HCw8.out
  go_wp2_with fail
  refine (SP.out _ (HR.out.below HBw8.out)).mono ?_
  rintro e w9 ⟨rfl, hbw9⟩
  have HBw9 := Lib.hid (HBw8.out.trans (hbw9.mono HBw8.out.size))
  have sw9 := hbw9.size
  have HDw9 := Lib.hid ((hbw9.block w.heap.size (by omega)).trans HDw8.out)
  have HCw9 := Lib.hid ((hbw9.block (w.heap.size + 1) (by omega)).trans HCw8.out)
  clear hbw9
  clear d0 d1 d2 c0 c1
  go_wp2_with fail
  refine (awake_any _ (HR.out.below HBw9.out)).mono ?_
  rintro e w10 ⟨rfl, hbw10⟩
  have HBw10 := Lib.hid (HBw9.out.trans (hbw10.mono HBw9.out.size))
  clear hbw10
  go_wp2_with fail
  go_ret
  exact ⟨rfl, HBw10.out⟩
set_option maxRecDepth 100000 in
set_option maxHeartbeats 4000000 in
theorem walk_ok_nj_no_no (t y m d s k a b c r1 n y' m' d' r : Int) (T : List UInt8) (w : World) (h : Reads w)
    (hA : SpI t a b c r1 0) (hAJ : AOk t a b c r1)
    (g : Int) (hJ : JIs y m d s n 10) (hB : SpI n y' m' d' r g)
    (hT : TIs s T 10)
    (hP : Prt s k [] 10)
    : Calls Tryd.prog 4 #[.int .i64 t, .agg #[.int .i64 y, .int .i64 m, .int .i64 d], .agg #[.int .i64 s, .int .i64 k]] w (One w) := by
  have SAJ := Lib.hid hAJ.j
  obtain ⟨_, la1, la2⟩ := hAJ
  skip
  skip
  skip
  have HR := Lib.hid h
  have HBw := Lib.hid (Below.refl w.heap.size w)
  have SA := Lib.hid hA
  have SJ := Lib.hid hJ
  have SB := Lib.hid hB
  have ST := Lib.hid hT
  have SP := Lib.hid hP
  clear h hA hJ hB hT hP
  go_enter Tryd.func4, Tryd.ntmps4
  go_upto_region 1 with fail
  generalize hX : w.alloc (.cells #[.int .i64 y, .int .i64 m, .int .i64 d] 23) = v0
  have sv0 : v0.heap.size = w.heap.size + 1 := by rw [← hX]; simp
  have bv0 : Below w.heap.size w v0 := by rw [← hX]; exact (Below.refl _ _).alloc (Nat.le_refl _) _
  have HYv0 := Lib.hid (show v0.heap[w.heap.size]? = some (.cells #[.int .i64 y, .int .i64 m, .int .i64 d] 23 (0, 0)) by rw [← hX]; exact heap_alloc_new w _)
  have HBv0 := Lib.hid (HBw.out.trans (bv0.mono HBw.out.size))
  clear hX
  generalize hX : v0.alloc (.cells #[.int .i64 s, .int .i64 k] 39) = v1
  have sv1 : v1.heap.size = v0.heap.size + 1 := by rw [← hX]; simp
  have bv1 : Below v0.heap.size v0 v1 := by rw [← hX]; exact (Below.refl _ _).alloc (Nat.le_refl _) _
  have HYv1 := Lib.hid (show v1.heap[v0.heap.size]? = some (.cells #[.int .i64 s, .int .i64 k] 39 (0, 0)) by rw [← hX]; exact heap_alloc_new v0 _)
  have HBv1 := Lib.hid (HBv0.out.trans (bv1.mono HBv0.out.size))
  clear hX
  have HDv1 := Lib.hid ((bv1.block w.heap.size (by omega)).trans HYv0.out)
  have HCv1 := HYv1
  rw [sv0] at HCv1
  clear bv1 bv0
  go_wp2_with fail
  refine (SA.out _ (HR.out.below HBv1.out).a).mono ?_
  rintro e w1 ⟨rfl, hbw1⟩
  have HBw1 := Lib.hid (HBv1.out.trans (hbw1.mono HBv1.out.size))
  have sw1 := hbw1.size
  have HDw1 := Lib.hid ((hbw1.block w.heap.size (by omega)).trans HDv1.out)
  have HCw1 := Lib.hid ((hbw1.block (w.heap.size + 1) (by omega)).trans HCv1.out)
  clear hbw1
  go_upto_region 2 with fail
  generalize hX : w1.alloc (.cells #[.int .i64 a, .int .i64 b, .int .i64 c] 23) = v2
  have sv2 : v2.heap.size = w1.heap.size + 1 := by rw [← hX]; simp
  have bv2 : Below w1.heap.size w1 v2 := by rw [← hX]; exact (Below.refl _ _).alloc (Nat.le_refl _) _
  have HYv2 := Lib.hid (show v2.heap[w1.heap.size]? = some (.cells #[.int .i64 a, .int .i64 b, .int .i64 c] 23 (0, 0)) by rw [← hX]; exact heap_alloc_new w1 _)
  have HBv2 := Lib.hid (HBw1.out.trans (bv2.mono HBw1.out.size))
  clear hX
  have HDv2 := Lib.hid ((bv2.block w.heap.size (by omega)).trans HDw1.out)
  have HCv2 := Lib.hid ((bv2.block (w.heap.size + 1) (by omega)).trans HCw1.out)
  clear bv2
  obtain ⟨x0, x1, x2⟩ := row3_cells HYv2.out
  go_wp2_with fail
  refine (SAJ.out _ (HR.out.below HBv2.out).a).mono ?_
  rintro e w2 ⟨rfl, hbw2⟩
  have HBw2 := Lib.hid (HBv2.out.trans (hbw2.mono HBv2.out.size))
  have sw2 := hbw2.size
  have HDw2 := Lib.hid ((hbw2.block w.heap.size (by omega)).trans HDv2.out)
  have HCw2 := Lib.hid ((hbw2.block (w.heap.size + 1) (by omega)).trans HCv2.out)
  clear hbw2
  clear x0 x1 x2
  obtain ⟨d0, d1, d2⟩ := row3_cells HDw2.out
  obtain ⟨c0, c1⟩ := row2_cells HCw2.out
  go_wp2_with fail
  refine (SJ.out _ (HR.out.below HBw2.out).a).mono ?_
  rintro e w3 ⟨rfl, hbw3⟩
  have HBw3 := Lib.hid (HBw2.out.trans (hbw3.mono HBw2.out.size))
  have sw3 := hbw3.size
  have HDw3 := Lib.hid ((hbw3.block w.heap.size (by omega)).trans HDw2.out)
  have HCw3 := Lib.hid ((hbw3.block (w.heap.size + 1) (by omega)).trans HCw2.out)
  clear hbw3
  clear d0 d1 d2 c0 c1
  go_wp2_with fail
  refine (SB.out _ (HR.out.below HBw3.out).a).mono ?_
  rintro e w4 ⟨rfl, hbw4⟩
  have HBw4 := Lib.hid (HBw3.out.trans (hbw4.mono HBw3.out.size))
  have sw4 := hbw4.size
  have HDw4 := Lib.hid ((hbw4.block w.heap.size (by omega)).trans HDw3.out)
  have HCw4 := Lib.hid ((hbw4.block (w.heap.size + 1) (by omega)).trans HCw3.out)
  clear hbw4
  go_upto_region 8 with fail
  generalize hX : w4.alloc (.cells #[.int .i64 y', .int .i64 m', .int .i64 d'] 23) = uno
  have suno : uno.heap.size = w4.heap.size + 1 := by rw [← hX]; simp
  have buno : Below w4.heap.size w4 uno := by rw [← hX]; exact (Below.refl _ _).alloc (Nat.le_refl _) _
  have HYuno := Lib.hid (show uno.heap[w4.heap.size]? = some (.cells #[.int .i64 y', .int .i64 m', .int .i64 d'] 23 (0, 0)) by rw [← hX]; exact heap_alloc_new w4 _)
  have HBuno := Lib.hid (HBw4.out.trans (buno.mono HBw4.out.size))
  clear hX
  have HDuno := Lib.hid ((buno.block w.heap.size (by omega)).trans HDw4.out)
  have HCuno := Lib.hid ((buno.block (w.heap.size + 1) (by omega)).trans HCw4.out)
  clear buno
  obtain ⟨d0, d1, d2⟩ := row3_cells HDuno.out
  obtain ⟨c0, c1⟩ := row2_cells HCuno.out
  go_wp2_with fail
  have HDunj := HDuno
  have HCunj := HCuno
  have HBunj := HBuno
  refine (ST.out _ (HR.out.below HBunj.out)).mono ?_
  rintro e w7 ⟨rfl, hbw7⟩
  have HBw7 := Lib.hid (HBunj.out.trans (hbw7.mono HBunj.out.size))
  have sw7 := hbw7.size
  have HDw7 := Lib.hid ((hbw7.block w.heap.size (by omega)).trans HDunj.out)
  have HCw7 := Lib.hid ((hbw7.block (w.heap.size + 1) (by omega)).trans HCunj.out)
  clear hbw7
  clear d0 d1 d2 c0 c1
  obtain ⟨d0, d1, d2⟩ := row3_cells HDw7.out
  obtain ⟨c0, c1⟩ := row2_cells HCw7.out
  go_wp2_with fail
  refine (SP.out _ (HR.out.below HBw7.out)).mono ?_
  rintro e w9 ⟨rfl, hbw9⟩
  have HBw9 := Lib.hid (HBw7.out.trans (hbw9.mono HBw7.out.size))
  have sw9 := hbw9.size
  have HDw9 := Lib.hid ((hbw9.block w.heap.size (by omega)).trans HDw7.out)
  have HCw9 := Lib.hid ((hbw9.block (w.heap.size + 1) (by omega)).trans HCw7.out)
  clear hbw9
  clear d0 d1 d2 c0 c1
  go_wp2_with fail
  refine (awake_any _ (HR.out.below HBw9.out)).mono ?_
  rintro e w10 ⟨rfl, hbw10⟩
  have HBw10 := Lib.hid (HBw9.out.trans (hbw10.mono HBw9.out.size))
  clear hbw10
  go_wp2_with fail
  go_ret
  exact ⟨rfl, HBw10.out⟩
set_option maxRecDepth 100000 in
set_option maxHeartbeats 4000000 in
theorem walk_no_ok_ok_ok (t y m d s k a b c r1 n y' m' d' r : Int) (T : List UInt8) (w : World) (h : Reads w)
    (hA : SpI t a b c r1 10)
    (wh fi : Int) (hJ : JIs y m d s n 0) (hB : SpI n y' m' d' r 0) (hBB : BOk y m d y' m' d' s r wh fi)
    (hT : TIs s T 0) (hS : SIs T s)
    (Q : List UInt8) (hP : Prt s k Q 0) (hQ : PIs Q s k 0)
    : Calls Tryd.prog 4 #[.int .i64 t, .agg #[.int .i64 y, .int .i64 m, .int .i64 d], .agg #[.int .i64 s, .int .i64 k]] w (One w) := by
  skip
  have SJ1 := Lib.hid hBB.j1
  have SJ2 := Lib.hid hBB.j2
  obtain ⟨_, _, l1, l2, l3, l4, l5, l6, l7, l8, l9, l10⟩ := hBB
  have SS := Lib.hid hS
  clear hS
  have SQ := Lib.hid hQ
  clear hQ
  have HR := Lib.hid h
  have HBw := Lib.hid (Below.refl w.heap.size w)
  have SA := Lib.hid hA
  have SJ := Lib.hid hJ
  have SB := Lib.hid hB
  have ST := Lib.hid hT
  have SP := Lib.hid hP
  clear h hA hJ hB hT hP
  go_enter Tryd.func4, Tryd.ntmps4
  go_upto_region 1 with fail
  generalize hX : w.alloc (.cells #[.int .i64 y, .int .i64 m, .int .i64 d] 23) = v0
  have sv0 : v0.heap.size = w.heap.size + 1 := by rw [← hX]; simp
  have bv0 : Below w.heap.size w v0 := by rw [← hX]; exact (Below.refl _ _).alloc (Nat.le_refl _) _
  have HYv0 := Lib.hid (show v0.heap[w.heap.size]? = some (.cells #[.int .i64 y, .int .i64 m, .int .i64 d] 23 (0, 0)) by rw [← hX]; exact heap_alloc_new w _)
  have HBv0 := Lib.hid (HBw.out.trans (bv0.mono HBw.out.size))
  clear hX
  generalize hX : v0.alloc (.cells #[.int .i64 s, .int .i64 k] 39) = v1
  have sv1 : v1.heap.size = v0.heap.size + 1 := by rw [← hX]; simp
  have bv1 : Below v0.heap.size v0 v1 := by rw [← hX]; exact (Below.refl _ _).alloc (Nat.le_refl _) _
  have HYv1 := Lib.hid (show v1.heap[v0.heap.size]? = some (.cells #[.int .i64 s, .int .i64 k] 39 (0, 0)) by rw [← hX]; exact heap_alloc_new v0 _)
  have HBv1 := Lib.hid (HBv0.out.trans (bv1.mono HBv0.out.size))
  clear hX
  have HDv1 := Lib.hid ((bv1.block w.heap.size (by omega)).trans HYv0.out)
  have HCv1 := HYv1
  rw [sv0] at HCv1
  clear bv1 bv0
  go_wp2_with fail
  refine (SA.out _ (HR.out.below HBv1.out).a).mono ?_
  rintro e w1 ⟨rfl, hbw1⟩
  have HBw1 := Lib.hid (HBv1.out.trans (hbw1.mono HBv1.out.size))
  have sw1 := hbw1.size
  have HDw1 := Lib.hid ((hbw1.block w.heap.size (by omega)).trans HDv1.out)
  have HCw1 := Lib.hid ((hbw1.block (w.heap.size + 1) (by omega)).trans HCv1.out)
  clear hbw1
  go_upto_region 2 with fail
  generalize hX : w1.alloc (.cells #[.int .i64 a, .int .i64 b, .int .i64 c] 23) = v2
  have sv2 : v2.heap.size = w1.heap.size + 1 := by rw [← hX]; simp
  have bv2 : Below w1.heap.size w1 v2 := by rw [← hX]; exact (Below.refl _ _).alloc (Nat.le_refl _) _
  have HYv2 := Lib.hid (show v2.heap[w1.heap.size]? = some (.cells #[.int .i64 a, .int .i64 b, .int .i64 c] 23 (0, 0)) by rw [← hX]; exact heap_alloc_new w1 _)
  have HBv2 := Lib.hid (HBw1.out.trans (bv2.mono HBw1.out.size))
  clear hX
  have HDv2 := Lib.hid ((bv2.block w.heap.size (by omega)).trans HDw1.out)
  have HCv2 := Lib.hid ((bv2.block (w.heap.size + 1) (by omega)).trans HCw1.out)
  clear bv2
  obtain ⟨d0, d1, d2⟩ := row3_cells HDv2.out
  obtain ⟨c0, c1⟩ := row2_cells HCv2.out
  go_wp2_with fail
  refine (SJ.out _ (HR.out.below HBv2.out).a).mono ?_
  rintro e w3 ⟨rfl, hbw3⟩
  have HBw3 := Lib.hid (HBv2.out.trans (hbw3.mono HBv2.out.size))
  have sw3 := hbw3.size
  have HDw3 := Lib.hid ((hbw3.block w.heap.size (by omega)).trans HDv2.out)
  have HCw3 := Lib.hid ((hbw3.block (w.heap.size + 1) (by omega)).trans HCv2.out)
  clear hbw3
  clear d0 d1 d2 c0 c1
  go_wp2_with fail
  refine (SB.out _ (HR.out.below HBw3.out).a).mono ?_
  rintro e w4 ⟨rfl, hbw4⟩
  have HBw4 := Lib.hid (HBw3.out.trans (hbw4.mono HBw3.out.size))
  have sw4 := hbw4.size
  have HDw4 := Lib.hid ((hbw4.block w.heap.size (by omega)).trans HDw3.out)
  have HCw4 := Lib.hid ((hbw4.block (w.heap.size + 1) (by omega)).trans HCw3.out)
  clear hbw4
  go_upto_region 8 with fail
  generalize hX : w4.alloc (.cells #[.int .i64 y', .int .i64 m', .int .i64 d'] 23) = uno
  have suno : uno.heap.size = w4.heap.size + 1 := by rw [← hX]; simp
  have buno : Below w4.heap.size w4 uno := by rw [← hX]; exact (Below.refl _ _).alloc (Nat.le_refl _) _
  have HYuno := Lib.hid (show uno.heap[w4.heap.size]? = some (.cells #[.int .i64 y', .int .i64 m', .int .i64 d'] 23 (0, 0)) by rw [← hX]; exact heap_alloc_new w4 _)
  have HBuno := Lib.hid (HBw4.out.trans (buno.mono HBw4.out.size))
  clear hX
  have HDuno := Lib.hid ((buno.block w.heap.size (by omega)).trans HDw4.out)
  have HCuno := Lib.hid ((buno.block (w.heap.size + 1) (by omega)).trans HCw4.out)
  clear buno
  obtain ⟨d0, d1, d2⟩ := row3_cells HDuno.out
  obtain ⟨c0, c1⟩ := row2_cells HCuno.out
  obtain ⟨x0, x1, x2⟩ := row3_cells HYuno.out
  go_wp2_with fail
  refine (SJ1.out _ (HR.out.below HBuno.out).a).mono ?_
  rintro e w5 ⟨rfl, hbw5⟩
  have HBw5 := Lib.hid (HBuno.out.trans (hbw5.mono HBuno.out.size))
  have sw5 := hbw5.size
  have HDw5 := Lib.hid ((hbw5.block w.heap.size (by omega)).trans HDuno.out)
  have HCw5 := Lib.hid ((hbw5.block (w.heap.size + 1) (by omega)).trans HCuno.out)
  clear hbw5
  clear d0 d1 d2 c0 c1
  clear x0 x1 x2
  obtain ⟨d0, d1, d2⟩ := row3_cells HDw5.out
  obtain ⟨c0, c1⟩ := row2_cells HCw5.out
  go_wp2_with fail
  refine (SJ2.out _ (HR.out.below HBw5.out).a).mono ?_
  rintro e uok ⟨rfl, hbuok⟩
  have HBuok := Lib.hid (HBw5.out.trans (hbuok.mono HBw5.out.size))
  have suok := hbuok.size
  have HDuok := Lib.hid ((hbuok.block w.heap.size (by omega)).trans HDw5.out)
  have HCuok := Lib.hid ((hbuok.block (w.heap.size + 1) (by omega)).trans HCw5.out)
  clear hbuok
  clear d0 d1 d2 c0 c1
  obtain ⟨d0, d1, d2⟩ := row3_cells HDuok.out
  obtain ⟨c0, c1⟩ := row2_cells HCuok.out
  go_wp2_with fail
  refine (ST.out _ (HR.out.below HBuok.out)).mono ?_
  rintro e w7 ⟨rfl, hbw7⟩
  have HBw7 := Lib.hid (HBuok.out.trans (hbw7.mono HBuok.out.size))
  have sw7 := hbw7.size
  have HDw7 := Lib.hid ((hbw7.block w.heap.size (by omega)).trans HDuok.out)
  have HCw7 := Lib.hid ((hbw7.block (w.heap.size + 1) (by omega)).trans HCuok.out)
  clear hbw7
  clear d0 d1 d2 c0 c1
  go_wp2_with fail
  refine (SS.out _ (HR.out.below HBw7.out)).mono ?_
  rintro e w8 ⟨rfl, hbw8⟩
  have HBw8 := Lib.hid (HBw7.out.trans (hbw8.mono HBw7.out.size))
  have sw8 := hbw8.size
  have HDw8 := Lib.hid ((hbw8.block w.heap.size (by omega)).trans HDw7.out)
  have HCw8 := Lib.hid ((hbw8.block (w.heap.size + 1) (by omega)).trans HCw7.out)
  clear hbw8
  obtain ⟨d0, d1, d2⟩ := row3_cells HDw8.out
  obtain ⟨c0, c1⟩ := row2_cells HCw8.out
  go_wp2_with fail
  refine (SP.out _ (HR.out.below HBw8.out)).mono ?_
  rintro e w9 ⟨rfl, hbw9⟩
  have HBw9 := Lib.hid (HBw8.out.trans (hbw9.mono HBw8.out.size))
  have sw9 := hbw9.size
  have HDw9 := Lib.hid ((hbw9.block w.heap.size (by omega)).trans HDw8.out)
  have HCw9 := Lib.hid ((hbw9.block (w.heap.size + 1) (by omega)).trans HCw8.out)
  clear hbw9
  clear d0 d1 d2 c0 c1
  go_wp2_with fail
  refine (SQ.out _ (HR.out.below HBw9.out)).mono ?_
  rintro e w10 ⟨rfl, hbw10⟩
  have HBw10 := Lib.hid (HBw9.out.trans (hbw10.mono HBw9.out.size))
  have sw10 := hbw10.size
  have HDw10 := Lib.hid ((hbw10.block w.heap.size (by omega)).trans HDw9.out)
  have HCw10 := Lib.hid ((hbw10.block (w.heap.size + 1) (by omega)).trans HCw9.out)
  clear hbw10
  go_upto_region 22 with fail
  generalize hX : w10.alloc (.cells #[.int .i64 s, .int .i64 k] 39) = v10
  have sv10 : v10.heap.size = w10.heap.size + 1 := by rw [← hX]; simp
  have bv10 : Below w10.heap.size w10 v10 := by rw [← hX]; exact (Below.refl _ _).alloc (Nat.le_refl _) _
  have HYv10 := Lib.hid (show v10.heap[w10.heap.size]? = some (.cells #[.int .i64 s, .int .i64 k] 39 (0, 0)) by rw [← hX]; exact heap_alloc_new w10 _)
  have HBv10 := Lib.hid (HBw10.out.trans (bv10.mono HBw10.out.size))
  clear hX
  have HDv10 := Lib.hid ((bv10.block w.heap.size (by omega)).trans HDw10.out)
  have HCv10 := Lib.hid ((bv10.block (w.heap.size + 1) (by omega)).trans HCw10.out)
  clear bv10
  obtain ⟨c0, c1⟩ := row2_cells HCv10.out
  obtain ⟨x0, x1⟩ := row2_cells HYv10.out
  go_wp2_with fail
  refine (awake_any _ (HR.out.below HBv10.out)).mono ?_
  rintro e w11 ⟨rfl, hbw11⟩
  have HBw11 := Lib.hid (HBv10.out.trans (hbw11.mono HBv10.out.size))
  clear hbw11 c0 c1 x0 x1
  go_wp2_with fail
  go_ret
  exact ⟨rfl, HBw11.out⟩
set_option maxRecDepth 100000 in
set_option maxHeartbeats 4000000 in
theorem walk_no_ok_ok_no (t y m d s k a b c r1 n y' m' d' r : Int) (T : List UInt8) (w : World) (h : Reads w)
    (hA : SpI t a b c r1 10)
    (wh fi : Int) (hJ : JIs y m d s n 0) (hB : SpI n y' m' d' r 0) (hBB : BOk y m d y' m' d' s r wh fi)
    (hT : TIs s T 0) (hS : SIs T s)
    (hP : Prt s k [] 10)
    : Calls Tryd.prog 4 #[.int .i64 t, .agg #[.int .i64 y, .int .i64 m, .int .i64 d], .agg #[.int .i64 s, .int .i64 k]] w (One w) := by
  skip
  have SJ1 := Lib.hid hBB.j1
  have SJ2 := Lib.hid hBB.j2
  obtain ⟨_, _, l1, l2, l3, l4, l5, l6, l7, l8, l9, l10⟩ := hBB
  have SS := Lib.hid hS
  clear hS
  skip
  have HR := Lib.hid h
  have HBw := Lib.hid (Below.refl w.heap.size w)
  have SA := Lib.hid hA
  have SJ := Lib.hid hJ
  have SB := Lib.hid hB
  have ST := Lib.hid hT
  have SP := Lib.hid hP
  clear h hA hJ hB hT hP
  go_enter Tryd.func4, Tryd.ntmps4
  go_upto_region 1 with fail
  generalize hX : w.alloc (.cells #[.int .i64 y, .int .i64 m, .int .i64 d] 23) = v0
  have sv0 : v0.heap.size = w.heap.size + 1 := by rw [← hX]; simp
  have bv0 : Below w.heap.size w v0 := by rw [← hX]; exact (Below.refl _ _).alloc (Nat.le_refl _) _
  have HYv0 := Lib.hid (show v0.heap[w.heap.size]? = some (.cells #[.int .i64 y, .int .i64 m, .int .i64 d] 23 (0, 0)) by rw [← hX]; exact heap_alloc_new w _)
  have HBv0 := Lib.hid (HBw.out.trans (bv0.mono HBw.out.size))
  clear hX
  generalize hX : v0.alloc (.cells #[.int .i64 s, .int .i64 k] 39) = v1
  have sv1 : v1.heap.size = v0.heap.size + 1 := by rw [← hX]; simp
  have bv1 : Below v0.heap.size v0 v1 := by rw [← hX]; exact (Below.refl _ _).alloc (Nat.le_refl _) _
  have HYv1 := Lib.hid (show v1.heap[v0.heap.size]? = some (.cells #[.int .i64 s, .int .i64 k] 39 (0, 0)) by rw [← hX]; exact heap_alloc_new v0 _)
  have HBv1 := Lib.hid (HBv0.out.trans (bv1.mono HBv0.out.size))
  clear hX
  have HDv1 := Lib.hid ((bv1.block w.heap.size (by omega)).trans HYv0.out)
  have HCv1 := HYv1
  rw [sv0] at HCv1
  clear bv1 bv0
  go_wp2_with fail
  refine (SA.out _ (HR.out.below HBv1.out).a).mono ?_
  rintro e w1 ⟨rfl, hbw1⟩
  have HBw1 := Lib.hid (HBv1.out.trans (hbw1.mono HBv1.out.size))
  have sw1 := hbw1.size
  have HDw1 := Lib.hid ((hbw1.block w.heap.size (by omega)).trans HDv1.out)
  have HCw1 := Lib.hid ((hbw1.block (w.heap.size + 1) (by omega)).trans HCv1.out)
  clear hbw1
  go_upto_region 2 with fail
  generalize hX : w1.alloc (.cells #[.int .i64 a, .int .i64 b, .int .i64 c] 23) = v2
  have sv2 : v2.heap.size = w1.heap.size + 1 := by rw [← hX]; simp
  have bv2 : Below w1.heap.size w1 v2 := by rw [← hX]; exact (Below.refl _ _).alloc (Nat.le_refl _) _
  have HYv2 := Lib.hid (show v2.heap[w1.heap.size]? = some (.cells #[.int .i64 a, .int .i64 b, .int .i64 c] 23 (0, 0)) by rw [← hX]; exact heap_alloc_new w1 _)
  have HBv2 := Lib.hid (HBw1.out.trans (bv2.mono HBw1.out.size))
  clear hX
  have HDv2 := Lib.hid ((bv2.block w.heap.size (by omega)).trans HDw1.out)
  have HCv2 := Lib.hid ((bv2.block (w.heap.size + 1) (by omega)).trans HCw1.out)
  clear bv2
  obtain ⟨d0, d1, d2⟩ := row3_cells HDv2.out
  obtain ⟨c0, c1⟩ := row2_cells HCv2.out
  go_wp2_with fail
  refine (SJ.out _ (HR.out.below HBv2.out).a).mono ?_
  rintro e w3 ⟨rfl, hbw3⟩
  have HBw3 := Lib.hid (HBv2.out.trans (hbw3.mono HBv2.out.size))
  have sw3 := hbw3.size
  have HDw3 := Lib.hid ((hbw3.block w.heap.size (by omega)).trans HDv2.out)
  have HCw3 := Lib.hid ((hbw3.block (w.heap.size + 1) (by omega)).trans HCv2.out)
  clear hbw3
  clear d0 d1 d2 c0 c1
  go_wp2_with fail
  refine (SB.out _ (HR.out.below HBw3.out).a).mono ?_
  rintro e w4 ⟨rfl, hbw4⟩
  have HBw4 := Lib.hid (HBw3.out.trans (hbw4.mono HBw3.out.size))
  have sw4 := hbw4.size
  have HDw4 := Lib.hid ((hbw4.block w.heap.size (by omega)).trans HDw3.out)
  have HCw4 := Lib.hid ((hbw4.block (w.heap.size + 1) (by omega)).trans HCw3.out)
  clear hbw4
  go_upto_region 8 with fail
  generalize hX : w4.alloc (.cells #[.int .i64 y', .int .i64 m', .int .i64 d'] 23) = uno
  have suno : uno.heap.size = w4.heap.size + 1 := by rw [← hX]; simp
  have buno : Below w4.heap.size w4 uno := by rw [← hX]; exact (Below.refl _ _).alloc (Nat.le_refl _) _
  have HYuno := Lib.hid (show uno.heap[w4.heap.size]? = some (.cells #[.int .i64 y', .int .i64 m', .int .i64 d'] 23 (0, 0)) by rw [← hX]; exact heap_alloc_new w4 _)
  have HBuno := Lib.hid (HBw4.out.trans (buno.mono HBw4.out.size))
  clear hX
  have HDuno := Lib.hid ((buno.block w.heap.size (by omega)).trans HDw4.out)
  have HCuno := Lib.hid ((buno.block (w.heap.size + 1) (by omega)).trans HCw4.out)
  clear buno
  obtain ⟨d0, d1, d2⟩ := row3_cells HDuno.out
  obtain ⟨c0, c1⟩ := row2_cells HCuno.out
  obtain ⟨x0, x1, x2⟩ := row3_cells HYuno.out
  go_wp2_with fail
  refine (SJ1.out _ (HR.out.below HBuno.out).a).mono ?_
  rintro e w5 ⟨rfl, hbw5⟩
  have HBw5 := Lib.hid (HBuno.out.trans (hbw5.mono HBuno.out.size))
  have sw5 := hbw5.size
  have HDw5 := Lib.hid ((hbw5.block w.heap.size (by omega)).trans HDuno.out)
  have HCw5 := Lib.hid ((hbw5.block (w.heap.size + 1) (by omega)).trans HCuno.out)
  clear hbw5
  clear d0 d1 d2 c0 c1
  clear x0 x1 x2
  obtain ⟨d0, d1, d2⟩ := row3_cells HDw5.out
  obtain ⟨c0, c1⟩ := row2_cells HCw5.out
  go_wp2_with fail
  refine (SJ2.out _ (HR.out.below HBw5.out).a).mono ?_
  rintro e uok ⟨rfl, hbuok⟩
  have HBuok := Lib.hid (HBw5.out.trans (hbuok.mono HBw5.out.size))
  have suok := hbuok.size
  have HDuok := Lib.hid ((hbuok.block w.heap.size (by omega)).trans HDw5.out)
  have HCuok := Lib.hid ((hbuok.block (w.heap.size + 1) (by omega)).trans HCw5.out)
  clear hbuok
  clear d0 d1 d2 c0 c1
  obtain ⟨d0, d1, d2⟩ := row3_cells HDuok.out
  obtain ⟨c0, c1⟩ := row2_cells HCuok.out
  go_wp2_with fail
  refine (ST.out _ (HR.out.below HBuok.out)).mono ?_
  rintro e w7 ⟨rfl, hbw7⟩
  have HBw7 := Lib.hid (HBuok.out.trans (hbw7.mono HBuok.out.size))
  have sw7 := hbw7.size
  have HDw7 := Lib.hid ((hbw7.block w.heap.size (by omega)).trans HDuok.out)
  have HCw7 := Lib.hid ((hbw7.block (w.heap.size + 1) (by omega)).trans HCuok.out)
  clear hbw7
  clear d0 d1 d2 c0 c1
  go_wp2_with fail
  refine (SS.out _ (HR.out.below HBw7.out)).mono ?_
  rintro e w8 ⟨rfl, hbw8⟩
  have HBw8 := Lib.hid (HBw7.out.trans (hbw8.mono HBw7.out.size))
  have sw8 := hbw8.size
  have HDw8 := Lib.hid ((hbw8.block w.heap.size (by omega)).trans HDw7.out)
  have HCw8 := Lib.hid ((hbw8.block (w.heap.size + 1) (by omega)).trans HCw7.out)
  clear hbw8
  obtain ⟨d0, d1, d2⟩ := row3_cells HDw8.out
  obtain ⟨c0, c1⟩ := row2_cells HCw8.out
  go_wp2_with fail
  refine (SP.out _ (HR.out.below HBw8.out)).mono ?_
  rintro e w9 ⟨rfl, hbw9⟩
  have HBw9 := Lib.hid (HBw8.out.trans (hbw9.mono HBw8.out.size))
  have sw9 := hbw9.size
  have HDw9 := Lib.hid ((hbw9.block w.heap.size (by omega)).trans HDw8.out)
  have HCw9 := Lib.hid ((hbw9.block (w.heap.size + 1) (by omega)).trans HCw8.out)
  clear hbw9
  clear d0 d1 d2 c0 c1
  go_wp2_with fail
  refine (awake_any _ (HR.out.below HBw9.out)).mono ?_
  rintro e w10 ⟨rfl, hbw10⟩
  have HBw10 := Lib.hid (HBw9.out.trans (hbw10.mono HBw9.out.size))
  clear hbw10
  go_wp2_with fail
  go_ret
  exact ⟨rfl, HBw10.out⟩
set_option maxRecDepth 100000 in
set_option maxHeartbeats 4000000 in
theorem walk_no_no_ok_ok (t y m d s k a b c r1 n y' m' d' r : Int) (T : List UInt8) (w : World) (h : Reads w)
    (hA : SpI t a b c r1 10)
    (hJ : JIs y m d s n 0) (hB : SpI n y' m' d' r 10)
    (hT : TIs s T 0) (hS : SIs T s)
    (Q : List UInt8) (hP : Prt s k Q 0) (hQ : PIs Q s k 0)
    : Calls Tryd.prog 4 #[.int .i64 t, .agg #[.int .i64 y, .int .i64 m, .int .i64 d], .agg #[.int .i64 s, .int .i64 k]] w (One w) := by
  skip
  skip
  have SS := Lib.hid hS
  clear hS
  have SQ := Lib.hid hQ
  clear hQ
  have HR := Lib.hid h
  have HBw := Lib.hid (Below.refl w.heap.size w)
  have SA := Lib.hid hA
  have SJ := Lib.hid hJ
  have SB := Lib.hid hB
  have ST := Lib.hid hT
  have SP := Lib.hid hP
  clear h hA hJ hB hT hP
  go_enter Tryd.func4, Tryd.ntmps4
  go_upto_region 1 with fail
  generalize hX : w.alloc (.cells #[.int .i64 y, .int .i64 m, .int .i64 d] 23) = v0
  have sv0 : v0.heap.size = w.heap.size + 1 := by rw [← hX]; simp
  have bv0 : Below w.heap.size w v0 := by rw [← hX]; exact (Below.refl _ _).alloc (Nat.le_refl _) _
  have HYv0 := Lib.hid (show v0.heap[w.heap.size]? = some (.cells #[.int .i64 y, .int .i64 m, .int .i64 d] 23 (0, 0)) by rw [← hX]; exact heap_alloc_new w _)
  have HBv0 := Lib.hid (HBw.out.trans (bv0.mono HBw.out.size))
  clear hX
  generalize hX : v0.alloc (.cells #[.int .i64 s, .int .i64 k] 39) = v1
  have sv1 : v1.heap.size = v0.heap.size + 1 := by rw [← hX]; simp
  have bv1 : Below v0.heap.size v0 v1 := by rw [← hX]; exact (Below.refl _ _).alloc (Nat.le_refl _) _
  have HYv1 := Lib.hid (show v1.heap[v0.heap.size]? = some (.cells #[.int .i64 s, .int .i64 k] 39 (0, 0)) by rw [← hX]; exact heap_alloc_new v0 _)
  have HBv1 := Lib.hid (HBv0.out.trans (bv1.mono HBv0.out.size))
  clear hX
  have HDv1 := Lib.hid ((bv1.block w.heap.size (by omega)).trans HYv0.out)
  have HCv1 := HYv1
  rw [sv0] at HCv1
  clear bv1 bv0
  go_wp2_with fail
  refine (SA.out _ (HR.out.below HBv1.out).a).mono ?_
  rintro e w1 ⟨rfl, hbw1⟩
  have HBw1 := Lib.hid (HBv1.out.trans (hbw1.mono HBv1.out.size))
  have sw1 := hbw1.size
  have HDw1 := Lib.hid ((hbw1.block w.heap.size (by omega)).trans HDv1.out)
  have HCw1 := Lib.hid ((hbw1.block (w.heap.size + 1) (by omega)).trans HCv1.out)
  clear hbw1
  go_upto_region 2 with fail
  generalize hX : w1.alloc (.cells #[.int .i64 a, .int .i64 b, .int .i64 c] 23) = v2
  have sv2 : v2.heap.size = w1.heap.size + 1 := by rw [← hX]; simp
  have bv2 : Below w1.heap.size w1 v2 := by rw [← hX]; exact (Below.refl _ _).alloc (Nat.le_refl _) _
  have HYv2 := Lib.hid (show v2.heap[w1.heap.size]? = some (.cells #[.int .i64 a, .int .i64 b, .int .i64 c] 23 (0, 0)) by rw [← hX]; exact heap_alloc_new w1 _)
  have HBv2 := Lib.hid (HBw1.out.trans (bv2.mono HBw1.out.size))
  clear hX
  have HDv2 := Lib.hid ((bv2.block w.heap.size (by omega)).trans HDw1.out)
  have HCv2 := Lib.hid ((bv2.block (w.heap.size + 1) (by omega)).trans HCw1.out)
  clear bv2
  obtain ⟨d0, d1, d2⟩ := row3_cells HDv2.out
  obtain ⟨c0, c1⟩ := row2_cells HCv2.out
  go_wp2_with fail
  refine (SJ.out _ (HR.out.below HBv2.out).a).mono ?_
  rintro e w3 ⟨rfl, hbw3⟩
  have HBw3 := Lib.hid (HBv2.out.trans (hbw3.mono HBv2.out.size))
  have sw3 := hbw3.size
  have HDw3 := Lib.hid ((hbw3.block w.heap.size (by omega)).trans HDv2.out)
  have HCw3 := Lib.hid ((hbw3.block (w.heap.size + 1) (by omega)).trans HCv2.out)
  clear hbw3
  clear d0 d1 d2 c0 c1
  go_wp2_with fail
  refine (SB.out _ (HR.out.below HBw3.out).a).mono ?_
  rintro e w4 ⟨rfl, hbw4⟩
  have HBw4 := Lib.hid (HBw3.out.trans (hbw4.mono HBw3.out.size))
  have sw4 := hbw4.size
  have HDw4 := Lib.hid ((hbw4.block w.heap.size (by omega)).trans HDw3.out)
  have HCw4 := Lib.hid ((hbw4.block (w.heap.size + 1) (by omega)).trans HCw3.out)
  clear hbw4
  go_upto_region 8 with fail
  generalize hX : w4.alloc (.cells #[.int .i64 y', .int .i64 m', .int .i64 d'] 23) = uno
  have suno : uno.heap.size = w4.heap.size + 1 := by rw [← hX]; simp
  have buno : Below w4.heap.size w4 uno := by rw [← hX]; exact (Below.refl _ _).alloc (Nat.le_refl _) _
  have HYuno := Lib.hid (show uno.heap[w4.heap.size]? = some (.cells #[.int .i64 y', .int .i64 m', .int .i64 d'] 23 (0, 0)) by rw [← hX]; exact heap_alloc_new w4 _)
  have HBuno := Lib.hid (HBw4.out.trans (buno.mono HBw4.out.size))
  clear hX
  have HDuno := Lib.hid ((buno.block w.heap.size (by omega)).trans HDw4.out)
  have HCuno := Lib.hid ((buno.block (w.heap.size + 1) (by omega)).trans HCw4.out)
  clear buno
  obtain ⟨d0, d1, d2⟩ := row3_cells HDuno.out
  obtain ⟨c0, c1⟩ := row2_cells HCuno.out
  go_wp2_with fail
  refine (ST.out _ (HR.out.below HBuno.out)).mono ?_
  rintro e w7 ⟨rfl, hbw7⟩
  have HBw7 := Lib.hid (HBuno.out.trans (hbw7.mono HBuno.out.size))
  have sw7 := hbw7.size
  have HDw7 := Lib.hid ((hbw7.block w.heap.size (by omega)).trans HDuno.out)
  have HCw7 := Lib.hid ((hbw7.block (w.heap.size + 1) (by omega)).trans HCuno.out)
  clear hbw7
  clear d0 d1 d2 c0 c1
  go_wp2_with fail
  refine (SS.out _ (HR.out.below HBw7.out)).mono ?_
  rintro e w8 ⟨rfl, hbw8⟩
  have HBw8 := Lib.hid (HBw7.out.trans (hbw8.mono HBw7.out.size))
  have sw8 := hbw8.size
  have HDw8 := Lib.hid ((hbw8.block w.heap.size (by omega)).trans HDw7.out)
  have HCw8 := Lib.hid ((hbw8.block (w.heap.size + 1) (by omega)).trans HCw7.out)
  clear hbw8
  obtain ⟨d0, d1, d2⟩ := row3_cells HDw8.out
  obtain ⟨c0, c1⟩ := row2_cells HCw8.out
  go_wp2_with fail
  refine (SP.out _ (HR.out.below HBw8.out)).mono ?_
  rintro e w9 ⟨rfl, hbw9⟩
  have HBw9 := Lib.hid (HBw8.out.trans (hbw9.mono HBw8.out.size))
  have sw9 := hbw9.size
  have HDw9 := Lib.hid ((hbw9.block w.heap.size (by omega)).trans HDw8.out)
  have HCw9 := Lib.hid ((hbw9.block (w.heap.size + 1) (by omega)).trans HCw8.out)
  clear hbw9
  clear d0 d1 d2 c0 c1
  go_wp2_with fail
  refine (SQ.out _ (HR.out.below HBw9.out)).mono ?_
  rintro e w10 ⟨rfl, hbw10⟩
  have HBw10 := Lib.hid (HBw9.out.trans (hbw10.mono HBw9.out.size))
  have sw10 := hbw10.size
  have HDw10 := Lib.hid ((hbw10.block w.heap.size (by omega)).trans HDw9.out)
  have HCw10 := Lib.hid ((hbw10.block (w.heap.size + 1) (by omega)).trans HCw9.out)
  clear hbw10
  go_upto_region 22 with fail
  generalize hX : w10.alloc (.cells #[.int .i64 s, .int .i64 k] 39) = v10
  have sv10 : v10.heap.size = w10.heap.size + 1 := by rw [← hX]; simp
  have bv10 : Below w10.heap.size w10 v10 := by rw [← hX]; exact (Below.refl _ _).alloc (Nat.le_refl _) _
  have HYv10 := Lib.hid (show v10.heap[w10.heap.size]? = some (.cells #[.int .i64 s, .int .i64 k] 39 (0, 0)) by rw [← hX]; exact heap_alloc_new w10 _)
  have HBv10 := Lib.hid (HBw10.out.trans (bv10.mono HBw10.out.size))
  clear hX
  have HDv10 := Lib.hid ((bv10.block w.heap.size (by omega)).trans HDw10.out)
  have HCv10 := Lib.hid ((bv10.block (w.heap.size + 1) (by omega)).trans HCw10.out)
  clear bv10
  obtain ⟨c0, c1⟩ := row2_cells HCv10.out
  obtain ⟨x0, x1⟩ := row2_cells HYv10.out
  go_wp2_with fail
  refine (awake_any _ (HR.out.below HBv10.out)).mono ?_
  rintro e w11 ⟨rfl, hbw11⟩
  have HBw11 := Lib.hid (HBv10.out.trans (hbw11.mono HBv10.out.size))
  clear hbw11 c0 c1 x0 x1
  go_wp2_with fail
  go_ret
  exact ⟨rfl, HBw11.out⟩
set_option maxRecDepth 100000 in
set_option maxHeartbeats 4000000 in
theorem walk_no_no_ok_no (t y m d s k a b c r1 n y' m' d' r : Int) (T : List UInt8) (w : World) (h : Reads w)
    (hA : SpI t a b c r1 10)
    (hJ : JIs y m d s n 0) (hB : SpI n y' m' d' r 10)
    (hT : TIs s T 0) (hS : SIs T s)
    (hP : Prt s k [] 10)
    : Calls Tryd.prog 4 #[.int .i64 t, .agg #[.int .i64 y, .int .i64 m, .int .i64 d], .agg #[.int .i64 s, .int .i64 k]] w (One w) := by
  skip
  skip
  have SS := Lib.hid hS
  clear hS
  skip
  have HR := Lib.hid h
  have HBw := Lib.hid (Below.refl w.heap.size w)
  have SA := Lib.hid hA
  have SJ := Lib.hid hJ
  have SB := Lib.hid hB
  have ST := Lib.hid hT
  have SP := Lib.hid hP
  clear h hA hJ hB hT hP
  go_enter Tryd.func4, Tryd.ntmps4
  go_upto_region 1 with fail
  generalize hX : w.alloc (.cells #[.int .i64 y, .int .i64 m, .int .i64 d] 23) = v0
  have sv0 : v0.heap.size = w.heap.size + 1 := by rw [← hX]; simp
  have bv0 : Below w.heap.size w v0 := by rw [← hX]; exact (Below.refl _ _).alloc (Nat.le_refl _) _
  have HYv0 := Lib.hid (show v0.heap[w.heap.size]? = some (.cells #[.int .i64 y, .int .i64 m, .int .i64 d] 23 (0, 0)) by rw [← hX]; exact heap_alloc_new w _)
  have HBv0 := Lib.hid (HBw.out.trans (bv0.mono HBw.out.size))
  clear hX
  generalize hX : v0.alloc (.cells #[.int .i64 s, .int .i64 k] 39) = v1
  have sv1 : v1.heap.size = v0.heap.size + 1 := by rw [← hX]; simp
  have bv1 : Below v0.heap.size v0 v1 := by rw [← hX]; exact (Below.refl _ _).alloc (Nat.le_refl _) _
  have HYv1 := Lib.hid (show v1.heap[v0.heap.size]? = some (.cells #[.int .i64 s, .int .i64 k] 39 (0, 0)) by rw [← hX]; exact heap_alloc_new v0 _)
  have HBv1 := Lib.hid (HBv0.out.trans (bv1.mono HBv0.out.size))
  clear hX
  have HDv1 := Lib.hid ((bv1.block w.heap.size (by omega)).trans HYv0.out)
  have HCv1 := HYv1
  rw [sv0] at HCv1
  clear bv1 bv0
  go_wp2_with fail
  refine (SA.out _ (HR.out.below HBv1.out).a).mono ?_
  rintro e w1 ⟨rfl, hbw1⟩
  have HBw1 := Lib.hid (HBv1.out.trans (hbw1.mono HBv1.out.size))
  have sw1 := hbw1.size
  have HDw1 := Lib.hid ((hbw1.block w.heap.size (by omega)).trans HDv1.out)
  have HCw1 := Lib.hid ((hbw1.block (w.heap.size + 1) (by omega)).trans HCv1.out)
  clear hbw1
  go_upto_region 2 with fail
  generalize hX : w1.alloc (.cells #[.int .i64 a, .int .i64 b, .int .i64 c] 23) = v2
  have sv2 : v2.heap.size = w1.heap.size + 1 := by rw [← hX]; simp
  have bv2 : Below w1.heap.size w1 v2 := by rw [← hX]; exact (Below.refl _ _).alloc (Nat.le_refl _) _
  have HYv2 := Lib.hid (show v2.heap[w1.heap.size]? = some (.cells #[.int .i64 a, .int .i64 b, .int .i64 c] 23 (0, 0)) by rw [← hX]; exact heap_alloc_new w1 _)
  have HBv2 := Lib.hid (HBw1.out.trans (bv2.mono HBw1.out.size))
  clear hX
  have HDv2 := Lib.hid ((bv2.block w.heap.size (by omega)).trans HDw1.out)
  have HCv2 := Lib.hid ((bv2.block (w.heap.size + 1) (by omega)).trans HCw1.out)
  clear bv2
  obtain ⟨d0, d1, d2⟩ := row3_cells HDv2.out
  obtain ⟨c0, c1⟩ := row2_cells HCv2.out
  go_wp2_with fail
  refine (SJ.out _ (HR.out.below HBv2.out).a).mono ?_
  rintro e w3 ⟨rfl, hbw3⟩
  have HBw3 := Lib.hid (HBv2.out.trans (hbw3.mono HBv2.out.size))
  have sw3 := hbw3.size
  have HDw3 := Lib.hid ((hbw3.block w.heap.size (by omega)).trans HDv2.out)
  have HCw3 := Lib.hid ((hbw3.block (w.heap.size + 1) (by omega)).trans HCv2.out)
  clear hbw3
  clear d0 d1 d2 c0 c1
  go_wp2_with fail
  refine (SB.out _ (HR.out.below HBw3.out).a).mono ?_
  rintro e w4 ⟨rfl, hbw4⟩
  have HBw4 := Lib.hid (HBw3.out.trans (hbw4.mono HBw3.out.size))
  have sw4 := hbw4.size
  have HDw4 := Lib.hid ((hbw4.block w.heap.size (by omega)).trans HDw3.out)
  have HCw4 := Lib.hid ((hbw4.block (w.heap.size + 1) (by omega)).trans HCw3.out)
  clear hbw4
  go_upto_region 8 with fail
  generalize hX : w4.alloc (.cells #[.int .i64 y', .int .i64 m', .int .i64 d'] 23) = uno
  have suno : uno.heap.size = w4.heap.size + 1 := by rw [← hX]; simp
  have buno : Below w4.heap.size w4 uno := by rw [← hX]; exact (Below.refl _ _).alloc (Nat.le_refl _) _
  have HYuno := Lib.hid (show uno.heap[w4.heap.size]? = some (.cells #[.int .i64 y', .int .i64 m', .int .i64 d'] 23 (0, 0)) by rw [← hX]; exact heap_alloc_new w4 _)
  have HBuno := Lib.hid (HBw4.out.trans (buno.mono HBw4.out.size))
  clear hX
  have HDuno := Lib.hid ((buno.block w.heap.size (by omega)).trans HDw4.out)
  have HCuno := Lib.hid ((buno.block (w.heap.size + 1) (by omega)).trans HCw4.out)
  clear buno
  obtain ⟨d0, d1, d2⟩ := row3_cells HDuno.out
  obtain ⟨c0, c1⟩ := row2_cells HCuno.out
  go_wp2_with fail
  refine (ST.out _ (HR.out.below HBuno.out)).mono ?_
  rintro e w7 ⟨rfl, hbw7⟩
  have HBw7 := Lib.hid (HBuno.out.trans (hbw7.mono HBuno.out.size))
  have sw7 := hbw7.size
  have HDw7 := Lib.hid ((hbw7.block w.heap.size (by omega)).trans HDuno.out)
  have HCw7 := Lib.hid ((hbw7.block (w.heap.size + 1) (by omega)).trans HCuno.out)
  clear hbw7
  clear d0 d1 d2 c0 c1
  go_wp2_with fail
  refine (SS.out _ (HR.out.below HBw7.out)).mono ?_
  rintro e w8 ⟨rfl, hbw8⟩
  have HBw8 := Lib.hid (HBw7.out.trans (hbw8.mono HBw7.out.size))
  have sw8 := hbw8.size
  have HDw8 := Lib.hid ((hbw8.block w.heap.size (by omega)).trans HDw7.out)
  have HCw8 := Lib.hid ((hbw8.block (w.heap.size + 1) (by omega)).trans HCw7.out)
  clear hbw8
  obtain ⟨d0, d1, d2⟩ := row3_cells HDw8.out
  obtain ⟨c0, c1⟩ := row2_cells HCw8.out
  go_wp2_with fail
  refine (SP.out _ (HR.out.below HBw8.out)).mono ?_
  rintro e w9 ⟨rfl, hbw9⟩
  have HBw9 := Lib.hid (HBw8.out.trans (hbw9.mono HBw8.out.size))
  have sw9 := hbw9.size
  have HDw9 := Lib.hid ((hbw9.block w.heap.size (by omega)).trans HDw8.out)
  have HCw9 := Lib.hid ((hbw9.block (w.heap.size + 1) (by omega)).trans HCw8.out)
  clear hbw9
  clear d0 d1 d2 c0 c1
  go_wp2_with fail
  refine (awake_any _ (HR.out.below HBw9.out)).mono ?_
  rintro e w10 ⟨rfl, hbw10⟩
  have HBw10 := Lib.hid (HBw9.out.trans (hbw10.mono HBw9.out.size))
  clear hbw10
  go_wp2_with fail
  go_ret
  exact ⟨rfl, HBw10.out⟩
set_option maxRecDepth 100000 in
set_option maxHeartbeats 4000000 in
theorem walk_no_nj_ok_ok (t y m d s k a b c r1 n y' m' d' r : Int) (T : List UInt8) (w : World) (h : Reads w)
    (hA : SpI t a b c r1 10)
    (g : Int) (hJ : JIs y m d s n 10) (hB : SpI n y' m' d' r g)
    (hT : TIs s T 0) (hS : SIs T s)
    (Q : List UInt8) (hP : Prt s k Q 0) (hQ : PIs Q s k 0)
    : Calls Tryd.prog 4 #[.int .i64 t, .agg #[.int .i64 y, .int .i64 m, .int .i64 d], .agg #[.int .i64 s, .int .i64 k]] w (One w) := by
  skip
  skip
  have SS := Lib.hid hS
  clear hS
  have SQ := Lib.hid hQ
  clear hQ
  have HR := Lib.hid h
  have HBw := Lib.hid (Below.refl w.heap.size w)
  have SA := Lib.hid hA
  have SJ := Lib.hid hJ
  have SB := Lib.hid hB
  have ST := Lib.hid hT
  have SP := Lib.hid hP
  clear h hA hJ hB hT hP
  go_enter Tryd.func4, Tryd.ntmps4
  go_upto_region 1 with fail
  generalize hX : w.alloc (.cells #[.int .i64 y, .int .i64 m, .int .i64 d] 23) = v0
  have sv0 : v0.heap.size = w.heap.size + 1 := by rw [← hX]; simp
  have bv0 : Below w.heap.size w v0 := by rw [← hX]; exact (Below.refl _ _).alloc (Nat.le_refl _) _
  have HYv0 := Lib.hid (show v0.heap[w.heap.size]? = some (.cells #[.int .i64 y, .int .i64 m, .int .i64 d] 23 (0, 0)) by rw [← hX]; exact heap_alloc_new w _)
  have HBv0 := Lib.hid (HBw.out.trans (bv0.mono HBw.out.size))
  clear hX
  generalize hX : v0.alloc (.cells #[.int .i64 s, .int .i64 k] 39) = v1
  have sv1 : v1.heap.size = v0.heap.size + 1 := by rw [← hX]; simp
  have bv1 : Below v0.heap.size v0 v1 := by rw [← hX]; exact (Below.refl _ _).alloc (Nat.le_refl _) _
  have HYv1 := Lib.hid (show v1.heap[v0.heap.size]? = some (.cells #[.int .i64 s, .int .i64 k] 39 (0, 0)) by rw [← hX]; exact heap_alloc_new v0 _)
  have HBv1 := Lib.hid (HBv0.out.trans (bv1.mono HBv0.out.size))
  clear hX
  have HDv1 := Lib.hid ((bv1.block w.heap.size (by omega)).trans HYv0.out)
  have HCv1 := HYv1
  rw [sv0] at HCv1
  clear bv1 bv0
  go_wp2_with fail
  refine (SA.out _ (HR.out.below HBv1.out).a).mono ?_
  rintro e w1 ⟨rfl, hbw1⟩
  have HBw1 := Lib.hid (HBv1.out.trans (hbw1.mono HBv1.out.size))
  have sw1 := hbw1.size
  have HDw1 := Lib.hid ((hbw1.block w.heap.size (by omega)).trans HDv1.out)
  have HCw1 := Lib.hid ((hbw1.block (w.heap.size + 1) (by omega)).trans HCv1.out)
  clear hbw1
  go_upto_region 2 with fail
  generalize hX : w1.alloc (.cells #[.int .i64 a, .int .i64 b, .int .i64 c] 23) = v2
  have sv2 : v2.heap.size = w1.heap.size + 1 := by rw [← hX]; simp
  have bv2 : Below w1.heap.size w1 v2 := by rw [← hX]; exact (Below.refl _ _).alloc (Nat.le_refl _) _
  have HYv2 := Lib.hid (show v2.heap[w1.heap.size]? = some (.cells #[.int .i64 a, .int .i64 b, .int .i64 c] 23 (0, 0)) by rw [← hX]; exact heap_alloc_new w1 _)
  have HBv2 := Lib.hid (HBw1.out.trans (bv2.mono HBw1.out.size))
  clear hX
  have HDv2 := Lib.hid ((bv2.block w.heap.size (by omega)).trans HDw1.out)
  have HCv2 := Lib.hid ((bv2.block (w.heap.size + 1) (by omega)).trans HCw1.out)
  clear bv2
  obtain ⟨d0, d1, d2⟩ := row3_cells HDv2.out
  obtain ⟨c0, c1⟩ := row2_cells HCv2.out
  go_wp2_with fail
  refine (SJ.out _ (HR.out.below HBv2.out).a).mono ?_
  rintro e w3 ⟨rfl, hbw3⟩
  have HBw3 := Lib.hid (HBv2.out.trans (hbw3.mono HBv2.out.size))
  have sw3 := hbw3.size
  have HDw3 := Lib.hid ((hbw3.block w.heap.size (by omega)).trans HDv2.out)
  have HCw3 := Lib.hid ((hbw3.block (w.heap.size + 1) (by omega)).trans HCv2.out)
  clear hbw3
  clear d0 d1 d2 c0 c1
  go_wp2_with fail
  refine (SB.out _ (HR.out.below HBw3.out).a).mono ?_
  rintro e w4 ⟨rfl, hbw4⟩
  have HBw4 := Lib.hid (HBw3.out.trans (hbw4.mono HBw3.out.size))
  have sw4 := hbw4.size
  have HDw4 := Lib.hid ((hbw4.block w.heap.size (by omega)).trans HDw3.out)
  have HCw4 := Lib.hid ((hbw4.block (w.heap.size + 1) (by omega)).trans HCw3.out)
  clear hbw4
  go_upto_region 8 with fail
  generalize hX : w4.alloc (.cells #[.int .i64 y', .int .i64 m', .int .i64 d'] 23) = uno
  have suno : uno.heap.size = w4.heap.size + 1 := by rw [← hX]; simp
  have buno : Below w4.heap.size w4 uno := by rw [← hX]; exact (Below.refl _ _).alloc (Nat.le_refl _) _
  have HYuno := Lib.hid (show uno.heap[w4.heap.size]? = some (.cells #[.int .i64 y', .int .i64 m', .int .i64 d'] 23 (0, 0)) by rw [← hX]; exact heap_alloc_new w4 _)
  have HBuno := Lib.hid (HBw4.out.trans (buno.mono HBw4.out.size))
  clear hX
  have HDuno := Lib.hid ((buno.block w.heap.size (by omega)).trans HDw4.out)
  have HCuno := Lib.hid ((buno.block (w.heap.size + 1) (by omega)).trans HCw4.out)
  clear buno
  obtain ⟨d0, d1, d2⟩ := row3_cells HDuno.out
  obtain ⟨c0, c1⟩ := row2_cells HCuno.out
  go_wp2_with fail
  have HDunj := HDuno
  have HCunj := HCuno
  have HBunj := HBuno
  refine (ST.out _ (HR.out.below HBunj.out)).mono ?_
  rintro e w7 ⟨rfl, hbw7⟩
  have HBw7 := Lib.hid (HBunj.out.trans (hbw7.mono HBunj.out.size))
  have sw7 := hbw7.size
  have HDw7 := Lib.hid ((hbw7.block w.heap.size (by omega)).trans HDunj.out)
  have HCw7 := Lib.hid ((hbw7.block (w.heap.size + 1) (by omega)).trans HCunj.out)
  clear hbw7
  clear d0 d1 d2 c0 c1
  go_wp2_with fail
  refine (SS.out _ (HR.out.below HBw7.out)).mono ?_
  rintro e w8 ⟨rfl, hbw8⟩
  have HBw8 := Lib.hid (HBw7.out.trans (hbw8.mono HBw7.out.size))
  have sw8 := hbw8.size
  have HDw8 := Lib.hid ((hbw8.block w.heap.size (by omega)).trans HDw7.out)
  have HCw8 := Lib.hid ((hbw8.block (w.heap.size + 1) (by omega)).trans HCw7.out)
  clear hbw8
  obtain ⟨d0, d1, d2⟩ := row3_cells HDw8.out
  obtain ⟨c0, c1⟩ := row2_cells HCw8.out
  go_wp2_with fail
  refine (SP.out _ (HR.out.below HBw8.out)).mono ?_
  rintro e w9 ⟨rfl, hbw9⟩
  have HBw9 := Lib.hid (HBw8.out.trans (hbw9.mono HBw8.out.size))
  have sw9 := hbw9.size
  have HDw9 := Lib.hid ((hbw9.block w.heap.size (by omega)).trans HDw8.out)
  have HCw9 := Lib.hid ((hbw9.block (w.heap.size + 1) (by omega)).trans HCw8.out)
  clear hbw9
  clear d0 d1 d2 c0 c1
  go_wp2_with fail
  refine (SQ.out _ (HR.out.below HBw9.out)).mono ?_
  rintro e w10 ⟨rfl, hbw10⟩
  have HBw10 := Lib.hid (HBw9.out.trans (hbw10.mono HBw9.out.size))
  have sw10 := hbw10.size
  have HDw10 := Lib.hid ((hbw10.block w.heap.size (by omega)).trans HDw9.out)
  have HCw10 := Lib.hid ((hbw10.block (w.heap.size + 1) (by omega)).trans HCw9.out)
  clear hbw10
  go_upto_region 22 with fail
  generalize hX : w10.alloc (.cells #[.int .i64 s, .int .i64 k] 39) = v10
  have sv10 : v10.heap.size = w10.heap.size + 1 := by rw [← hX]; simp
  have bv10 : Below w10.heap.size w10 v10 := by rw [← hX]; exact (Below.refl _ _).alloc (Nat.le_refl _) _
  have HYv10 := Lib.hid (show v10.heap[w10.heap.size]? = some (.cells #[.int .i64 s, .int .i64 k] 39 (0, 0)) by rw [← hX]; exact heap_alloc_new w10 _)
  have HBv10 := Lib.hid (HBw10.out.trans (bv10.mono HBw10.out.size))
  clear hX
  have HDv10 := Lib.hid ((bv10.block w.heap.size (by omega)).trans HDw10.out)
  have HCv10 := Lib.hid ((bv10.block (w.heap.size + 1) (by omega)).trans HCw10.out)
  clear bv10
  obtain ⟨c0, c1⟩ := row2_cells HCv10.out
  obtain ⟨x0, x1⟩ := row2_cells HYv10.out
  go_wp2_with fail
  refine (awake_any _ (HR.out.below HBv10.out)).mono ?_
  rintro e w11 ⟨rfl, hbw11⟩
  have HBw11 := Lib.hid (HBv10.out.trans (hbw11.mono HBv10.out.size))
  clear hbw11 c0 c1 x0 x1
  go_wp2_with fail
  go_ret
  exact ⟨rfl, HBw11.out⟩
set_option maxRecDepth 100000 in
set_option maxHeartbeats 4000000 in
theorem walk_no_nj_ok_no (t y m d s k a b c r1 n y' m' d' r : Int) (T : List UInt8) (w : World) (h : Reads w)
    (hA : SpI t a b c r1 10)
    (g : Int) (hJ : JIs y m d s n 10) (hB : SpI n y' m' d' r g)
    (hT : TIs s T 0) (hS : SIs T s)
    (hP : Prt s k [] 10)
    : Calls Tryd.prog 4 #[.int .i64 t, .agg #[.int .i64 y, .int .i64 m, .int .i64 d], .agg #[.int .i64 s, .int .i64 k]] w (One w) := by
  skip
  skip
  have SS := Lib.hid hS
  clear hS
  skip
  have HR := Lib.hid h
  have HBw := Lib.hid (Below.refl w.heap.size w)
  have SA := Lib.hid hA
  have SJ := Lib.hid hJ
  have SB := Lib.hid hB
  have ST := Lib.hid hT
  have SP := Lib.hid hP
  clear h hA hJ hB hT hP
  go_enter Tryd.func4, Tryd.ntmps4
  go_upto_region 1 with fail
  generalize hX : w.alloc (.cells #[.int .i64 y, .int .i64 m, .int .i64 d] 23) = v0
  have sv0 : v0.heap.size = w.heap.size + 1 := by rw [← hX]; simp
  have bv0 : Below w.heap.size w v0 := by rw [← hX]; exact (Below.refl _ _).alloc (Nat.le_refl _) _
  have HYv0 := Lib.hid (show v0.heap[w.heap.size]? = some (.cells #[.int .i64 y, .int .i64 m, .int .i64 d] 23 (0, 0)) by rw [← hX]; exact heap_alloc_new w _)
  have HBv0 := Lib.hid (HBw.out.trans (bv0.mono HBw.out.size))
  clear hX
  generalize hX : v0.alloc (.cells #[.int .i64 s, .int .i64 k] 39) = v1
  have sv1 : v1.heap.size = v0.heap.size + 1 := by rw [← hX]; simp
  have bv1 : Below v0.heap.size v0 v1 := by rw [← hX]; exact (Below.refl _ _).alloc (Nat.le_refl _) _
  have HYv1 := Lib.hid (show v1.heap[v0.heap.size]? = some (.cells #[.int .i64 s, .int .i64 k] 39 (0, 0)) by rw [← hX]; exact heap_alloc_new v0 _)
  have HBv1 := Lib.hid (HBv0.out.trans (bv1.mono HBv0.out.size))
  clear hX
  have HDv1 := Lib.hid ((bv1.block w.heap.size (by omega)).trans HYv0.out)
  have HCv1 := HYv1
  rw [sv0] at HCv1
  clear bv1 bv0
  go_wp2_with fail
  refine (SA.out _ (HR.out.below HBv1.out).a).mono ?_
  rintro e w1 ⟨rfl, hbw1⟩
  have HBw1 := Lib.hid (HBv1.out.trans (hbw1.mono HBv1.out.size))
  have sw1 := hbw1.size
  have HDw1 := Lib.hid ((hbw1.block w.heap.size (by omega)).trans HDv1.out)
  have HCw1 := Lib.hid ((hbw1.block (w.heap.size + 1) (by omega)).trans HCv1.out)
  clear hbw1
  go_upto_region 2 with fail
  generalize hX : w1.alloc (.cells #[.int .i64 a, .int .i64 b, .int .i64 c] 23) = v2
  have sv2 : v2.heap.size = w1.heap.size + 1 := by rw [← hX]; simp
  have bv2 : Below w1.heap.size w1 v2 := by rw [← hX]; exact (Below.refl _ _).alloc (Nat.le_refl _) _
  have HYv2 := Lib.hid (show v2.heap[w1.heap.size]? = some (.cells #[.int .i64 a, .int .i64 b, .int .i64 c] 23 (0, 0)) by rw [← hX]; exact heap_alloc_new w1 _)
  have HBv2 := Lib.hid (HBw1.out.trans (bv2.mono HBw1.out.size))
  clear hX
  have HDv2 := Lib.hid ((bv2.block w.heap.size (by omega)).trans HDw1.out)
  have HCv2 := Lib.hid ((bv2.block (w.heap.size + 1) (by omega)).trans HCw1.out)
  clear bv2
  obtain ⟨d0, d1, d2⟩ := row3_cells HDv2.out
  obtain ⟨c0, c1⟩ := row2_cells HCv2.out
  go_wp2_with fail
  refine (SJ.out _ (HR.out.below HBv2.out).a).mono ?_
  rintro e w3 ⟨rfl, hbw3⟩
  have HBw3 := Lib.hid (HBv2.out.trans (hbw3.mono HBv2.out.size))
  have sw3 := hbw3.size
  have HDw3 := Lib.hid ((hbw3.block w.heap.size (by omega)).trans HDv2.out)
  have HCw3 := Lib.hid ((hbw3.block (w.heap.size + 1) (by omega)).trans HCv2.out)
  clear hbw3
  clear d0 d1 d2 c0 c1
  go_wp2_with fail
  refine (SB.out _ (HR.out.below HBw3.out).a).mono ?_
  rintro e w4 ⟨rfl, hbw4⟩
  have HBw4 := Lib.hid (HBw3.out.trans (hbw4.mono HBw3.out.size))
  have sw4 := hbw4.size
  have HDw4 := Lib.hid ((hbw4.block w.heap.size (by omega)).trans HDw3.out)
  have HCw4 := Lib.hid ((hbw4.block (w.heap.size + 1) (by omega)).trans HCw3.out)
  clear hbw4
  go_upto_region 8 with fail
  generalize hX : w4.alloc (.cells #[.int .i64 y', .int .i64 m', .int .i64 d'] 23) = uno
  have suno : uno.heap.size = w4.heap.size + 1 := by rw [← hX]; simp
  have buno : Below w4.heap.size w4 uno := by rw [← hX]; exact (Below.refl _ _).alloc (Nat.le_refl _) _
  have HYuno := Lib.hid (show uno.heap[w4.heap.size]? = some (.cells #[.int .i64 y', .int .i64 m', .int .i64 d'] 23 (0, 0)) by rw [← hX]; exact heap_alloc_new w4 _)
  have HBuno := Lib.hid (HBw4.out.trans (buno.mono HBw4.out.size))
  clear hX
  have HDuno := Lib.hid ((buno.block w.heap.size (by omega)).trans HDw4.out)
  have HCuno := Lib.hid ((buno.block (w.heap.size + 1) (by omega)).trans HCw4.out)
  clear buno
  obtain ⟨d0, d1, d2⟩ := row3_cells HDuno.out
  obtain ⟨c0, c1⟩ := row2_cells HCuno.out
  go_wp2_with fail
  have HDunj := HDuno
  have HCunj := HCuno
  have HBunj := HBuno
  refine (ST.out _ (HR.out.below HBunj.out)).mono ?_
  rintro e w7 ⟨rfl, hbw7⟩
  have HBw7 := Lib.hid (HBunj.out.trans (hbw7.mono HBunj.out.size))
  have sw7 := hbw7.size
  have HDw7 := Lib.hid ((hbw7.block w.heap.size (by omega)).trans HDunj.out)
  have HCw7 := Lib.hid ((hbw7.block (w.heap.size + 1) (by omega)).trans HCunj.out)
  clear hbw7
  clear d0 d1 d2 c0 c1
  go_wp2_with fail
  refine (SS.out _ (HR.out.below HBw7.out)).mono ?_
  rintro e w8 ⟨rfl, hbw8⟩
  have HBw8 := Lib.hid (HBw7.out.trans (hbw8.mono HBw7.out.size))
  have sw8 := hbw8.size
  have HDw8 := Lib.hid ((hbw8.block w.heap.size (by omega)).trans HDw7.out)
  have HCw8 := Lib.hid ((hbw8.block (w.heap.size + 1) (by omega)).trans HCw7.out)
  clear hbw8
  obtain ⟨d0, d1, d2⟩ := row3_cells HDw8.out
  obtain ⟨c0, c1⟩ := row2_cells HCw8.out
  go_wp2_with fail
  refine (SP.out _ (HR.out.below HBw8.out)).mono ?_
  rintro e w9 ⟨rfl, hbw9⟩
  have HBw9 := Lib.hid (HBw8.out.trans (hbw9.mono HBw8.out.size))
  have sw9 := hbw9.size
  have HDw9 := Lib.hid ((hbw9.block w.heap.size (by omega)).trans HDw8.out)
  have HCw9 := Lib.hid ((hbw9.block (w.heap.size + 1) (by omega)).trans HCw8.out)
  clear hbw9
  clear d0 d1 d2 c0 c1
  go_wp2_with fail
  refine (awake_any _ (HR.out.below HBw9.out)).mono ?_
  rintro e w10 ⟨rfl, hbw10⟩
  have HBw10 := Lib.hid (HBw9.out.trans (hbw10.mono HBw9.out.size))
  clear hbw10
  go_wp2_with fail
  go_ret
  exact ⟨rfl, HBw10.out⟩
set_option maxRecDepth 100000 in
set_option maxHeartbeats 4000000 in
theorem walk_no_nj_no_no (t y m d s k a b c r1 n y' m' d' r : Int) (T : List UInt8) (w : World) (h : Reads w)
    (hA : SpI t a b c r1 10)
    (g : Int) (hJ : JIs y m d s n 10) (hB : SpI n y' m' d' r g)
    (hT : TIs s T 10)
    (hP : Prt s k [] 10)
    : Calls Tryd.prog 4 #[.int .i64 t, .agg #[.int .i64 y, .int .i64 m, .int .i64 d], .agg #[.int .i64 s, .int .i64 k]] w (One w) := by
  skip
  skip
  skip
  skip
  have HR := Lib.hid h
  have HBw := Lib.hid (Below.refl w.heap.size w)
  have SA := Lib.hid hA
  have SJ := Lib.hid hJ
  have SB := Lib.hid hB
  have ST := Lib.hid hT
  have SP := Lib.hid hP
  clear h hA hJ hB hT hP
  go_enter Tryd.func4, Tryd.ntmps4
  go_upto_region 1 with fail
  generalize hX : w.alloc (.cells #[.int .i64 y, .int .i64 m, .int .i64 d] 23) = v0
  have sv0 : v0.heap.size = w.heap.size + 1 := by rw [← hX]; simp
  have bv0 : Below w.heap.size w v0 := by rw [← hX]; exact (Below.refl _ _).alloc (Nat.le_refl _) _
  have HYv0 := Lib.hid (show v0.heap[w.heap.size]? = some (.cells #[.int .i64 y, .int .i64 m, .int .i64 d] 23 (0, 0)) by rw [← hX]; exact heap_alloc_new w _)
  have HBv0 := Lib.hid (HBw.out.trans (bv0.mono HBw.out.size))
  clear hX
  generalize hX : v0.alloc (.cells #[.int .i64 s, .int .i64 k] 39) = v1
  have sv1 : v1.heap.size = v0.heap.size + 1 := by rw [← hX]; simp
  have bv1 : Below v0.heap.size v0 v1 := by rw [← hX]; exact (Below.refl _ _).alloc (Nat.le_refl _) _
  have HYv1 := Lib.hid (show v1.heap[v0.heap.size]? = some (.cells #[.int .i64 s, .int .i64 k] 39 (0, 0)) by rw [← hX]; exact heap_alloc_new v0 _)
  have HBv1 := Lib.hid (HBv0.out.trans (bv1.mono HBv0.out.size))
  clear hX
  have HDv1 := Lib.hid ((bv1.block w.heap.size (by omega)).trans HYv0.out)
  have HCv1 := HYv1
  rw [sv0] at HCv1
  clear bv1 bv0
  go_wp2_with fail
  refine (SA.out _ (HR.out.below HBv1.out).a).mono ?_
  rintro e w1 ⟨rfl, hbw1⟩
  have HBw1 := Lib.hid (HBv1.out.trans (hbw1.mono HBv1.out.size))
  have sw1 := hbw1.size
  have HDw1 := Lib.hid ((hbw1.block w.heap.size (by omega)).trans HDv1.out)
  have HCw1 := Lib.hid ((hbw1.block (w.heap.size + 1) (by omega)).trans HCv1.out)
  clear hbw1
  go_upto_region 2 with fail
  generalize hX : w1.alloc (.cells #[.int .i64 a, .int .i64 b, .int .i64 c] 23) = v2
  have sv2 : v2.heap.size = w1.heap.size + 1 := by rw [← hX]; simp
  have bv2 : Below w1.heap.size w1 v2 := by rw [← hX]; exact (Below.refl _ _).alloc (Nat.le_refl _) _
  have HYv2 := Lib.hid (show v2.heap[w1.heap.size]? = some (.cells #[.int .i64 a, .int .i64 b, .int .i64 c] 23 (0, 0)) by rw [← hX]; exact heap_alloc_new w1 _)
  have HBv2 := Lib.hid (HBw1.out.trans (bv2.mono HBw1.out.size))
  clear hX
  have HDv2 := Lib.hid ((bv2.block w.heap.size (by omega)).trans HDw1.out)
  have HCv2 := Lib.hid ((bv2.block (w.heap.size + 1) (by omega)).trans HCw1.out)
  clear bv2
  obtain ⟨d0, d1, d2⟩ := row3_cells HDv2.out
  obtain ⟨c0, c1⟩ := row2_cells HCv2.out
  go_wp2_with fail
  refine (SJ.out _ (HR.out.below HBv2.out).a).mono ?_
  rintro e w3 ⟨rfl, hbw3⟩
  have HBw3 := Lib.hid (HBv2.out.trans (hbw3.mono HBv2.out.size))
  have sw3 := hbw3.size
  have HDw3 := Lib.hid ((hbw3.block w.heap.size (by omega)).trans HDv2.out)
  have HCw3 := Lib.hid ((hbw3.block (w.heap.size + 1) (by omega)).trans HCv2.out)
  clear hbw3
  clear d0 d1 d2 c0 c1
  go_wp2_with fail
  refine (SB.out _ (HR.out.below HBw3.out).a).mono ?_
  rintro e w4 ⟨rfl, hbw4⟩
  have HBw4 := Lib.hid (HBw3.out.trans (hbw4.mono HBw3.out.size))
  have sw4 := hbw4.size
  have HDw4 := Lib.hid ((hbw4.block w.heap.size (by omega)).trans HDw3.out)
  have HCw4 := Lib.hid ((hbw4.block (w.heap.size + 1) (by omega)).trans HCw3.out)
  clear hbw4
  go_upto_region 8 with fail
  generalize hX : w4.alloc (.cells #[.int .i64 y', .int .i64 m', .int .i64 d'] 23) = uno
  have suno : uno.heap.size = w4.heap.size + 1 := by rw [← hX]; simp
  have buno : Below w4.heap.size w4 uno := by rw [← hX]; exact (Below.refl _ _).alloc (Nat.le_refl _) _
  have HYuno := Lib.hid (show uno.heap[w4.heap.size]? = some (.cells #[.int .i64 y', .int .i64 m', .int .i64 d'] 23 (0, 0)) by rw [← hX]; exact heap_alloc_new w4 _)
  have HBuno := Lib.hid (HBw4.out.trans (buno.mono HBw4.out.size))
  clear hX
  have HDuno := Lib.hid ((buno.block w.heap.size (by omega)).trans HDw4.out)
  have HCuno := Lib.hid ((buno.block (w.heap.size + 1) (by omega)).trans HCw4.out)
  clear buno
  obtain ⟨d0, d1, d2⟩ := row3_cells HDuno.out
  obtain ⟨c0, c1⟩ := row2_cells HCuno.out
  go_wp2_with fail
  have HDunj := HDuno
  have HCunj := HCuno
  have HBunj := HBuno
  refine (ST.out _ (HR.out.below HBunj.out)).mono ?_
  rintro e w7 ⟨rfl, hbw7⟩
  have HBw7 := Lib.hid (HBunj.out.trans (hbw7.mono HBunj.out.size))
  have sw7 := hbw7.size
  have HDw7 := Lib.hid ((hbw7.block w.heap.size (by omega)).trans HDunj.out)
  have HCw7 := Lib.hid ((hbw7.block (w.heap.size + 1) (by omega)).trans HCunj.out)
  clear hbw7
  clear d0 d1 d2 c0 c1
  obtain ⟨d0, d1, d2⟩ := row3_cells HDw7.out
  obtain ⟨c0, c1⟩ := row2_cells HCw7.out
  go_wp2_with fail
  refine (SP.out _ (HR.out.below HBw7.out)).mono ?_
  rintro e w9 ⟨rfl, hbw9⟩
  have HBw9 := Lib.hid (HBw7.out.trans (hbw9.mono HBw7.out.size))
  have sw9 := hbw9.size
  have HDw9 := Lib.hid ((hbw9.block w.heap.size (by omega)).trans HDw7.out)
  have HCw9 := Lib.hid ((hbw9.block (w.heap.size + 1) (by omega)).trans HCw7.out)
  clear hbw9
  clear d0 d1 d2 c0 c1
  go_wp2_with fail
  refine (awake_any _ (HR.out.below HBw9.out)).mono ?_
  rintro e w10 ⟨rfl, hbw10⟩
  have HBw10 := Lib.hid (HBw9.out.trans (hbw10.mono HBw9.out.size))
  clear hbw10
  go_wp2_with fail
  go_ret
  exact ⟨rfl, HBw10.out⟩
theorem tmod_day {k : Int} : (86400 * k).tmod 86400 = 0 := by
  rw [Int.mul_tmod_right]
/-- Parse of Print -/
theorem back_print (s k : Int) (h1 : -604800 < s) (h2 : s < 604800) : (∃ Q, Prt s k Q 0 ∧ PIs Q s k 0) ∨ Prt s k [] 10 := by
  have hl := textOf_len h1 h2
  have hs := spI_text h1 h2
  by_cases ha : k < 0
  · exact .inr (print_lo s k h1 h2 ha)
  · by_cases hb : 3 ≤ k
    · exact .inr (print_hi s k h1 h2 hb)
    · refine .inl ?_
      obtain rfl | rfl | rfl : k = 0 ∨ k = 1 ∨ k = 2 := by omega
      · refine ⟨_, print_0 s h1 h2, ?_⟩
        have := pis_any (textOf s) (by omega)
        rwa [psI_span (by rw [hs]), hs] at this
      · refine ⟨_, print_1 s h1 h2, ?_⟩
        have := pis_any (textOf s ++ [115]) (by simp; omega)
        rwa [psI_letter _ _ (by unfold letter; decide), if_pos (by rw [hs]), hs] at this
      · refine ⟨_, print_2 s h1 h2, ?_⟩
        have := pis_any (textOf s ++ [117]) (by simp; omega)
        rwa [psI_letter _ _ (by unfold letter; decide), if_pos (by rw [hs]), hs] at this
theorem fin_ok (t y m d s k a b c r1 : Int) (w : World) (h : Reads w)
    (hA : SpI t a b c r1 0) (hAJ : AOk t a b c r1)
    : Calls Tryd.prog 4 #[.int .i64 t, .agg #[.int .i64 y, .int .i64 m, .int .i64 d], .agg #[.int .i64 s, .int .i64 k]] w (One w) := by
  rcases join_cases y m d s with ⟨hv, s1, s2, hJ⟩ | ⟨hn, hJ⟩
  · have nb := num_bd hv
    have hT : TIs s (textOf s) 0 := fun w h => text_ok s w s1 s2 h.p
    have hS : SIs (textOf s) s := fun w h => by
      have := cspan (textOf s) w (by have := textOf_len s1 s2; omega) h.t
      rwa [spI_text s1 s2] at this
    have hj2 : JIs y m d 0 (num y m d * 86400 + 0) 0 := fun w hA => join_ok y m d 0 w hA hv (by decide) (by decide)
    generalize num y m d = N at *
    have hf : Fits (N * 86400 + s) := by unfold Fits; omega
    by_cases hr : -37243778 ≤ (N * 86400 + s) / 86400 ∧ (N * 86400 + s) / 86400 ≤ 35805087
    · obtain ⟨y', m', d', hv', hn'⟩ := date_ex _ hr
      have nb' := num_bd hv'
      have hB : SpI (N * 86400 + s) y' m' d' ((N * 86400 + s) % 86400) 0 := fun w hA => split_ok y' m' d' _ w hA hv' hf hn'.symm
      have hj1 : JIs y' m' d' 0 (num y' m' d' * 86400 + 0) 0 := fun w hA => join_ok y' m' d' 0 w hA hv' (by decide) (by decide)
      generalize num y' m' d' = N' at *
      have hBB : BOk y m d y' m' d' s ((N * 86400 + s) % 86400) (N' * 86400 + 0) (N * 86400 + 0) := by
        refine ⟨hj1, hj2, by omega, by omega, by omega, by omega, ?_, by omega, by omega, by omega, s1, s2⟩
        rw [show s - (N * 86400 + s) % 86400 = 86400 * (N' - N) by omega]
        exact tmod_day
      rcases back_print s k s1 s2 with ⟨Q, hP, hQ⟩ | hP
      · exact walk_ok_ok_ok_ok t y m d s k a b c r1 _ y' m' d' _ _ w h hA hAJ _ _ hJ hB hBB hT hS Q hP hQ
      · exact walk_ok_ok_ok_no t y m d s k a b c r1 _ y' m' d' _ _ w h hA hAJ _ _ hJ hB hBB hT hS hP
    · have hB : SpI (N * 86400 + s) 0 0 0 0 10 := fun w _ => split_no _ w hf hr
      rcases back_print s k s1 s2 with ⟨Q, hP, hQ⟩ | hP
      · exact walk_ok_no_ok_ok t y m d s k a b c r1 _ 0 0 0 _ _ w h hA hAJ hJ hB hT hS Q hP hQ
      · exact walk_ok_no_ok_no t y m d s k a b c r1 _ 0 0 0 _ _ w h hA hAJ hJ hB hT hS hP
  · obtain ⟨y', m', d', hv', hn'⟩ := date_ex (0 / 86400) (by decide)
    have hB : SpI 0 y' m' d' (0 % 86400) 0 := fun w hA => split_ok y' m' d' _ w hA hv' (by unfold Fits; omega) hn'.symm
    by_cases hs : -604800 < s ∧ s < 604800
    · obtain ⟨s1, s2⟩ := hs
      have hT : TIs s (textOf s) 0 := fun w h => text_ok s w s1 s2 h.p
      have hS : SIs (textOf s) s := fun w h => by
        have := cspan (textOf s) w (by have := textOf_len s1 s2; omega) h.t
        rwa [spI_text s1 s2] at this
      rcases back_print s k s1 s2 with ⟨Q, hP, hQ⟩ | hP
      · exact walk_ok_nj_ok_ok t y m d s k a b c r1 _ y' m' d' _ _ w h hA hAJ 0 hJ hB hT hS Q hP hQ
      · exact walk_ok_nj_ok_no t y m d s k a b c r1 _ y' m' d' _ _ w h hA hAJ 0 hJ hB hT hS hP
    · have hs2 : s ≤ -604800 ∨ 604800 ≤ s := by omega
      exact walk_ok_nj_no_no t y m d s k a b c r1 _ y' m' d' _ [] w h hA hAJ 0 hJ hB (fun w _ => text_no s w hs2) (print_far s k hs2)
theorem fin_no (t y m d s k a b c r1 : Int) (w : World) (h : Reads w)
    (hA : SpI t a b c r1 10)
    : Calls Tryd.prog 4 #[.int .i64 t, .agg #[.int .i64 y, .int .i64 m, .int .i64 d], .agg #[.int .i64 s, .int .i64 k]] w (One w) := by
  rcases join_cases y m d s with ⟨hv, s1, s2, hJ⟩ | ⟨hn, hJ⟩
  · have nb := num_bd hv
    have hT : TIs s (textOf s) 0 := fun w h => text_ok s w s1 s2 h.p
    have hS : SIs (textOf s) s := fun w h => by
      have := cspan (textOf s) w (by have := textOf_len s1 s2; omega) h.t
      rwa [spI_text s1 s2] at this
    have hj2 : JIs y m d 0 (num y m d * 86400 + 0) 0 := fun w hA => join_ok y m d 0 w hA hv (by decide) (by decide)
    generalize num y m d = N at *
    have hf : Fits (N * 86400 + s) := by unfold Fits; omega
    by_cases hr : -37243778 ≤ (N * 86400 + s) / 86400 ∧ (N * 86400 + s) / 86400 ≤ 35805087
    · obtain ⟨y', m', d', hv', hn'⟩ := date_ex _ hr
      have nb' := num_bd hv'
      have hB : SpI (N * 86400 + s) y' m' d' ((N * 86400 + s) % 86400) 0 := fun w hA => split_ok y' m' d' _ w hA hv' hf hn'.symm
      have hj1 : JIs y' m' d' 0 (num y' m' d' * 86400 + 0) 0 := fun w hA => join_ok y' m' d' 0 w hA hv' (by decide) (by decide)
      generalize num y' m' d' = N' at *
      have hBB : BOk y m d y' m' d' s ((N * 86400 + s) % 86400) (N' * 86400 + 0) (N * 86400 + 0) := by
        refine ⟨hj1, hj2, by omega, by omega, by omega, by omega, ?_, by omega, by omega, by omega, s1, s2⟩
        rw [show s - (N * 86400 + s) % 86400 = 86400 * (N' - N) by omega]
        exact tmod_day
      rcases back_print s k s1 s2 with ⟨Q, hP, hQ⟩ | hP
      · exact walk_no_ok_ok_ok t y m d s k a b c r1 _ y' m' d' _ _ w h hA _ _ hJ hB hBB hT hS Q hP hQ
      · exact walk_no_ok_ok_no t y m d s k a b c r1 _ y' m' d' _ _ w h hA _ _ hJ hB hBB hT hS hP
    · have hB : SpI (N * 86400 + s) 0 0 0 0 10 := fun w _ => split_no _ w hf hr
      rcases back_print s k s1 s2 with ⟨Q, hP, hQ⟩ | hP
      · exact walk_no_no_ok_ok t y m d s k a b c r1 _ 0 0 0 _ _ w h hA hJ hB hT hS Q hP hQ
      · exact walk_no_no_ok_no t y m d s k a b c r1 _ 0 0 0 _ _ w h hA hJ hB hT hS hP
  · obtain ⟨y', m', d', hv', hn'⟩ := date_ex (0 / 86400) (by decide)
    have hB : SpI 0 y' m' d' (0 % 86400) 0 := fun w hA => split_ok y' m' d' _ w hA hv' (by unfold Fits; omega) hn'.symm
    by_cases hs : -604800 < s ∧ s < 604800
    · obtain ⟨s1, s2⟩ := hs
      have hT : TIs s (textOf s) 0 := fun w h => text_ok s w s1 s2 h.p
      have hS : SIs (textOf s) s := fun w h => by
        have := cspan (textOf s) w (by have := textOf_len s1 s2; omega) h.t
        rwa [spI_text s1 s2] at this
      rcases back_print s k s1 s2 with ⟨Q, hP, hQ⟩ | hP
      · exact walk_no_nj_ok_ok t y m d s k a b c r1 _ y' m' d' _ _ w h hA 0 hJ hB hT hS Q hP hQ
      · exact walk_no_nj_ok_no t y m d s k a b c r1 _ y' m' d' _ _ w h hA 0 hJ hB hT hS hP
    · have hs2 : s ≤ -604800 ∨ 604800 ≤ s := by omega
      exact walk_no_nj_no_no t y m d s k a b c r1 _ y' m' d' _ [] w h hA 0 hJ hB (fun w _ => text_no s w hs2) (print_far s k hs2)
theorem walk (t y m d s k : Int) (w : World) (h : Reads w) (hf : Fits t) :
    Calls Tryd.prog 4 #[.int .i64 t, .agg #[.int .i64 y, .int .i64 m, .int .i64 d], .agg #[.int .i64 s, .int .i64 k]] w (One w) := by
  by_cases hr : -37243778 ≤ t / 86400 ∧ t / 86400 ≤ 35805087
  · obtain ⟨a, b, c, hv, hn⟩ := date_ex _ hr
    have hA : SpI t a b c (t % 86400) 0 := fun w hA => split_ok a b c t w hA hv hf hn.symm
    have hj : JIs a b c (t % 86400) t 0 := fun w hA => by
      have := join_ok a b c (t % 86400) w hA hv (by omega) (by omega)
      rwa [show num a b c * 86400 + t % 86400 = t by omega] at this
    exact fin_ok t y m d s k a b c _ w h hA ⟨hj, by omega, by omega⟩
  · exact fin_no t y m d s k 0 0 0 0 w h (fun w _ => split_no t w hf hr)
end Go.Proofs.YtbejbagpdjfgmaaDoor.clockBack
