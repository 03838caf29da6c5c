/-
  THE LAW ClockTimes, walked.
-/
import Derived.Test.YtbejbagpdjfgmaaDoorPrint
import Derived.Test.YtbejbagpdjfgmaaDoorRParse
namespace Go.Proofs.YtbejbagpdjfgmaaDoor.clockTimes
open Go Go.RowKit clockSpans
set_option maxRecDepth 100000 in
set_option maxHeartbeats 2000000 in
theorem walk_long (s k : Int) (l : List UInt8) (w : World) (h : Reads w) (hl : 40 < (⟨l.toArray⟩ : ByteArray).size) :
    Calls Tryd.prog 8 #[.agg #[.int .i64 s, .int .i64 k], .string ⟨l.toArray⟩] w (One w) := by
  have HR := Lib.hid h
  have HBw := Lib.hid (Below.refl w.heap.size w)
  have hl2 : (40 : Int) < (l.length : Int) := by
    have : (⟨l.toArray⟩ : ByteArray).size = l.length := by show l.toArray.size = _; simp
    omega
  clear h hl
  go_enter Tryd.func8, Tryd.ntmps8
  go_upto_region 1 with fail
  generalize hX : w.alloc (.cells #[.int .i64 s, .int .i64 k] 39) = v0
  have sv0 : v0.heap.size = w.heap.size + 1 := by rw [← hX]; simp
  have bv0 : Below w.heap.size w v0 := by rw [← hX]; exact (Below.refl _ _).alloc (Nat.le_refl _) _
  have HYv0 := Lib.hid (show v0.heap[w.heap.size]? = some (.cells #[.int .i64 s, .int .i64 k] 39 (0, 0)) by rw [← hX]; exact heap_alloc_new w _)
  have HBv0 := Lib.hid (HBw.out.trans (bv0.mono HBw.out.size))
  clear hX
  go_wp2_with fail
  refine (awake_any _ (HR.out.below HBv0.out)).mono ?_
  rintro e w1 ⟨rfl, hbw1⟩
  have HBw1 := Lib.hid (HBv0.out.trans (hbw1.mono HBv0.out.size))
  clear hbw1
  go_wp2_with fail
  go_ret
  exact ⟨rfl, HBw1.out⟩
set_option maxRecDepth 100000 in
set_option maxHeartbeats 4000000 in
theorem walk_far (s k : Int) (l : List UInt8) (w : World) (h : Reads w) (hl : ¬ 40 < (⟨l.toArray⟩ : ByteArray).size) (hn : s ≤ -604800 ∨ 604800 ≤ s) :
    Calls Tryd.prog 8 #[.agg #[.int .i64 s, .int .i64 k], .string ⟨l.toArray⟩] w (One w) := by
  have HN := Lib.hid hn
  have PP := Lib.hid (print_far s k hn)
  clear hn
  have HR := Lib.hid h
  have HBw := Lib.hid (Below.refl w.heap.size w)
  have hl2 : (l.length : Int) ≤ 40 := by
    have : (⟨l.toArray⟩ : ByteArray).size = l.length := by show l.toArray.size = _; simp
    omega
  have SP := Lib.hid (pis_any l (by omega))
  have SQ := Lib.hid (rparse_any l (by omega))
  generalize (psI l).1 = n at *
  generalize (psI l).2.1 = q at *
  generalize (psI l).2.2 = f at *
  clear h hl
  go_enter Tryd.func8, Tryd.ntmps8
  go_upto_region 1 with fail
  generalize hX : w.alloc (.cells #[.int .i64 s, .int .i64 k] 39) = v0
  have sv0 : v0.heap.size = w.heap.size + 1 := by rw [← hX]; simp
  have bv0 : Below w.heap.size w v0 := by rw [← hX]; exact (Below.refl _ _).alloc (Nat.le_refl _) _
  have HYv0 := Lib.hid (show v0.heap[w.heap.size]? = some (.cells #[.int .i64 s, .int .i64 k] 39 (0, 0)) by rw [← hX]; exact heap_alloc_new w _)
  have HBv0 := Lib.hid (HBw.out.trans (bv0.mono HBw.out.size))
  clear hX
  obtain ⟨p0, p1⟩ := row2_cells HYv0.out
  go_wp2_with fail
  refine (PP.out _ (HR.out.below HBv0.out)).mono ?_
  rintro e w1 ⟨rfl, hbw1⟩
  have HBw1 := Lib.hid (HBv0.out.trans (hbw1.mono HBv0.out.size))
  have HD1 := Lib.hid ((hbw1.block w.heap.size (by omega)).trans HYv0.out)
  have sw1 := hbw1.size
  clear hbw1 p0 p1
  obtain ⟨p0, p1⟩ := row2_cells HD1.out
  go_wp2_with fail
  refine (far_yes s _ HN.out).mono ?_
  rintro e9 w9 ⟨rfl, rfl⟩
  go_wp2_with fail
  clear p0 p1
  refine (SP.out _ (HR.out.below HBw1.out)).mono ?_
  rintro e w4 ⟨rfl, hbw4⟩
  have HBw4 := Lib.hid (HBw1.out.trans (hbw4.mono HBw1.out.size))
  have sw4 := hbw4.size
  clear hbw4
  go_upto_region 15 with fail
  generalize hX : w4.alloc (.cells #[.int .i64 n, .int .i64 q] 39) = v4
  have sv4 : v4.heap.size = w4.heap.size + 1 := by rw [← hX]; simp
  have bv4 : Below w4.heap.size w4 v4 := by rw [← hX]; exact (Below.refl _ _).alloc (Nat.le_refl _) _
  have HYv4 := Lib.hid (show v4.heap[w4.heap.size]? = some (.cells #[.int .i64 n, .int .i64 q] 39 (0, 0)) by rw [← hX]; exact heap_alloc_new w4 _)
  have HBv4 := Lib.hid (HBw4.out.trans (bv4.mono HBw4.out.size))
  clear hX
  go_wp2_with fail
  refine (SQ.out _).mono ?_
  rintro e w5 ⟨rfl, hbw5⟩
  have HBw5 := Lib.hid (HBv4.out.trans (hbw5.mono HBv4.out.size))
  have HX5 := Lib.hid ((hbw5.block w4.heap.size (by omega)).trans HYv4.out)
  have sw5 := hbw5.size
  clear hbw5
  go_upto_region 16 with fail
  generalize hX : w5.alloc (.cells #[.int .i64 n, .int .i64 q] 39) = v5
  have sv5 : v5.heap.size = w5.heap.size + 1 := by rw [← hX]; simp
  have bv5 : Below w5.heap.size w5 v5 := by rw [← hX]; exact (Below.refl _ _).alloc (Nat.le_refl _) _
  have HYv5 := Lib.hid (show v5.heap[w5.heap.size]? = some (.cells #[.int .i64 n, .int .i64 q] 39 (0, 0)) by rw [← hX]; exact heap_alloc_new w5 _)
  have HBv5 := Lib.hid (HBw5.out.trans (bv5.mono HBw5.out.size))
  clear hX
  obtain ⟨p0, p1⟩ := row2_cells ((bv5.block w4.heap.size (by omega)).trans HX5.out)
  obtain ⟨r0, r1⟩ := row2_cells HYv5.out
  go_wp2_with fail
  refine (awake_any _ (HR.out.below HBv5.out)).mono ?_
  rintro e w6 ⟨rfl, hbw6⟩
  have HBw6 := Lib.hid (HBv5.out.trans (hbw6.mono HBv5.out.size))
  clear hbw6 p0 p1 r0 r1
  go_wp2_with fail
  go_ret
  exact ⟨rfl, HBw6.out⟩
set_option maxRecDepth 100000 in
set_option maxHeartbeats 4000000 in
theorem walk_lo (s k : Int) (l : List UInt8) (w : World) (h : Reads w) (hl : ¬ 40 < (⟨l.toArray⟩ : ByteArray).size) (h1 : -604800 < s) (h2 : s < 604800) (hk : k < 0) :
    Calls Tryd.prog 8 #[.agg #[.int .i64 s, .int .i64 k], .string ⟨l.toArray⟩] w (One w) := by
  have PP := Lib.hid (print_lo s k h1 h2 hk)
  have FN := Lib.hid (fun w => far_no s w h1 h2)
  have HR := Lib.hid h
  have HBw := Lib.hid (Below.refl w.heap.size w)
  have hl2 : (l.length : Int) ≤ 40 := by
    have : (⟨l.toArray⟩ : ByteArray).size = l.length := by show l.toArray.size = _; simp
    omega
  have SP := Lib.hid (pis_any l (by omega))
  have SQ := Lib.hid (rparse_any l (by omega))
  generalize (psI l).1 = n at *
  generalize (psI l).2.1 = q at *
  generalize (psI l).2.2 = f at *
  clear h hl
  go_enter Tryd.func8, Tryd.ntmps8
  go_upto_region 1 with fail
  generalize hX : w.alloc (.cells #[.int .i64 s, .int .i64 k] 39) = v0
  have sv0 : v0.heap.size = w.heap.size + 1 := by rw [← hX]; simp
  have bv0 : Below w.heap.size w v0 := by rw [← hX]; exact (Below.refl _ _).alloc (Nat.le_refl _) _
  have HYv0 := Lib.hid (show v0.heap[w.heap.size]? = some (.cells #[.int .i64 s, .int .i64 k] 39 (0, 0)) by rw [← hX]; exact heap_alloc_new w _)
  have HBv0 := Lib.hid (HBw.out.trans (bv0.mono HBw.out.size))
  clear hX
  obtain ⟨p0, p1⟩ := row2_cells HYv0.out
  go_wp2_with fail
  refine (PP.out _ (HR.out.below HBv0.out)).mono ?_
  rintro e w1 ⟨rfl, hbw1⟩
  have HBw1 := Lib.hid (HBv0.out.trans (hbw1.mono HBv0.out.size))
  have HD1 := Lib.hid ((hbw1.block w.heap.size (by omega)).trans HYv0.out)
  have sw1 := hbw1.size
  clear hbw1 p0 p1
  obtain ⟨p0, p1⟩ := row2_cells HD1.out
  go_wp2_with fail
  refine (FN.out _).mono ?_
  rintro e9 w9 ⟨rfl, rfl⟩
  go_wp2_with fail
  clear p0 p1
  refine (SP.out _ (HR.out.below HBw1.out)).mono ?_
  rintro e w4 ⟨rfl, hbw4⟩
  have HBw4 := Lib.hid (HBw1.out.trans (hbw4.mono HBw1.out.size))
  have sw4 := hbw4.size
  clear hbw4
  go_upto_region 15 with fail
  generalize hX : w4.alloc (.cells #[.int .i64 n, .int .i64 q] 39) = v4
  have sv4 : v4.heap.size = w4.heap.size + 1 := by rw [← hX]; simp
  have bv4 : Below w4.heap.size w4 v4 := by rw [← hX]; exact (Below.refl _ _).alloc (Nat.le_refl _) _
  have HYv4 := Lib.hid (show v4.heap[w4.heap.size]? = some (.cells #[.int .i64 n, .int .i64 q] 39 (0, 0)) by rw [← hX]; exact heap_alloc_new w4 _)
  have HBv4 := Lib.hid (HBw4.out.trans (bv4.mono HBw4.out.size))
  clear hX
  go_wp2_with fail
  refine (SQ.out _).mono ?_
  rintro e w5 ⟨rfl, hbw5⟩
  have HBw5 := Lib.hid (HBv4.out.trans (hbw5.mono HBv4.out.size))
  have HX5 := Lib.hid ((hbw5.block w4.heap.size (by omega)).trans HYv4.out)
  have sw5 := hbw5.size
  clear hbw5
  go_upto_region 16 with fail
  generalize hX : w5.alloc (.cells #[.int .i64 n, .int .i64 q] 39) = v5
  have sv5 : v5.heap.size = w5.heap.size + 1 := by rw [← hX]; simp
  have bv5 : Below w5.heap.size w5 v5 := by rw [← hX]; exact (Below.refl _ _).alloc (Nat.le_refl _) _
  have HYv5 := Lib.hid (show v5.heap[w5.heap.size]? = some (.cells #[.int .i64 n, .int .i64 q] 39 (0, 0)) by rw [← hX]; exact heap_alloc_new w5 _)
  have HBv5 := Lib.hid (HBw5.out.trans (bv5.mono HBw5.out.size))
  clear hX
  obtain ⟨p0, p1⟩ := row2_cells ((bv5.block w4.heap.size (by omega)).trans HX5.out)
  obtain ⟨r0, r1⟩ := row2_cells HYv5.out
  go_wp2_with fail
  refine (awake_any _ (HR.out.below HBv5.out)).mono ?_
  rintro e w6 ⟨rfl, hbw6⟩
  have HBw6 := Lib.hid (HBv5.out.trans (hbw6.mono HBv5.out.size))
  clear hbw6 p0 p1 r0 r1
  go_wp2_with fail
  go_ret
  exact ⟨rfl, HBw6.out⟩
set_option maxRecDepth 100000 in
set_option maxHeartbeats 4000000 in
theorem walk_hi (s k : Int) (l : List UInt8) (w : World) (h : Reads w) (hl : ¬ 40 < (⟨l.toArray⟩ : ByteArray).size) (h1 : -604800 < s) (h2 : s < 604800) (hk : 3 ≤ k) :
    Calls Tryd.prog 8 #[.agg #[.int .i64 s, .int .i64 k], .string ⟨l.toArray⟩] w (One w) := by
  have PP := Lib.hid (print_hi s k h1 h2 hk)
  have FN := Lib.hid (fun w => far_no s w h1 h2)
  have HR := Lib.hid h
  have HBw := Lib.hid (Below.refl w.heap.size w)
  have hl2 : (l.length : Int) ≤ 40 := by
    have : (⟨l.toArray⟩ : ByteArray).size = l.length := by show l.toArray.size = _; simp
    omega
  have SP := Lib.hid (pis_any l (by omega))
  have SQ := Lib.hid (rparse_any l (by omega))
  generalize (psI l).1 = n at *
  generalize (psI l).2.1 = q at *
  generalize (psI l).2.2 = f at *
  clear h hl
  go_enter Tryd.func8, Tryd.ntmps8
  go_upto_region 1 with fail
  generalize hX : w.alloc (.cells #[.int .i64 s, .int .i64 k] 39) = v0
  have sv0 : v0.heap.size = w.heap.size + 1 := by rw [← hX]; simp
  have bv0 : Below w.heap.size w v0 := by rw [← hX]; exact (Below.refl _ _).alloc (Nat.le_refl _) _
  have HYv0 := Lib.hid (show v0.heap[w.heap.size]? = some (.cells #[.int .i64 s, .int .i64 k] 39 (0, 0)) by rw [← hX]; exact heap_alloc_new w _)
  have HBv0 := Lib.hid (HBw.out.trans (bv0.mono HBw.out.size))
  clear hX
  obtain ⟨p0, p1⟩ := row2_cells HYv0.out
  go_wp2_with fail
  refine (PP.out _ (HR.out.below HBv0.out)).mono ?_
  rintro e w1 ⟨rfl, hbw1⟩
  have HBw1 := Lib.hid (HBv0.out.trans (hbw1.mono HBv0.out.size))
  have HD1 := Lib.hid ((hbw1.block w.heap.size (by omega)).trans HYv0.out)
  have sw1 := hbw1.size
  clear hbw1 p0 p1
  obtain ⟨p0, p1⟩ := row2_cells HD1.out
  go_wp2_with fail
  refine (FN.out _).mono ?_
  rintro e9 w9 ⟨rfl, rfl⟩
  go_wp2_with fail
  clear p0 p1
  refine (SP.out _ (HR.out.below HBw1.out)).mono ?_
  rintro e w4 ⟨rfl, hbw4⟩
  have HBw4 := Lib.hid (HBw1.out.trans (hbw4.mono HBw1.out.size))
  have sw4 := hbw4.size
  clear hbw4
  go_upto_region 15 with fail
  generalize hX : w4.alloc (.cells #[.int .i64 n, .int .i64 q] 39) = v4
  have sv4 : v4.heap.size = w4.heap.size + 1 := by rw [← hX]; simp
  have bv4 : Below w4.heap.size w4 v4 := by rw [← hX]; exact (Below.refl _ _).alloc (Nat.le_refl _) _
  have HYv4 := Lib.hid (show v4.heap[w4.heap.size]? = some (.cells #[.int .i64 n, .int .i64 q] 39 (0, 0)) by rw [← hX]; exact heap_alloc_new w4 _)
  have HBv4 := Lib.hid (HBw4.out.trans (bv4.mono HBw4.out.size))
  clear hX
  go_wp2_with fail
  refine (SQ.out _).mono ?_
  rintro e w5 ⟨rfl, hbw5⟩
  have HBw5 := Lib.hid (HBv4.out.trans (hbw5.mono HBv4.out.size))
  have HX5 := Lib.hid ((hbw5.block w4.heap.size (by omega)).trans HYv4.out)
  have sw5 := hbw5.size
  clear hbw5
  go_upto_region 16 with fail
  generalize hX : w5.alloc (.cells #[.int .i64 n, .int .i64 q] 39) = v5
  have sv5 : v5.heap.size = w5.heap.size + 1 := by rw [← hX]; simp
  have bv5 : Below w5.heap.size w5 v5 := by rw [← hX]; exact (Below.refl _ _).alloc (Nat.le_refl _) _
  have HYv5 := Lib.hid (show v5.heap[w5.heap.size]? = some (.cells #[.int .i64 n, .int .i64 q] 39 (0, 0)) by rw [← hX]; exact heap_alloc_new w5 _)
  have HBv5 := Lib.hid (HBw5.out.trans (bv5.mono HBw5.out.size))
  clear hX
  obtain ⟨p0, p1⟩ := row2_cells ((bv5.block w4.heap.size (by omega)).trans HX5.out)
  obtain ⟨r0, r1⟩ := row2_cells HYv5.out
  go_wp2_with fail
  refine (awake_any _ (HR.out.below HBv5.out)).mono ?_
  rintro e w6 ⟨rfl, hbw6⟩
  have HBw6 := Lib.hid (HBv5.out.trans (hbw6.mono HBv5.out.size))
  clear hbw6 p0 p1 r0 r1
  go_wp2_with fail
  go_ret
  exact ⟨rfl, HBw6.out⟩
set_option maxRecDepth 100000 in
set_option maxHeartbeats 4000000 in
theorem walk_0 (s : Int) (l : List UInt8) (w : World) (h : Reads w) (hl : ¬ 40 < (⟨l.toArray⟩ : ByteArray).size) (h1 : -604800 < s) (h2 : s < 604800) :
    Calls Tryd.prog 8 #[.agg #[.int .i64 s, .int .i64 0], .string ⟨l.toArray⟩] w (One w) := by
  have PP := Lib.hid (print_0 s h1 h2)
  have FN := Lib.hid (fun w => far_no s w h1 h2)
  have TR := Lib.hid (fun w => rtext_ok s w h1 h2)
  have tl0 := textOf_len h1 h2
  generalize textOf s = T at *
  have tl : (T.length : Int) ≤ 1000 := by omega
  clear tl0
  skip
  have HR := Lib.hid h
  have HBw := Lib.hid (Below.refl w.heap.size w)
  have hl2 : (l.length : Int) ≤ 40 := by
    have : (⟨l.toArray⟩ : ByteArray).size = l.length := by show l.toArray.size = _; simp
    omega
  have SP := Lib.hid (pis_any l (by omega))
  have SQ := Lib.hid (rparse_any l (by omega))
  generalize (psI l).1 = n at *
  generalize (psI l).2.1 = q at *
  generalize (psI l).2.2 = f at *
  clear h hl
  go_enter Tryd.func8, Tryd.ntmps8
  go_upto_region 1 with fail
  generalize hX : w.alloc (.cells #[.int .i64 s, .int .i64 0] 39) = v0
  have sv0 : v0.heap.size = w.heap.size + 1 := by rw [← hX]; simp
  have bv0 : Below w.heap.size w v0 := by rw [← hX]; exact (Below.refl _ _).alloc (Nat.le_refl _) _
  have HYv0 := Lib.hid (show v0.heap[w.heap.size]? = some (.cells #[.int .i64 s, .int .i64 0] 39 (0, 0)) by rw [← hX]; exact heap_alloc_new w _)
  have HBv0 := Lib.hid (HBw.out.trans (bv0.mono HBw.out.size))
  clear hX
  obtain ⟨p0, p1⟩ := row2_cells HYv0.out
  go_wp2_with fail
  refine (PP.out _ (HR.out.below HBv0.out)).mono ?_
  rintro e w1 ⟨rfl, hbw1⟩
  have HBw1 := Lib.hid (HBv0.out.trans (hbw1.mono HBv0.out.size))
  have HD1 := Lib.hid ((hbw1.block w.heap.size (by omega)).trans HYv0.out)
  have sw1 := hbw1.size
  clear hbw1 p0 p1
  obtain ⟨p0, p1⟩ := row2_cells HD1.out
  go_wp2_with fail
  refine (FN.out _).mono ?_
  rintro e9 w9 ⟨rfl, rfl⟩
  go_wp2_with fail
  refine (TR.out _).mono ?_
  rintro e w2 ⟨rfl, hbw2⟩
  have HBw2 := Lib.hid (HBw1.out.trans (hbw2.mono HBw1.out.size))
  have HD2 := Lib.hid ((hbw2.block w.heap.size (by omega)).trans HD1.out)
  clear hbw2 p0 p1
  obtain ⟨p0, p1⟩ := row2_cells HD2.out
  go_wp2_with fail
  clear p0 p1
  refine (SP.out _ (HR.out.below HBw2.out)).mono ?_
  rintro e w4 ⟨rfl, hbw4⟩
  have HBw4 := Lib.hid (HBw2.out.trans (hbw4.mono HBw2.out.size))
  have sw4 := hbw4.size
  clear hbw4
  go_upto_region 15 with fail
  generalize hX : w4.alloc (.cells #[.int .i64 n, .int .i64 q] 39) = v4
  have sv4 : v4.heap.size = w4.heap.size + 1 := by rw [← hX]; simp
  have bv4 : Below w4.heap.size w4 v4 := by rw [← hX]; exact (Below.refl _ _).alloc (Nat.le_refl _) _
  have HYv4 := Lib.hid (show v4.heap[w4.heap.size]? = some (.cells #[.int .i64 n, .int .i64 q] 39 (0, 0)) by rw [← hX]; exact heap_alloc_new w4 _)
  have HBv4 := Lib.hid (HBw4.out.trans (bv4.mono HBw4.out.size))
  clear hX
  go_wp2_with fail
  refine (SQ.out _).mono ?_
  rintro e w5 ⟨rfl, hbw5⟩
  have HBw5 := Lib.hid (HBv4.out.trans (hbw5.mono HBv4.out.size))
  have HX5 := Lib.hid ((hbw5.block w4.heap.size (by omega)).trans HYv4.out)
  have sw5 := hbw5.size
  clear hbw5
  go_upto_region 16 with fail
  generalize hX : w5.alloc (.cells #[.int .i64 n, .int .i64 q] 39) = v5
  have sv5 : v5.heap.size = w5.heap.size + 1 := by rw [← hX]; simp
  have bv5 : Below w5.heap.size w5 v5 := by rw [← hX]; exact (Below.refl _ _).alloc (Nat.le_refl _) _
  have HYv5 := Lib.hid (show v5.heap[w5.heap.size]? = some (.cells #[.int .i64 n, .int .i64 q] 39 (0, 0)) by rw [← hX]; exact heap_alloc_new w5 _)
  have HBv5 := Lib.hid (HBw5.out.trans (bv5.mono HBw5.out.size))
  clear hX
  obtain ⟨p0, p1⟩ := row2_cells ((bv5.block w4.heap.size (by omega)).trans HX5.out)
  obtain ⟨r0, r1⟩ := row2_cells HYv5.out
  go_wp2_with fail
  refine (awake_any _ (HR.out.below HBv5.out)).mono ?_
  rintro e w6 ⟨rfl, hbw6⟩
  have HBw6 := Lib.hid (HBv5.out.trans (hbw6.mono HBv5.out.size))
  clear hbw6 p0 p1 r0 r1
  go_wp2_with fail
  go_ret
  exact ⟨rfl, HBw6.out⟩
set_option maxRecDepth 100000 in
set_option maxHeartbeats 4000000 in
theorem walk_1 (s : Int) (l : List UInt8) (w : World) (h : Reads w) (hl : ¬ 40 < (⟨l.toArray⟩ : ByteArray).size) (h1 : -604800 < s) (h2 : s < 604800) :
    Calls Tryd.prog 8 #[.agg #[.int .i64 s, .int .i64 1], .string ⟨l.toArray⟩] w (One w) := by
  have PP := Lib.hid (print_1 s h1 h2)
  have FN := Lib.hid (fun w => far_no s w h1 h2)
  have TR := Lib.hid (fun w => rtext_ok s w h1 h2)
  have tl0 := textOf_len h1 h2
  generalize textOf s = T at *
  have tl : (T.length : Int) ≤ 1000 := by omega
  clear tl0
  (have XA := ba_app T [115]; generalize T ++ [115] = TS at *)
  have HR := Lib.hid h
  have HBw := Lib.hid (Below.refl w.heap.size w)
  have hl2 : (l.length : Int) ≤ 40 := by
    have : (⟨l.toArray⟩ : ByteArray).size = l.length := by show l.toArray.size = _; simp
    omega
  have SP := Lib.hid (pis_any l (by omega))
  have SQ := Lib.hid (rparse_any l (by omega))
  generalize (psI l).1 = n at *
  generalize (psI l).2.1 = q at *
  generalize (psI l).2.2 = f at *
  clear h hl
  go_enter Tryd.func8, Tryd.ntmps8
  go_upto_region 1 with fail
  generalize hX : w.alloc (.cells #[.int .i64 s, .int .i64 1] 39) = v0
  have sv0 : v0.heap.size = w.heap.size + 1 := by rw [← hX]; simp
  have bv0 : Below w.heap.size w v0 := by rw [← hX]; exact (Below.refl _ _).alloc (Nat.le_refl _) _
  have HYv0 := Lib.hid (show v0.heap[w.heap.size]? = some (.cells #[.int .i64 s, .int .i64 1] 39 (0, 0)) by rw [← hX]; exact heap_alloc_new w _)
  have HBv0 := Lib.hid (HBw.out.trans (bv0.mono HBw.out.size))
  clear hX
  obtain ⟨p0, p1⟩ := row2_cells HYv0.out
  go_wp2_with fail
  refine (PP.out _ (HR.out.below HBv0.out)).mono ?_
  rintro e w1 ⟨rfl, hbw1⟩
  have HBw1 := Lib.hid (HBv0.out.trans (hbw1.mono HBv0.out.size))
  have HD1 := Lib.hid ((hbw1.block w.heap.size (by omega)).trans HYv0.out)
  have sw1 := hbw1.size
  clear hbw1 p0 p1
  obtain ⟨p0, p1⟩ := row2_cells HD1.out
  go_wp2_with fail
  refine (FN.out _).mono ?_
  rintro e9 w9 ⟨rfl, rfl⟩
  go_wp2_with fail
  refine (TR.out _).mono ?_
  rintro e w2 ⟨rfl, hbw2⟩
  have HBw2 := Lib.hid (HBw1.out.trans (hbw2.mono HBw1.out.size))
  have HD2 := Lib.hid ((hbw2.block w.heap.size (by omega)).trans HD1.out)
  clear hbw2 p0 p1
  obtain ⟨p0, p1⟩ := row2_cells HD2.out
  go_wp2_with fail
  clear p0 p1
  refine (SP.out _ (HR.out.below HBw2.out)).mono ?_
  rintro e w4 ⟨rfl, hbw4⟩
  have HBw4 := Lib.hid (HBw2.out.trans (hbw4.mono HBw2.out.size))
  have sw4 := hbw4.size
  clear hbw4
  go_upto_region 15 with fail
  generalize hX : w4.alloc (.cells #[.int .i64 n, .int .i64 q] 39) = v4
  have sv4 : v4.heap.size = w4.heap.size + 1 := by rw [← hX]; simp
  have bv4 : Below w4.heap.size w4 v4 := by rw [← hX]; exact (Below.refl _ _).alloc (Nat.le_refl _) _
  have HYv4 := Lib.hid (show v4.heap[w4.heap.size]? = some (.cells #[.int .i64 n, .int .i64 q] 39 (0, 0)) by rw [← hX]; exact heap_alloc_new w4 _)
  have HBv4 := Lib.hid (HBw4.out.trans (bv4.mono HBw4.out.size))
  clear hX
  go_wp2_with fail
  refine (SQ.out _).mono ?_
  rintro e w5 ⟨rfl, hbw5⟩
  have HBw5 := Lib.hid (HBv4.out.trans (hbw5.mono HBv4.out.size))
  have HX5 := Lib.hid ((hbw5.block w4.heap.size (by omega)).trans HYv4.out)
  have sw5 := hbw5.size
  clear hbw5
  go_upto_region 16 with fail
  generalize hX : w5.alloc (.cells #[.int .i64 n, .int .i64 q] 39) = v5
  have sv5 : v5.heap.size = w5.heap.size + 1 := by rw [← hX]; simp
  have bv5 : Below w5.heap.size w5 v5 := by rw [← hX]; exact (Below.refl _ _).alloc (Nat.le_refl _) _
  have HYv5 := Lib.hid (show v5.heap[w5.heap.size]? = some (.cells #[.int .i64 n, .int .i64 q] 39 (0, 0)) by rw [← hX]; exact heap_alloc_new w5 _)
  have HBv5 := Lib.hid (HBw5.out.trans (bv5.mono HBw5.out.size))
  clear hX
  obtain ⟨p0, p1⟩ := row2_cells ((bv5.block w4.heap.size (by omega)).trans HX5.out)
  obtain ⟨r0, r1⟩ := row2_cells HYv5.out
  go_wp2_with fail
  refine (awake_any _ (HR.out.below HBv5.out)).mono ?_
  rintro e w6 ⟨rfl, hbw6⟩
  have HBw6 := Lib.hid (HBv5.out.trans (hbw6.mono HBv5.out.size))
  clear hbw6 p0 p1 r0 r1
  go_wp2_with fail
  go_ret
  exact ⟨rfl, HBw6.out⟩
set_option maxRecDepth 100000 in
set_option maxHeartbeats 4000000 in
theorem walk_2 (s : Int) (l : List UInt8) (w : World) (h : Reads w) (hl : ¬ 40 < (⟨l.toArray⟩ : ByteArray).size) (h1 : -604800 < s) (h2 : s < 604800) :
    Calls Tryd.prog 8 #[.agg #[.int .i64 s, .int .i64 2], .string ⟨l.toArray⟩] w (One w) := by
  have PP := Lib.hid (print_2 s h1 h2)
  have FN := Lib.hid (fun w => far_no s w h1 h2)
  have TR := Lib.hid (fun w => rtext_ok s w h1 h2)
  have tl0 := textOf_len h1 h2
  generalize textOf s = T at *
  have tl : (T.length : Int) ≤ 1000 := by omega
  clear tl0
  (have XA := ba_app T [117]; generalize T ++ [117] = TS at *)
  have HR := Lib.hid h
  have HBw := Lib.hid (Below.refl w.heap.size w)
  have hl2 : (l.length : Int) ≤ 40 := by
    have : (⟨l.toArray⟩ : ByteArray).size = l.length := by show l.toArray.size = _; simp
    omega
  have SP := Lib.hid (pis_any l (by omega))
  have SQ := Lib.hid (rparse_any l (by omega))
  generalize (psI l).1 = n at *
  generalize (psI l).2.1 = q at *
  generalize (psI l).2.2 = f at *
  clear h hl
  go_enter Tryd.func8, Tryd.ntmps8
  go_upto_region 1 with fail
  generalize hX : w.alloc (.cells #[.int .i64 s, .int .i64 2] 39) = v0
  have sv0 : v0.heap.size = w.heap.size + 1 := by rw [← hX]; simp
  have bv0 : Below w.heap.size w v0 := by rw [← hX]; exact (Below.refl _ _).alloc (Nat.le_refl _) _
  have HYv0 := Lib.hid (show v0.heap[w.heap.size]? = some (.cells #[.int .i64 s, .int .i64 2] 39 (0, 0)) by rw [← hX]; exact heap_alloc_new w _)
  have HBv0 := Lib.hid (HBw.out.trans (bv0.mono HBw.out.size))
  clear hX
  obtain ⟨p0, p1⟩ := row2_cells HYv0.out
  go_wp2_with fail
  refine (PP.out _ (HR.out.below HBv0.out)).mono ?_
  rintro e w1 ⟨rfl, hbw1⟩
  have HBw1 := Lib.hid (HBv0.out.trans (hbw1.mono HBv0.out.size))
  have HD1 := Lib.hid ((hbw1.block w.heap.size (by omega)).trans HYv0.out)
  have sw1 := hbw1.size
  clear hbw1 p0 p1
  obtain ⟨p0, p1⟩ := row2_cells HD1.out
  go_wp2_with fail
  refine (FN.out _).mono ?_
  rintro e9 w9 ⟨rfl, rfl⟩
  go_wp2_with fail
  refine (TR.out _).mono ?_
  rintro e w2 ⟨rfl, hbw2⟩
  have HBw2 := Lib.hid (HBw1.out.trans (hbw2.mono HBw1.out.size))
  have HD2 := Lib.hid ((hbw2.block w.heap.size (by omega)).trans HD1.out)
  clear hbw2 p0 p1
  obtain ⟨p0, p1⟩ := row2_cells HD2.out
  go_wp2_with fail
  clear p0 p1
  refine (SP.out _ (HR.out.below HBw2.out)).mono ?_
  rintro e w4 ⟨rfl, hbw4⟩
  have HBw4 := Lib.hid (HBw2.out.trans (hbw4.mono HBw2.out.size))
  have sw4 := hbw4.size
  clear hbw4
  go_upto_region 15 with fail
  generalize hX : w4.alloc (.cells #[.int .i64 n, .int .i64 q] 39) = v4
  have sv4 : v4.heap.size = w4.heap.size + 1 := by rw [← hX]; simp
  have bv4 : Below w4.heap.size w4 v4 := by rw [← hX]; exact (Below.refl _ _).alloc (Nat.le_refl _) _
  have HYv4 := Lib.hid (show v4.heap[w4.heap.size]? = some (.cells #[.int .i64 n, .int .i64 q] 39 (0, 0)) by rw [← hX]; exact heap_alloc_new w4 _)
  have HBv4 := Lib.hid (HBw4.out.trans (bv4.mono HBw4.out.size))
  clear hX
  go_wp2_with fail
  refine (SQ.out _).mono ?_
  rintro e w5 ⟨rfl, hbw5⟩
  have HBw5 := Lib.hid (HBv4.out.trans (hbw5.mono HBv4.out.size))
  have HX5 := Lib.hid ((hbw5.block w4.heap.size (by omega)).trans HYv4.out)
  have sw5 := hbw5.size
  clear hbw5
  go_upto_region 16 with fail
  generalize hX : w5.alloc (.cells #[.int .i64 n, .int .i64 q] 39) = v5
  have sv5 : v5.heap.size = w5.heap.size + 1 := by rw [← hX]; simp
  have bv5 : Below w5.heap.size w5 v5 := by rw [← hX]; exact (Below.refl _ _).alloc (Nat.le_refl _) _
  have HYv5 := Lib.hid (show v5.heap[w5.heap.size]? = some (.cells #[.int .i64 n, .int .i64 q] 39 (0, 0)) by rw [← hX]; exact heap_alloc_new w5 _)
  have HBv5 := Lib.hid (HBw5.out.trans (bv5.mono HBw5.out.size))
  clear hX
  obtain ⟨p0, p1⟩ := row2_cells ((bv5.block w4.heap.size (by omega)).trans HX5.out)
  obtain ⟨r0, r1⟩ := row2_cells HYv5.out
  go_wp2_with fail
  refine (awake_any _ (HR.out.below HBv5.out)).mono ?_
  rintro e w6 ⟨rfl, hbw6⟩
  have HBw6 := Lib.hid (HBv5.out.trans (hbw6.mono HBv5.out.size))
  clear hbw6 p0 p1 r0 r1
  go_wp2_with fail
  go_ret
  exact ⟨rfl, HBw6.out⟩
theorem walk (s k : Int) (l : List UInt8) (w : World) (h : Reads w) : Calls Tryd.prog 8 #[.agg #[.int .i64 s, .int .i64 k], .string ⟨l.toArray⟩] w (One w) := by
  by_cases hl : 40 < (⟨l.toArray⟩ : ByteArray).size
  · exact walk_long s k l w h hl
  · by_cases hn : s ≤ -604800 ∨ 604800 ≤ s
    · exact walk_far s k l w h hl hn
    · have h1 : -604800 < s := by omega
      have h2 : s < 604800 := by omega
      by_cases ha : k < 0
      · exact walk_lo s k l w h hl h1 h2 ha
      · by_cases hb : 3 ≤ k
        · exact walk_hi s k l w h hl h1 h2 hb
        · obtain rfl | rfl | rfl : k = 0 ∨ k = 1 ∨ k = 2 := by omega
          · exact walk_0 s l w h hl h1 h2
          · exact walk_1 s l w h hl h1 h2
          · exact walk_2 s l w h hl h1 h2
end Go.Proofs.YtbejbagpdjfgmaaDoor.clockTimes
