/-
  THE LAW ClockJoins, walked.
-/
import Derived.Test.YtbejbagpdjfgmaaDoorRClock
namespace Go.Proofs.YtbejbagpdjfgmaaDoor.clockJoins
open Go Go.RowKit CivM NumM clockRise
/-- Split and the document's Of answer this -/
structure SIs (t a b c r e : Int) (is : Bool) : Prop where
  sp : ∀ w, Ahead w → Calls Tryd.prog 13 #[.int .i64 t] w fun e' w' => e' = .returned (.tuple #[.agg #[.int .i64 a, .int .i64 b, .int .i64 c], .int .i64 r, .int .i64 e]) ∧ Below w.heap.size w w'
  ro : ∀ w, Calls Tryd.prog 15 #[.int .i64 (t / 86400)] w fun e' w' => e' = .returned (.tuple #[.agg #[.int .i64 a, .int .i64 b, .int .i64 c], .bool is]) ∧ Below w.heap.size w w'
set_option maxRecDepth 100000 in
set_option maxHeartbeats 4000000 in
theorem walk_good_in (y m d s t a b c : Int) (w : World) (h : Reads w) (hv : Valid y m d) (h1 : -604800 < s) (h2 : s < 604800) (hf : Fits t) (hS : SIs t a b c (t % 86400) 0 true) (_hs : True) :
    Calls Tryd.prog 3 #[.agg #[.int .i64 y, .int .i64 m, .int .i64 d], .int .i64 s, .int .i64 t] w (One w) := by
  have hA : JIs y m d s (num y m d * 86400 + s) 0 := fun w hA => join_ok y m d s w hA hv h1 h2
  have HV := Lib.hid hv
  have nb := num_bd hv
  obtain ⟨N, hN⟩ : ∃ N, num y m d = N := ⟨_, rfl⟩
  have RJ := Lib.hid (fun w => hN ▸ rjoin_ok y m d s w hv h1 h2)
  rw [hN] at nb hA
  obtain ⟨nb1, nb2⟩ := nb
  clear hN hv
  skip
  have HR := Lib.hid h
  have HBw := Lib.hid (Below.refl w.heap.size w)
  have HF := Lib.hid hf
  have SA := Lib.hid hA
  have SS := Lib.hid hS
  clear h hf hA hS
  go_enter Tryd.func3, Tryd.ntmps3
  go_upto_region 1 with fail
  generalize hX : w.alloc (.cells #[.int .i64 y, .int .i64 m, .int .i64 d] 23) = v0
  have sv0 : v0.heap.size = w.heap.size + 1 := by rw [← hX]; simp
  have bv0 : Below w.heap.size w v0 := by rw [← hX]; exact (Below.refl _ _).alloc (Nat.le_refl _) _
  have HYv0 := Lib.hid (show v0.heap[w.heap.size]? = some (.cells #[.int .i64 y, .int .i64 m, .int .i64 d] 23 (0, 0)) by rw [← hX]; exact heap_alloc_new w _)
  have HBv0 := Lib.hid (HBw.out.trans (bv0.mono HBw.out.size))
  clear hX
  obtain ⟨p0, p1, p2⟩ := row3_cells HYv0.out
  go_wp2_with fail
  refine (SA.out _ (HR.out.below HBv0.out).a).mono ?_
  rintro e w1 ⟨rfl, hbw1⟩
  have HBw1 := Lib.hid (HBv0.out.trans (hbw1.mono HBv0.out.size))
  have HD1 := Lib.hid ((hbw1.block w.heap.size (by omega)).trans HYv0.out)
  have sw1 := hbw1.size
  clear hbw1 p0 p1 p2
  obtain ⟨p0, p1, p2⟩ := row3_cells HD1.out
  go_wp2_with fail
  refine (right_ok y m d _ HV.out).mono ?_
  rintro e w2 ⟨rfl, hbw2⟩
  have HBw2 := Lib.hid (HBw1.out.trans (hbw2.mono HBw1.out.size))
  have HD2 := Lib.hid ((hbw2.block w.heap.size (by omega)).trans HD1.out)
  have sw2 := hbw2.size
  clear hbw2 p0 p1 p2
  obtain ⟨p0, p1, p2⟩ := row3_cells HD2.out
  go_wp2_with fail
  refine (far_no s _ h1 h2).mono ?_
  rintro e9 w9 ⟨rfl, rfl⟩
  go_wp2_with fail
  refine (RJ.out _).mono ?_
  rintro e w3 ⟨rfl, hbw3⟩
  have HBw3 := Lib.hid (HBw2.out.trans (hbw3.mono HBw2.out.size))
  clear hbw3
  go_wp2_with fail
  refine (SS.out.sp _ (HR.out.below HBw3.out).a).mono ?_
  rintro e w4 ⟨rfl, hbw4⟩
  have HBw4 := Lib.hid (HBw3.out.trans (hbw4.mono HBw3.out.size))
  have sw4 := hbw4.size
  clear hbw4 p0 p1 p2
  go_upto_region 8 with fail
  generalize hX : w4.alloc (.cells #[.int .i64 a, .int .i64 b, .int .i64 c] 23) = v4
  have sv4 : v4.heap.size = w4.heap.size + 1 := by rw [← hX]; simp
  have bv4 : Below w4.heap.size w4 v4 := by rw [← hX]; exact (Below.refl _ _).alloc (Nat.le_refl _) _
  have HYv4 := Lib.hid (show v4.heap[w4.heap.size]? = some (.cells #[.int .i64 a, .int .i64 b, .int .i64 c] 23 (0, 0)) by rw [← hX]; exact heap_alloc_new w4 _)
  have HBv4 := Lib.hid (HBw4.out.trans (bv4.mono HBw4.out.size))
  clear hX
  go_wp2_with fail
  refine (rsplit_any t _ HF.out).mono ?_
  rintro e9 w9 ⟨rfl, rfl⟩
  go_wp2_with fail
  refine (SS.out.ro _).mono ?_
  rintro e w5 ⟨rfl, hbw5⟩
  have HBw5 := Lib.hid (HBv4.out.trans (hbw5.mono HBv4.out.size))
  have HX5 := Lib.hid ((hbw5.block w4.heap.size (by omega)).trans HYv4.out)
  have sw5 := hbw5.size
  clear hbw5
  go_upto_region 10 with fail
  generalize hX : w5.alloc (.cells #[.int .i64 a, .int .i64 b, .int .i64 c] 23) = v5
  have sv5 : v5.heap.size = w5.heap.size + 1 := by rw [← hX]; simp
  have bv5 : Below w5.heap.size w5 v5 := by rw [← hX]; exact (Below.refl _ _).alloc (Nat.le_refl _) _
  have HYv5 := Lib.hid (show v5.heap[w5.heap.size]? = some (.cells #[.int .i64 a, .int .i64 b, .int .i64 c] 23 (0, 0)) by rw [← hX]; exact heap_alloc_new w5 _)
  have HBv5 := Lib.hid (HBw5.out.trans (bv5.mono HBw5.out.size))
  clear hX
  obtain ⟨p0, p1, p2⟩ := row3_cells ((bv5.block w4.heap.size (by omega)).trans HX5.out)
  obtain ⟨r0, r1, r2⟩ := row3_cells HYv5.out
  skip
  go_wp2_with fail
  refine (awake_any _ (HR.out.below HBv5.out)).mono ?_
  rintro e w6 ⟨rfl, hbw6⟩
  have HBw6 := Lib.hid (HBv5.out.trans (hbw6.mono HBv5.out.size))
  clear p0 p1 p2 r0 r1 r2 hbw6
  go_wp2_with fail
  go_ret
  exact ⟨rfl, HBw6.out⟩
set_option maxRecDepth 100000 in
set_option maxHeartbeats 4000000 in
theorem walk_bad_in (y m d s t a b c : Int) (w : World) (h : Reads w) (hv : ¬ Valid y m d) (hf : Fits t) (hS : SIs t a b c (t % 86400) 0 true) (_hs : True) :
    Calls Tryd.prog 3 #[.agg #[.int .i64 y, .int .i64 m, .int .i64 d], .int .i64 s, .int .i64 t] w (One w) := by
  have hA : JIs y m d s 0 10 := fun w hA => join_bad y m d s w hA hv
  have HV := Lib.hid hv
  clear hv
  skip
  have HR := Lib.hid h
  have HBw := Lib.hid (Below.refl w.heap.size w)
  have HF := Lib.hid hf
  have SA := Lib.hid hA
  have SS := Lib.hid hS
  clear h hf hA hS
  go_enter Tryd.func3, Tryd.ntmps3
  go_upto_region 1 with fail
  generalize hX : w.alloc (.cells #[.int .i64 y, .int .i64 m, .int .i64 d] 23) = v0
  have sv0 : v0.heap.size = w.heap.size + 1 := by rw [← hX]; simp
  have bv0 : Below w.heap.size w v0 := by rw [← hX]; exact (Below.refl _ _).alloc (Nat.le_refl _) _
  have HYv0 := Lib.hid (show v0.heap[w.heap.size]? = some (.cells #[.int .i64 y, .int .i64 m, .int .i64 d] 23 (0, 0)) by rw [← hX]; exact heap_alloc_new w _)
  have HBv0 := Lib.hid (HBw.out.trans (bv0.mono HBw.out.size))
  clear hX
  obtain ⟨p0, p1, p2⟩ := row3_cells HYv0.out
  go_wp2_with fail
  refine (SA.out _ (HR.out.below HBv0.out).a).mono ?_
  rintro e w1 ⟨rfl, hbw1⟩
  have HBw1 := Lib.hid (HBv0.out.trans (hbw1.mono HBv0.out.size))
  have HD1 := Lib.hid ((hbw1.block w.heap.size (by omega)).trans HYv0.out)
  have sw1 := hbw1.size
  clear hbw1 p0 p1 p2
  obtain ⟨p0, p1, p2⟩ := row3_cells HD1.out
  go_wp2_with fail
  refine (right_no y m d _ HV.out).mono ?_
  rintro e w2 ⟨rfl, hbw2⟩
  have HBw2 := Lib.hid (HBw1.out.trans (hbw2.mono HBw1.out.size))
  have HD2 := Lib.hid ((hbw2.block w.heap.size (by omega)).trans HD1.out)
  have sw2 := hbw2.size
  clear hbw2 p0 p1 p2
  obtain ⟨p0, p1, p2⟩ := row3_cells HD2.out
  go_wp2_with fail
  refine (SS.out.sp _ (HR.out.below HBw2.out).a).mono ?_
  rintro e w4 ⟨rfl, hbw4⟩
  have HBw4 := Lib.hid (HBw2.out.trans (hbw4.mono HBw2.out.size))
  have sw4 := hbw4.size
  clear hbw4 p0 p1 p2
  go_upto_region 8 with fail
  generalize hX : w4.alloc (.cells #[.int .i64 a, .int .i64 b, .int .i64 c] 23) = v4
  have sv4 : v4.heap.size = w4.heap.size + 1 := by rw [← hX]; simp
  have bv4 : Below w4.heap.size w4 v4 := by rw [← hX]; exact (Below.refl _ _).alloc (Nat.le_refl _) _
  have HYv4 := Lib.hid (show v4.heap[w4.heap.size]? = some (.cells #[.int .i64 a, .int .i64 b, .int .i64 c] 23 (0, 0)) by rw [← hX]; exact heap_alloc_new w4 _)
  have HBv4 := Lib.hid (HBw4.out.trans (bv4.mono HBw4.out.size))
  clear hX
  go_wp2_with fail
  refine (rsplit_any t _ HF.out).mono ?_
  rintro e9 w9 ⟨rfl, rfl⟩
  go_wp2_with fail
  refine (SS.out.ro _).mono ?_
  rintro e w5 ⟨rfl, hbw5⟩
  have HBw5 := Lib.hid (HBv4.out.trans (hbw5.mono HBv4.out.size))
  have HX5 := Lib.hid ((hbw5.block w4.heap.size (by omega)).trans HYv4.out)
  have sw5 := hbw5.size
  clear hbw5
  go_upto_region 10 with fail
  generalize hX : w5.alloc (.cells #[.int .i64 a, .int .i64 b, .int .i64 c] 23) = v5
  have sv5 : v5.heap.size = w5.heap.size + 1 := by rw [← hX]; simp
  have bv5 : Below w5.heap.size w5 v5 := by rw [← hX]; exact (Below.refl _ _).alloc (Nat.le_refl _) _
  have HYv5 := Lib.hid (show v5.heap[w5.heap.size]? = some (.cells #[.int .i64 a, .int .i64 b, .int .i64 c] 23 (0, 0)) by rw [← hX]; exact heap_alloc_new w5 _)
  have HBv5 := Lib.hid (HBw5.out.trans (bv5.mono HBw5.out.size))
  clear hX
  obtain ⟨p0, p1, p2⟩ := row3_cells ((bv5.block w4.heap.size (by omega)).trans HX5.out)
  obtain ⟨r0, r1, r2⟩ := row3_cells HYv5.out
  skip
  go_wp2_with fail
  refine (awake_any _ (HR.out.below HBv5.out)).mono ?_
  rintro e w6 ⟨rfl, hbw6⟩
  have HBw6 := Lib.hid (HBv5.out.trans (hbw6.mono HBv5.out.size))
  clear p0 p1 p2 r0 r1 r2 hbw6
  go_wp2_with fail
  go_ret
  exact ⟨rfl, HBw6.out⟩
set_option maxRecDepth 100000 in
set_option maxHeartbeats 4000000 in
theorem walk_far_in (y m d s t a b c : Int) (w : World) (h : Reads w) (hv : Valid y m d) (hs : s ≤ -604800 ∨ 604800 ≤ s) (hf : Fits t) (hS : SIs t a b c (t % 86400) 0 true) (_hs : True) :
    Calls Tryd.prog 3 #[.agg #[.int .i64 y, .int .i64 m, .int .i64 d], .int .i64 s, .int .i64 t] w (One w) := by
  have hA : JIs y m d s 0 10 := fun w hA => join_far y m d s w hA hv hs
  have HV := Lib.hid hv
  have HS := Lib.hid hs
  clear hv hs
  skip
  have HR := Lib.hid h
  have HBw := Lib.hid (Below.refl w.heap.size w)
  have HF := Lib.hid hf
  have SA := Lib.hid hA
  have SS := Lib.hid hS
  clear h hf hA hS
  go_enter Tryd.func3, Tryd.ntmps3
  go_upto_region 1 with fail
  generalize hX : w.alloc (.cells #[.int .i64 y, .int .i64 m, .int .i64 d] 23) = v0
  have sv0 : v0.heap.size = w.heap.size + 1 := by rw [← hX]; simp
  have bv0 : Below w.heap.size w v0 := by rw [← hX]; exact (Below.refl _ _).alloc (Nat.le_refl _) _
  have HYv0 := Lib.hid (show v0.heap[w.heap.size]? = some (.cells #[.int .i64 y, .int .i64 m, .int .i64 d] 23 (0, 0)) by rw [← hX]; exact heap_alloc_new w _)
  have HBv0 := Lib.hid (HBw.out.trans (bv0.mono HBw.out.size))
  clear hX
  obtain ⟨p0, p1, p2⟩ := row3_cells HYv0.out
  go_wp2_with fail
  refine (SA.out _ (HR.out.below HBv0.out).a).mono ?_
  rintro e w1 ⟨rfl, hbw1⟩
  have HBw1 := Lib.hid (HBv0.out.trans (hbw1.mono HBv0.out.size))
  have HD1 := Lib.hid ((hbw1.block w.heap.size (by omega)).trans HYv0.out)
  have sw1 := hbw1.size
  clear hbw1 p0 p1 p2
  obtain ⟨p0, p1, p2⟩ := row3_cells HD1.out
  go_wp2_with fail
  refine (right_ok y m d _ HV.out).mono ?_
  rintro e w2 ⟨rfl, hbw2⟩
  have HBw2 := Lib.hid (HBw1.out.trans (hbw2.mono HBw1.out.size))
  have HD2 := Lib.hid ((hbw2.block w.heap.size (by omega)).trans HD1.out)
  have sw2 := hbw2.size
  clear hbw2 p0 p1 p2
  obtain ⟨p0, p1, p2⟩ := row3_cells HD2.out
  go_wp2_with fail
  refine (far_yes s _ HS.out).mono ?_
  rintro e9 w9 ⟨rfl, rfl⟩
  go_wp2_with fail
  refine (SS.out.sp _ (HR.out.below HBw2.out).a).mono ?_
  rintro e w4 ⟨rfl, hbw4⟩
  have HBw4 := Lib.hid (HBw2.out.trans (hbw4.mono HBw2.out.size))
  have sw4 := hbw4.size
  clear hbw4 p0 p1 p2
  go_upto_region 8 with fail
  generalize hX : w4.alloc (.cells #[.int .i64 a, .int .i64 b, .int .i64 c] 23) = v4
  have sv4 : v4.heap.size = w4.heap.size + 1 := by rw [← hX]; simp
  have bv4 : Below w4.heap.size w4 v4 := by rw [← hX]; exact (Below.refl _ _).alloc (Nat.le_refl _) _
  have HYv4 := Lib.hid (show v4.heap[w4.heap.size]? = some (.cells #[.int .i64 a, .int .i64 b, .int .i64 c] 23 (0, 0)) by rw [← hX]; exact heap_alloc_new w4 _)
  have HBv4 := Lib.hid (HBw4.out.trans (bv4.mono HBw4.out.size))
  clear hX
  go_wp2_with fail
  refine (rsplit_any t _ HF.out).mono ?_
  rintro e9 w9 ⟨rfl, rfl⟩
  go_wp2_with fail
  refine (SS.out.ro _).mono ?_
  rintro e w5 ⟨rfl, hbw5⟩
  have HBw5 := Lib.hid (HBv4.out.trans (hbw5.mono HBv4.out.size))
  have HX5 := Lib.hid ((hbw5.block w4.heap.size (by omega)).trans HYv4.out)
  have sw5 := hbw5.size
  clear hbw5
  go_upto_region 10 with fail
  generalize hX : w5.alloc (.cells #[.int .i64 a, .int .i64 b, .int .i64 c] 23) = v5
  have sv5 : v5.heap.size = w5.heap.size + 1 := by rw [← hX]; simp
  have bv5 : Below w5.heap.size w5 v5 := by rw [← hX]; exact (Below.refl _ _).alloc (Nat.le_refl _) _
  have HYv5 := Lib.hid (show v5.heap[w5.heap.size]? = some (.cells #[.int .i64 a, .int .i64 b, .int .i64 c] 23 (0, 0)) by rw [← hX]; exact heap_alloc_new w5 _)
  have HBv5 := Lib.hid (HBw5.out.trans (bv5.mono HBw5.out.size))
  clear hX
  obtain ⟨p0, p1, p2⟩ := row3_cells ((bv5.block w4.heap.size (by omega)).trans HX5.out)
  obtain ⟨r0, r1, r2⟩ := row3_cells HYv5.out
  skip
  go_wp2_with fail
  refine (awake_any _ (HR.out.below HBv5.out)).mono ?_
  rintro e w6 ⟨rfl, hbw6⟩
  have HBw6 := Lib.hid (HBv5.out.trans (hbw6.mono HBv5.out.size))
  clear p0 p1 p2 r0 r1 r2 hbw6
  go_wp2_with fail
  go_ret
  exact ⟨rfl, HBw6.out⟩
set_option maxRecDepth 100000 in
set_option maxHeartbeats 4000000 in
theorem walk_good_out (y m d s t a b c : Int) (w : World) (h : Reads w) (hv : Valid y m d) (h1 : -604800 < s) (h2 : s < 604800) (hf : Fits t) (hS : SIs t a b c 0 10 false) (hS0 : a = 0 ∧ b = 0 ∧ c = 0) :
    Calls Tryd.prog 3 #[.agg #[.int .i64 y, .int .i64 m, .int .i64 d], .int .i64 s, .int .i64 t] w (One w) := by
  have hA : JIs y m d s (num y m d * 86400 + s) 0 := fun w hA => join_ok y m d s w hA hv h1 h2
  have HV := Lib.hid hv
  have nb := num_bd hv
  obtain ⟨N, hN⟩ : ∃ N, num y m d = N := ⟨_, rfl⟩
  have RJ := Lib.hid (fun w => hN ▸ rjoin_ok y m d s w hv h1 h2)
  rw [hN] at nb hA
  obtain ⟨nb1, nb2⟩ := nb
  clear hN hv
  (have HS0 := Lib.hid hS0; clear hS0)
  have HR := Lib.hid h
  have HBw := Lib.hid (Below.refl w.heap.size w)
  have HF := Lib.hid hf
  have SA := Lib.hid hA
  have SS := Lib.hid hS
  clear h hf hA hS
  go_enter Tryd.func3, Tryd.ntmps3
  go_upto_region 1 with fail
  generalize hX : w.alloc (.cells #[.int .i64 y, .int .i64 m, .int .i64 d] 23) = v0
  have sv0 : v0.heap.size = w.heap.size + 1 := by rw [← hX]; simp
  have bv0 : Below w.heap.size w v0 := by rw [← hX]; exact (Below.refl _ _).alloc (Nat.le_refl _) _
  have HYv0 := Lib.hid (show v0.heap[w.heap.size]? = some (.cells #[.int .i64 y, .int .i64 m, .int .i64 d] 23 (0, 0)) by rw [← hX]; exact heap_alloc_new w _)
  have HBv0 := Lib.hid (HBw.out.trans (bv0.mono HBw.out.size))
  clear hX
  obtain ⟨p0, p1, p2⟩ := row3_cells HYv0.out
  go_wp2_with fail
  refine (SA.out _ (HR.out.below HBv0.out).a).mono ?_
  rintro e w1 ⟨rfl, hbw1⟩
  have HBw1 := Lib.hid (HBv0.out.trans (hbw1.mono HBv0.out.size))
  have HD1 := Lib.hid ((hbw1.block w.heap.size (by omega)).trans HYv0.out)
  have sw1 := hbw1.size
  clear hbw1 p0 p1 p2
  obtain ⟨p0, p1, p2⟩ := row3_cells HD1.out
  go_wp2_with fail
  refine (right_ok y m d _ HV.out).mono ?_
  rintro e w2 ⟨rfl, hbw2⟩
  have HBw2 := Lib.hid (HBw1.out.trans (hbw2.mono HBw1.out.size))
  have HD2 := Lib.hid ((hbw2.block w.heap.size (by omega)).trans HD1.out)
  have sw2 := hbw2.size
  clear hbw2 p0 p1 p2
  obtain ⟨p0, p1, p2⟩ := row3_cells HD2.out
  go_wp2_with fail
  refine (far_no s _ h1 h2).mono ?_
  rintro e9 w9 ⟨rfl, rfl⟩
  go_wp2_with fail
  refine (RJ.out _).mono ?_
  rintro e w3 ⟨rfl, hbw3⟩
  have HBw3 := Lib.hid (HBw2.out.trans (hbw3.mono HBw2.out.size))
  clear hbw3
  go_wp2_with fail
  refine (SS.out.sp _ (HR.out.below HBw3.out).a).mono ?_
  rintro e w4 ⟨rfl, hbw4⟩
  have HBw4 := Lib.hid (HBw3.out.trans (hbw4.mono HBw3.out.size))
  have sw4 := hbw4.size
  clear hbw4 p0 p1 p2
  go_upto_region 8 with fail
  generalize hX : w4.alloc (.cells #[.int .i64 a, .int .i64 b, .int .i64 c] 23) = v4
  have sv4 : v4.heap.size = w4.heap.size + 1 := by rw [← hX]; simp
  have bv4 : Below w4.heap.size w4 v4 := by rw [← hX]; exact (Below.refl _ _).alloc (Nat.le_refl _) _
  have HYv4 := Lib.hid (show v4.heap[w4.heap.size]? = some (.cells #[.int .i64 a, .int .i64 b, .int .i64 c] 23 (0, 0)) by rw [← hX]; exact heap_alloc_new w4 _)
  have HBv4 := Lib.hid (HBw4.out.trans (bv4.mono HBw4.out.size))
  clear hX
  go_wp2_with fail
  refine (rsplit_any t _ HF.out).mono ?_
  rintro e9 w9 ⟨rfl, rfl⟩
  go_wp2_with fail
  refine (SS.out.ro _).mono ?_
  rintro e w5 ⟨rfl, hbw5⟩
  have HBw5 := Lib.hid (HBv4.out.trans (hbw5.mono HBv4.out.size))
  have HX5 := Lib.hid ((hbw5.block w4.heap.size (by omega)).trans HYv4.out)
  have sw5 := hbw5.size
  clear hbw5
  go_upto_region 10 with fail
  generalize hX : w5.alloc (.cells #[.int .i64 a, .int .i64 b, .int .i64 c] 23) = v5
  have sv5 : v5.heap.size = w5.heap.size + 1 := by rw [← hX]; simp
  have bv5 : Below w5.heap.size w5 v5 := by rw [← hX]; exact (Below.refl _ _).alloc (Nat.le_refl _) _
  have HYv5 := Lib.hid (show v5.heap[w5.heap.size]? = some (.cells #[.int .i64 a, .int .i64 b, .int .i64 c] 23 (0, 0)) by rw [← hX]; exact heap_alloc_new w5 _)
  have HBv5 := Lib.hid (HBw5.out.trans (bv5.mono HBw5.out.size))
  clear hX
  obtain ⟨p0, p1, p2⟩ := row3_cells ((bv5.block w4.heap.size (by omega)).trans HX5.out)
  obtain ⟨r0, r1, r2⟩ := row3_cells HYv5.out
  (obtain ⟨rfl, rfl, rfl⟩ := HS0.out; skip)
  go_wp2_with fail
  refine (awake_any _ (HR.out.below HBv5.out)).mono ?_
  rintro e w6 ⟨rfl, hbw6⟩
  have HBw6 := Lib.hid (HBv5.out.trans (hbw6.mono HBv5.out.size))
  clear p0 p1 p2 r0 r1 r2 hbw6
  go_wp2_with fail
  go_ret
  exact ⟨rfl, HBw6.out⟩
set_option maxRecDepth 100000 in
set_option maxHeartbeats 4000000 in
theorem walk_bad_out (y m d s t a b c : Int) (w : World) (h : Reads w) (hv : ¬ Valid y m d) (hf : Fits t) (hS : SIs t a b c 0 10 false) (hS0 : a = 0 ∧ b = 0 ∧ c = 0) :
    Calls Tryd.prog 3 #[.agg #[.int .i64 y, .int .i64 m, .int .i64 d], .int .i64 s, .int .i64 t] w (One w) := by
  have hA : JIs y m d s 0 10 := fun w hA => join_bad y m d s w hA hv
  have HV := Lib.hid hv
  clear hv
  (have HS0 := Lib.hid hS0; clear hS0)
  have HR := Lib.hid h
  have HBw := Lib.hid (Below.refl w.heap.size w)
  have HF := Lib.hid hf
  have SA := Lib.hid hA
  have SS := Lib.hid hS
  clear h hf hA hS
  go_enter Tryd.func3, Tryd.ntmps3
  go_upto_region 1 with fail
  generalize hX : w.alloc (.cells #[.int .i64 y, .int .i64 m, .int .i64 d] 23) = v0
  have sv0 : v0.heap.size = w.heap.size + 1 := by rw [← hX]; simp
  have bv0 : Below w.heap.size w v0 := by rw [← hX]; exact (Below.refl _ _).alloc (Nat.le_refl _) _
  have HYv0 := Lib.hid (show v0.heap[w.heap.size]? = some (.cells #[.int .i64 y, .int .i64 m, .int .i64 d] 23 (0, 0)) by rw [← hX]; exact heap_alloc_new w _)
  have HBv0 := Lib.hid (HBw.out.trans (bv0.mono HBw.out.size))
  clear hX
  obtain ⟨p0, p1, p2⟩ := row3_cells HYv0.out
  go_wp2_with fail
  refine (SA.out _ (HR.out.below HBv0.out).a).mono ?_
  rintro e w1 ⟨rfl, hbw1⟩
  have HBw1 := Lib.hid (HBv0.out.trans (hbw1.mono HBv0.out.size))
  have HD1 := Lib.hid ((hbw1.block w.heap.size (by omega)).trans HYv0.out)
  have sw1 := hbw1.size
  clear hbw1 p0 p1 p2
  obtain ⟨p0, p1, p2⟩ := row3_cells HD1.out
  go_wp2_with fail
  refine (right_no y m d _ HV.out).mono ?_
  rintro e w2 ⟨rfl, hbw2⟩
  have HBw2 := Lib.hid (HBw1.out.trans (hbw2.mono HBw1.out.size))
  have HD2 := Lib.hid ((hbw2.block w.heap.size (by omega)).trans HD1.out)
  have sw2 := hbw2.size
  clear hbw2 p0 p1 p2
  obtain ⟨p0, p1, p2⟩ := row3_cells HD2.out
  go_wp2_with fail
  refine (SS.out.sp _ (HR.out.below HBw2.out).a).mono ?_
  rintro e w4 ⟨rfl, hbw4⟩
  have HBw4 := Lib.hid (HBw2.out.trans (hbw4.mono HBw2.out.size))
  have sw4 := hbw4.size
  clear hbw4 p0 p1 p2
  go_upto_region 8 with fail
  generalize hX : w4.alloc (.cells #[.int .i64 a, .int .i64 b, .int .i64 c] 23) = v4
  have sv4 : v4.heap.size = w4.heap.size + 1 := by rw [← hX]; simp
  have bv4 : Below w4.heap.size w4 v4 := by rw [← hX]; exact (Below.refl _ _).alloc (Nat.le_refl _) _
  have HYv4 := Lib.hid (show v4.heap[w4.heap.size]? = some (.cells #[.int .i64 a, .int .i64 b, .int .i64 c] 23 (0, 0)) by rw [← hX]; exact heap_alloc_new w4 _)
  have HBv4 := Lib.hid (HBw4.out.trans (bv4.mono HBw4.out.size))
  clear hX
  go_wp2_with fail
  refine (rsplit_any t _ HF.out).mono ?_
  rintro e9 w9 ⟨rfl, rfl⟩
  go_wp2_with fail
  refine (SS.out.ro _).mono ?_
  rintro e w5 ⟨rfl, hbw5⟩
  have HBw5 := Lib.hid (HBv4.out.trans (hbw5.mono HBv4.out.size))
  have HX5 := Lib.hid ((hbw5.block w4.heap.size (by omega)).trans HYv4.out)
  have sw5 := hbw5.size
  clear hbw5
  go_upto_region 10 with fail
  generalize hX : w5.alloc (.cells #[.int .i64 a, .int .i64 b, .int .i64 c] 23) = v5
  have sv5 : v5.heap.size = w5.heap.size + 1 := by rw [← hX]; simp
  have bv5 : Below w5.heap.size w5 v5 := by rw [← hX]; exact (Below.refl _ _).alloc (Nat.le_refl _) _
  have HYv5 := Lib.hid (show v5.heap[w5.heap.size]? = some (.cells #[.int .i64 a, .int .i64 b, .int .i64 c] 23 (0, 0)) by rw [← hX]; exact heap_alloc_new w5 _)
  have HBv5 := Lib.hid (HBw5.out.trans (bv5.mono HBw5.out.size))
  clear hX
  obtain ⟨p0, p1, p2⟩ := row3_cells ((bv5.block w4.heap.size (by omega)).trans HX5.out)
  obtain ⟨r0, r1, r2⟩ := row3_cells HYv5.out
  (obtain ⟨rfl, rfl, rfl⟩ := HS0.out; skip)
  go_wp2_with fail
  refine (awake_any _ (HR.out.below HBv5.out)).mono ?_
  rintro e w6 ⟨rfl, hbw6⟩
  have HBw6 := Lib.hid (HBv5.out.trans (hbw6.mono HBv5.out.size))
  clear p0 p1 p2 r0 r1 r2 hbw6
  go_wp2_with fail
  go_ret
  exact ⟨rfl, HBw6.out⟩
set_option maxRecDepth 100000 in
set_option maxHeartbeats 4000000 in
theorem walk_far_out (y m d s t a b c : Int) (w : World) (h : Reads w) (hv : Valid y m d) (hs : s ≤ -604800 ∨ 604800 ≤ s) (hf : Fits t) (hS : SIs t a b c 0 10 false) (hS0 : a = 0 ∧ b = 0 ∧ c = 0) :
    Calls Tryd.prog 3 #[.agg #[.int .i64 y, .int .i64 m, .int .i64 d], .int .i64 s, .int .i64 t] w (One w) := by
  have hA : JIs y m d s 0 10 := fun w hA => join_far y m d s w hA hv hs
  have HV := Lib.hid hv
  have HS := Lib.hid hs
  clear hv hs
  (have HS0 := Lib.hid hS0; clear hS0)
  have HR := Lib.hid h
  have HBw := Lib.hid (Below.refl w.heap.size w)
  have HF := Lib.hid hf
  have SA := Lib.hid hA
  have SS := Lib.hid hS
  clear h hf hA hS
  go_enter Tryd.func3, Tryd.ntmps3
  go_upto_region 1 with fail
  generalize hX : w.alloc (.cells #[.int .i64 y, .int .i64 m, .int .i64 d] 23) = v0
  have sv0 : v0.heap.size = w.heap.size + 1 := by rw [← hX]; simp
  have bv0 : Below w.heap.size w v0 := by rw [← hX]; exact (Below.refl _ _).alloc (Nat.le_refl _) _
  have HYv0 := Lib.hid (show v0.heap[w.heap.size]? = some (.cells #[.int .i64 y, .int .i64 m, .int .i64 d] 23 (0, 0)) by rw [← hX]; exact heap_alloc_new w _)
  have HBv0 := Lib.hid (HBw.out.trans (bv0.mono HBw.out.size))
  clear hX
  obtain ⟨p0, p1, p2⟩ := row3_cells HYv0.out
  go_wp2_with fail
  refine (SA.out _ (HR.out.below HBv0.out).a).mono ?_
  rintro e w1 ⟨rfl, hbw1⟩
  have HBw1 := Lib.hid (HBv0.out.trans (hbw1.mono HBv0.out.size))
  have HD1 := Lib.hid ((hbw1.block w.heap.size (by omega)).trans HYv0.out)
  have sw1 := hbw1.size
  clear hbw1 p0 p1 p2
  obtain ⟨p0, p1, p2⟩ := row3_cells HD1.out
  go_wp2_with fail
  refine (right_ok y m d _ HV.out).mono ?_
  rintro e w2 ⟨rfl, hbw2⟩
  have HBw2 := Lib.hid (HBw1.out.trans (hbw2.mono HBw1.out.size))
  have HD2 := Lib.hid ((hbw2.block w.heap.size (by omega)).trans HD1.out)
  have sw2 := hbw2.size
  clear hbw2 p0 p1 p2
  obtain ⟨p0, p1, p2⟩ := row3_cells HD2.out
  go_wp2_with fail
  refine (far_yes s _ HS.out).mono ?_
  rintro e9 w9 ⟨rfl, rfl⟩
  go_wp2_with fail
  refine (SS.out.sp _ (HR.out.below HBw2.out).a).mono ?_
  rintro e w4 ⟨rfl, hbw4⟩
  have HBw4 := Lib.hid (HBw2.out.trans (hbw4.mono HBw2.out.size))
  have sw4 := hbw4.size
  clear hbw4 p0 p1 p2
  go_upto_region 8 with fail
  generalize hX : w4.alloc (.cells #[.int .i64 a, .int .i64 b, .int .i64 c] 23) = v4
  have sv4 : v4.heap.size = w4.heap.size + 1 := by rw [← hX]; simp
  have bv4 : Below w4.heap.size w4 v4 := by rw [← hX]; exact (Below.refl _ _).alloc (Nat.le_refl _) _
  have HYv4 := Lib.hid (show v4.heap[w4.heap.size]? = some (.cells #[.int .i64 a, .int .i64 b, .int .i64 c] 23 (0, 0)) by rw [← hX]; exact heap_alloc_new w4 _)
  have HBv4 := Lib.hid (HBw4.out.trans (bv4.mono HBw4.out.size))
  clear hX
  go_wp2_with fail
  refine (rsplit_any t _ HF.out).mono ?_
  rintro e9 w9 ⟨rfl, rfl⟩
  go_wp2_with fail
  refine (SS.out.ro _).mono ?_
  rintro e w5 ⟨rfl, hbw5⟩
  have HBw5 := Lib.hid (HBv4.out.trans (hbw5.mono HBv4.out.size))
  have HX5 := Lib.hid ((hbw5.block w4.heap.size (by omega)).trans HYv4.out)
  have sw5 := hbw5.size
  clear hbw5
  go_upto_region 10 with fail
  generalize hX : w5.alloc (.cells #[.int .i64 a, .int .i64 b, .int .i64 c] 23) = v5
  have sv5 : v5.heap.size = w5.heap.size + 1 := by rw [← hX]; simp
  have bv5 : Below w5.heap.size w5 v5 := by rw [← hX]; exact (Below.refl _ _).alloc (Nat.le_refl _) _
  have HYv5 := Lib.hid (show v5.heap[w5.heap.size]? = some (.cells #[.int .i64 a, .int .i64 b, .int .i64 c] 23 (0, 0)) by rw [← hX]; exact heap_alloc_new w5 _)
  have HBv5 := Lib.hid (HBw5.out.trans (bv5.mono HBw5.out.size))
  clear hX
  obtain ⟨p0, p1, p2⟩ := row3_cells ((bv5.block w4.heap.size (by omega)).trans HX5.out)
  obtain ⟨r0, r1, r2⟩ := row3_cells HYv5.out
  (obtain ⟨rfl, rfl, rfl⟩ := HS0.out; skip)
  go_wp2_with fail
  refine (awake_any _ (HR.out.below HBv5.out)).mono ?_
  rintro e w6 ⟨rfl, hbw6⟩
  have HBw6 := Lib.hid (HBv5.out.trans (hbw6.mono HBv5.out.size))
  clear p0 p1 p2 r0 r1 r2 hbw6
  go_wp2_with fail
  go_ret
  exact ⟨rfl, HBw6.out⟩
theorem walk (y m d s t : Int) (w : World) (h : Reads w) (hf : Fits t) :
    Calls Tryd.prog 3 #[.agg #[.int .i64 y, .int .i64 m, .int .i64 d], .int .i64 s, .int .i64 t] w (One w) := by
  by_cases hr : -37243778 ≤ t / 86400 ∧ t / 86400 ≤ 35805087
  · obtain ⟨a, b, c, hv, hn⟩ := date_ex _ hr
    have hS : SIs t a b c (t % 86400) 0 true := ⟨fun w hA => split_ok a b c t w hA hv hf hn.symm, fun w => hn ▸ rof_ok a b c w hv⟩
    by_cases hy : Valid y m d
    · by_cases hs : s ≤ -604800 ∨ 604800 ≤ s
      · exact walk_far_in y m d s t a b c w h hy hs hf hS trivial
      · exact walk_good_in y m d s t a b c w h hy (by omega) (by omega) hf hS trivial
    · exact walk_bad_in y m d s t a b c w h hy hf hS trivial
  · have hS : SIs t 0 0 0 0 10 false := ⟨fun w _ => split_no t w hf hr, fun w => rof_no _ w hr⟩
    by_cases hy : Valid y m d
    · by_cases hs : s ≤ -604800 ∨ 604800 ≤ s
      · exact walk_far_out y m d s t 0 0 0 w h hy hs hf hS ⟨rfl, rfl, rfl⟩
      · exact walk_good_out y m d s t 0 0 0 w h hy (by omega) (by omega) hf hS ⟨rfl, rfl, rfl⟩
    · exact walk_bad_out y m d s t 0 0 0 w h hy hf hS ⟨rfl, rfl, rfl⟩
end Go.Proofs.YtbejbagpdjfgmaaDoor.clockJoins
