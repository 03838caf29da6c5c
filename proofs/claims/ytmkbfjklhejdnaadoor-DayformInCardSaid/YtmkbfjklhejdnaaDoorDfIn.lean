/-
  THE LAW DayformIn, walked.
-/
import Derived.Test.YtmkbfjklhejdnaaDoorInAny
namespace Go.Proofs.YtmkbfjklhejdnaaDoor.dayformIn
open Go Go.RowKit CivM NumM
set_option maxRecDepth 100000 in
set_option maxHeartbeats 2000000 in
theorem walk_not (k wk n y m : Int) (w : World) (h : Reads w) (hm : ¬ MayIn k wk n y m) :
    Calls Tryd.prog 4 #[.agg #[.int .i64 k, .int .i64 wk, .int .i64 n], .int .i64 y, .int .i64 m] w (One w) := by
  have HR := Lib.hid h
  have HBw := Lib.hid (Below.refl w.heap.size w)
  have HM := Lib.hid hm
  clear h hm
  go_enter Tryd.func4, Tryd.ntmps4
  go_upto_region 1 with fail
  generalize hX : w.alloc (.cells #[.int .i64 k, .int .i64 wk, .int .i64 n] 24) = v0
  have sv0 : v0.heap.size = w.heap.size + 1 := by rw [← hX]; simp
  have bv0 : Below w.heap.size w v0 := by rw [← hX]; exact (Below.refl _ _).alloc (Nat.le_refl _) _
  have HYv0 := Lib.hid (show v0.heap[w.heap.size]? = some (.cells #[.int .i64 k, .int .i64 wk, .int .i64 n] 24 (0, 0)) by rw [← hX]; exact heap_alloc_new w _)
  have HBv0 := Lib.hid (HBw.out.trans (bv0.mono HBw.out.size))
  clear hX
  obtain ⟨a0, a1, a2⟩ := row3_cells HYv0.out
  go_wp2_with fail
  refine (in_not k wk n y m _ (HR.out.below HBv0.out).a HM.out).mono ?_
  rintro e w1 ⟨rfl, hbw1⟩
  have HBw1 := Lib.hid (HBv0.out.trans (hbw1.mono HBv0.out.size))
  have HA1 := Lib.hid ((hbw1.block w.heap.size (by omega)).trans HYv0.out)
  have sw1 := hbw1.size
  clear hbw1 a0 a1 a2
  go_upto_region 2 with fail
  generalize hX : w1.alloc (.cells #[.int .i64 0, .int .i64 0, .int .i64 0] 31) = v1
  have sv1 : v1.heap.size = w1.heap.size + 1 := by rw [← hX]; simp
  have bv1 : Below w1.heap.size w1 v1 := by rw [← hX]; exact (Below.refl _ _).alloc (Nat.le_refl _) _
  have HYv1 := Lib.hid (show v1.heap[w1.heap.size]? = some (.cells #[.int .i64 0, .int .i64 0, .int .i64 0] 31 (0, 0)) by rw [← hX]; exact heap_alloc_new w1 _)
  have HBv1 := Lib.hid (HBw1.out.trans (bv1.mono HBw1.out.size))
  clear hX
  obtain ⟨a0, a1, a2⟩ := row3_cells ((bv1.block w.heap.size (by omega)).trans HA1.out)
  go_wp2_with fail
  refine (rin_not k wk n y m _ HM.out).mono ?_
  rintro e w2 ⟨rfl, hbw2⟩
  have HBw2 := Lib.hid (HBv1.out.trans (hbw2.mono HBv1.out.size))
  have HX2 := Lib.hid ((hbw2.block w1.heap.size (by omega)).trans HYv1.out)
  have sw2 := hbw2.size
  clear hbw2 a0 a1 a2
  obtain ⟨a0, a1, a2⟩ := row3_cells HX2.out
  go_wp2_with fail
  refine (awake_any _ (HR.out.below HBw2.out)).mono ?_
  rintro e w3 ⟨rfl, hbw3⟩
  have HBw3 := Lib.hid (HBw2.out.trans (hbw3.mono HBw2.out.size))
  clear a0 a1 a2
  go_wp2_with fail
  go_ret
  exact ⟨rfl, HBw3.out⟩
set_option maxRecDepth 100000 in
set_option maxHeartbeats 2000000 in
theorem walk_far (k wk n y m : Int) (w : World) (h : Reads w) (hm : MayIn k wk n y m) (hf : ¬ (-37243778 ≤ fndD k wk n y m ∧ fndD k wk n y m ≤ 35805087)) :
    Calls Tryd.prog 4 #[.agg #[.int .i64 k, .int .i64 wk, .int .i64 n], .int .i64 y, .int .i64 m] w (One w) := by
  have SI := Lib.hid (fun w hA => (ofV_no hf) ▸ in_may k wk n y m w hA hm)
  have SR := Lib.hid (fun w => rin_may k wk n y m w hm)
  have SO := Lib.hid (fun w => rof_no _ w hf)
  generalize fndD k wk n y m = D at *
  clear hf
  have HR := Lib.hid h
  have HBw := Lib.hid (Below.refl w.heap.size w)
  have HM := Lib.hid hm
  clear h hm
  go_enter Tryd.func4, Tryd.ntmps4
  go_upto_region 1 with fail
  generalize hX : w.alloc (.cells #[.int .i64 k, .int .i64 wk, .int .i64 n] 24) = v0
  have sv0 : v0.heap.size = w.heap.size + 1 := by rw [← hX]; simp
  have bv0 : Below w.heap.size w v0 := by rw [← hX]; exact (Below.refl _ _).alloc (Nat.le_refl _) _
  have HYv0 := Lib.hid (show v0.heap[w.heap.size]? = some (.cells #[.int .i64 k, .int .i64 wk, .int .i64 n] 24 (0, 0)) by rw [← hX]; exact heap_alloc_new w _)
  have HBv0 := Lib.hid (HBw.out.trans (bv0.mono HBw.out.size))
  clear hX
  obtain ⟨a0, a1, a2⟩ := row3_cells HYv0.out
  go_wp2_with fail
  refine (SI.out _ (HR.out.below HBv0.out).a).mono ?_
  rintro e w1 ⟨rfl, hbw1⟩
  have HBw1 := Lib.hid (HBv0.out.trans (hbw1.mono HBv0.out.size))
  have HA1 := Lib.hid ((hbw1.block w.heap.size (by omega)).trans HYv0.out)
  have sw1 := hbw1.size
  clear hbw1 a0 a1 a2
  go_upto_region 2 with fail
  generalize hX : w1.alloc (.cells #[.int .i64 0, .int .i64 0, .int .i64 0] 31) = v1
  have sv1 : v1.heap.size = w1.heap.size + 1 := by rw [← hX]; simp
  have bv1 : Below w1.heap.size w1 v1 := by rw [← hX]; exact (Below.refl _ _).alloc (Nat.le_refl _) _
  have HYv1 := Lib.hid (show v1.heap[w1.heap.size]? = some (.cells #[.int .i64 0, .int .i64 0, .int .i64 0] 31 (0, 0)) by rw [← hX]; exact heap_alloc_new w1 _)
  have HBv1 := Lib.hid (HBw1.out.trans (bv1.mono HBw1.out.size))
  clear hX
  obtain ⟨a0, a1, a2⟩ := row3_cells ((bv1.block w.heap.size (by omega)).trans HA1.out)
  go_wp2_with fail
  refine (SR.out _).mono ?_
  rintro e w2 ⟨rfl, hbw2⟩
  have HBw2 := Lib.hid (HBv1.out.trans (hbw2.mono HBv1.out.size))
  have HX2 := Lib.hid ((hbw2.block w1.heap.size (by omega)).trans HYv1.out)
  have sw2 := hbw2.size
  clear hbw2 a0 a1 a2
  obtain ⟨a0, a1, a2⟩ := row3_cells HX2.out
  go_wp2_with fail
  refine (SO.out _).mono ?_
  rintro e w3 ⟨rfl, hbw3⟩
  have HBw3 := Lib.hid (HBw2.out.trans (hbw3.mono HBw2.out.size))
  have HX3 := Lib.hid ((hbw3.block w1.heap.size (by omega)).trans HX2.out)
  have sw3 := hbw3.size
  clear hbw3 a0 a1 a2
  go_upto_region 6 with fail
  generalize hX : w3.alloc (.cells #[.int .i64 0, .int .i64 0, .int .i64 0] 31) = v3
  have sv3 : v3.heap.size = w3.heap.size + 1 := by rw [← hX]; simp
  have bv3 : Below w3.heap.size w3 v3 := by rw [← hX]; exact (Below.refl _ _).alloc (Nat.le_refl _) _
  have HYv3 := Lib.hid (show v3.heap[w3.heap.size]? = some (.cells #[.int .i64 0, .int .i64 0, .int .i64 0] 31 (0, 0)) by rw [← hX]; exact heap_alloc_new w3 _)
  have HBv3 := Lib.hid (HBw3.out.trans (bv3.mono HBw3.out.size))
  clear hX
  obtain ⟨a0, a1, a2⟩ := row3_cells ((bv3.block w1.heap.size (by omega)).trans HX3.out)
  go_wp2_with fail
  refine (awake_any _ (HR.out.below HBv3.out)).mono ?_
  rintro e w4 ⟨rfl, hbw4⟩
  have HBw4 := Lib.hid (HBv3.out.trans (hbw4.mono HBv3.out.size))
  clear a0 a1 a2
  go_wp2_with fail
  go_ret
  exact ⟨rfl, HBw4.out⟩
set_option maxRecDepth 100000 in
set_option maxHeartbeats 2000000 in
theorem walk_in (k wk n y m y1 m1 d1 : Int) (w : World) (h : Reads w) (hm : MayIn k wk n y m) (hv : Valid y1 m1 d1) (hf : num y1 m1 d1 = fndD k wk n y m) :
    Calls Tryd.prog 4 #[.agg #[.int .i64 k, .int .i64 wk, .int .i64 n], .int .i64 y, .int .i64 m] w (One w) := by
  have SI := Lib.hid (fun w hA => (ofV_ok hv) ▸ hf ▸ in_may k wk n y m w hA hm)
  have SR := Lib.hid (fun w => rin_may k wk n y m w hm)
  have SO := Lib.hid (fun w => hf ▸ rof_ok y1 m1 d1 w hv)
  generalize fndD k wk n y m = D at *
  clear hf hv
  have HR := Lib.hid h
  have HBw := Lib.hid (Below.refl w.heap.size w)
  have HM := Lib.hid hm
  clear h hm
  go_enter Tryd.func4, Tryd.ntmps4
  go_upto_region 1 with fail
  generalize hX : w.alloc (.cells #[.int .i64 k, .int .i64 wk, .int .i64 n] 24) = v0
  have sv0 : v0.heap.size = w.heap.size + 1 := by rw [← hX]; simp
  have bv0 : Below w.heap.size w v0 := by rw [← hX]; exact (Below.refl _ _).alloc (Nat.le_refl _) _
  have HYv0 := Lib.hid (show v0.heap[w.heap.size]? = some (.cells #[.int .i64 k, .int .i64 wk, .int .i64 n] 24 (0, 0)) by rw [← hX]; exact heap_alloc_new w _)
  have HBv0 := Lib.hid (HBw.out.trans (bv0.mono HBw.out.size))
  clear hX
  obtain ⟨a0, a1, a2⟩ := row3_cells HYv0.out
  go_wp2_with fail
  refine (SI.out _ (HR.out.below HBv0.out).a).mono ?_
  rintro e w1 ⟨rfl, hbw1⟩
  have HBw1 := Lib.hid (HBv0.out.trans (hbw1.mono HBv0.out.size))
  have HA1 := Lib.hid ((hbw1.block w.heap.size (by omega)).trans HYv0.out)
  have sw1 := hbw1.size
  clear hbw1 a0 a1 a2
  go_upto_region 2 with fail
  generalize hX : w1.alloc (.cells #[.int .i64 y1, .int .i64 m1, .int .i64 d1] 31) = v1
  have sv1 : v1.heap.size = w1.heap.size + 1 := by rw [← hX]; simp
  have bv1 : Below w1.heap.size w1 v1 := by rw [← hX]; exact (Below.refl _ _).alloc (Nat.le_refl _) _
  have HYv1 := Lib.hid (show v1.heap[w1.heap.size]? = some (.cells #[.int .i64 y1, .int .i64 m1, .int .i64 d1] 31 (0, 0)) by rw [← hX]; exact heap_alloc_new w1 _)
  have HBv1 := Lib.hid (HBw1.out.trans (bv1.mono HBw1.out.size))
  clear hX
  obtain ⟨a0, a1, a2⟩ := row3_cells ((bv1.block w.heap.size (by omega)).trans HA1.out)
  go_wp2_with fail
  refine (SR.out _).mono ?_
  rintro e w2 ⟨rfl, hbw2⟩
  have HBw2 := Lib.hid (HBv1.out.trans (hbw2.mono HBv1.out.size))
  have HX2 := Lib.hid ((hbw2.block w1.heap.size (by omega)).trans HYv1.out)
  have sw2 := hbw2.size
  clear hbw2 a0 a1 a2
  obtain ⟨a0, a1, a2⟩ := row3_cells HX2.out
  go_wp2_with fail
  refine (SO.out _).mono ?_
  rintro e w3 ⟨rfl, hbw3⟩
  have HBw3 := Lib.hid (HBw2.out.trans (hbw3.mono HBw2.out.size))
  have HX3 := Lib.hid ((hbw3.block w1.heap.size (by omega)).trans HX2.out)
  have sw3 := hbw3.size
  clear hbw3 a0 a1 a2
  go_upto_region 6 with fail
  generalize hX : w3.alloc (.cells #[.int .i64 y1, .int .i64 m1, .int .i64 d1] 31) = v3
  have sv3 : v3.heap.size = w3.heap.size + 1 := by rw [← hX]; simp
  have bv3 : Below w3.heap.size w3 v3 := by rw [← hX]; exact (Below.refl _ _).alloc (Nat.le_refl _) _
  have HYv3 := Lib.hid (show v3.heap[w3.heap.size]? = some (.cells #[.int .i64 y1, .int .i64 m1, .int .i64 d1] 31 (0, 0)) by rw [← hX]; exact heap_alloc_new w3 _)
  have HBv3 := Lib.hid (HBw3.out.trans (bv3.mono HBw3.out.size))
  clear hX
  obtain ⟨a0, a1, a2⟩ := row3_cells ((bv3.block w1.heap.size (by omega)).trans HX3.out)
  obtain ⟨b0, b1, b2⟩ := row3_cells HYv3.out
  go_wp2_with fail
  refine (awake_any _ (HR.out.below HBv3.out)).mono ?_
  rintro e w4 ⟨rfl, hbw4⟩
  have HBw4 := Lib.hid (HBv3.out.trans (hbw4.mono HBv3.out.size))
  clear a0 a1 a2 b0 b1 b2
  go_wp2_with fail
  go_ret
  exact ⟨rfl, HBw4.out⟩
theorem walk (k wk n y m : Int) (w : World) (h : Reads w) :
    Calls Tryd.prog 4 #[.agg #[.int .i64 k, .int .i64 wk, .int .i64 n], .int .i64 y, .int .i64 m] w (One w) := by
  by_cases hm : MayIn k wk n y m
  · by_cases hf : -37243778 ≤ fndD k wk n y m ∧ fndD k wk n y m ≤ 35805087
    · obtain ⟨y1, m1, d1, hv, hn⟩ := date_ex _ hf
      exact walk_in k wk n y m y1 m1 d1 w h hm hv hn
    · exact walk_far k wk n y m w h hm hf
  · exact walk_not k wk n y m w h hm
end Go.Proofs.YtmkbfjklhejdnaaDoor.dayformIn
