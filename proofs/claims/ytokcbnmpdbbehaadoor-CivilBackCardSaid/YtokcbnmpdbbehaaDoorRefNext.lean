/-
  THE WALK of the document's Next: the date behind a date.
-/
import Derived.Test.YtokcbnmpdbbehaaDoorRefDays
import Derived.Deep.Cut
namespace Go.Proofs.YtokcbnmpdbbehaaDoor
open Go Go.RowKit CivM NumM

set_option maxHeartbeats 2000000 in
theorem rnext_a (y m d : Int) (w : World) (h : Valid y m d) (hd : d < dim y m) :
    Calls Tryd.prog 23 #[.agg #[.int .i64 y, .int .i64 m, .int .i64 d]] w fun e w' => e = .returned (.agg #[.int .i64 y, .int .i64 m, .int .i64 (d + 1)]) ∧ Below w.heap.size w w' := by
  obtain ⟨y1, y2, m1, m2, d1, d2⟩ := h
  have b := dim_bd y m
  obtain ⟨b1, b2⟩ := b
  go_enter Tryd.func23, Tryd.ntmps23
  have HBX := Lib.hid (((Below.refl w.heap.size w).alloc (Nat.le_refl _) (.cells #[.int .i64 y, .int .i64 m, .int .i64 (d + 1)] 23)).alloc (by simp) (.cells #[.int .i64 0, .int .i64 0, .int .i64 0] 23))
  have HZ := Lib.hid (show Dt ((w.alloc (.cells #[.int .i64 y, .int .i64 m, .int .i64 (d + 1)] 23)).alloc (.cells #[.int .i64 0, .int .i64 0, .int .i64 0] 23)) (w.heap.size + 1) 0 0 0 by
    have := Dt.new (w.alloc (.cells #[.int .i64 y, .int .i64 m, .int .i64 (d + 1)] 23)) 0 0 0
    simpa using this)
  go_wp2_with fail
  go_quiet ((go_at_call 15; exact q_same (rlong_any y m _)))
  have HX : Dt (((w.alloc (.cells #[.int .i64 y, .int .i64 m, .int .i64 (d + 1)] 23)).alloc (.cells #[.int .i64 0, .int .i64 0, .int .i64 0] 23)).drewN nq) w.heap.size y m (d + 1) := ((Dt.new w y m (d + 1)).alloc _).drewN nq
  have HY := HZ.out.drewN nq
  have HV := below_drewN HBX.out nq
  generalize ((w.alloc (.cells #[.int .i64 y, .int .i64 m, .int .i64 (d + 1)] 23)).alloc (.cells #[.int .i64 0, .int .i64 0, .int .i64 0] 23)).drewN nq = W at *
  have HX' := Lib.hid HX
  have HY' := Lib.hid HY
  have HV' := Lib.hid HV
  obtain ⟨c0, c1, c2⟩ := HX.cells
  obtain ⟨e0, e1, e2⟩ := HY.cells
  have f0 := HX.free 0
  have f1 := HX.free 1
  have f2 := HX.free 2
  have g0 := HY.free 0
  have g1 := HY.free 1
  have g2 := HY.free 2
  clear HX HY HV
  go_wp2_with fail
  refine ret_row (B := w.heap.size + 1) (cs := #[.int .i64 (y), .int .i64 (m), .int .i64 (d + 1)]) _ rfl rfl rfl (Dt.set2 (Dt.set1 (Dt.set0 (y := 0) (m := 0) (d := 0) ?_ (y)) (m)) (d + 1)) Tryd.underlying23 rfl szD ⟨rfl, ?_⟩
  · repeat refine Dt.far ?_ (by simp) _
    exact HY'.out
  · repeat refine Below.setCell ?_ (by simp) _
    exact HV'.out
set_option maxHeartbeats 2000000 in
theorem rnext_b (y m d : Int) (w : World) (h : Valid y m d) (hd : d = dim y m) (hm : m < 12) :
    Calls Tryd.prog 23 #[.agg #[.int .i64 y, .int .i64 m, .int .i64 d]] w fun e w' => e = .returned (.agg #[.int .i64 y, .int .i64 (m + 1), .int .i64 1]) ∧ Below w.heap.size w w' := by
  obtain ⟨y1, y2, m1, m2, d1, d2⟩ := h
  have hd1 : dim y m ≤ d := by omega
  have b := dim_bd y m
  obtain ⟨b1, b2⟩ := b
  clear hd
  go_enter Tryd.func23, Tryd.ntmps23
  have HBX := Lib.hid (((Below.refl w.heap.size w).alloc (Nat.le_refl _) (.cells #[.int .i64 y, .int .i64 m, .int .i64 (d + 1)] 23)).alloc (by simp) (.cells #[.int .i64 0, .int .i64 0, .int .i64 0] 23))
  have HZ := Lib.hid (show Dt ((w.alloc (.cells #[.int .i64 y, .int .i64 m, .int .i64 (d + 1)] 23)).alloc (.cells #[.int .i64 0, .int .i64 0, .int .i64 0] 23)) (w.heap.size + 1) 0 0 0 by
    have := Dt.new (w.alloc (.cells #[.int .i64 y, .int .i64 m, .int .i64 (d + 1)] 23)) 0 0 0
    simpa using this)
  go_wp2_with fail
  go_quiet ((go_at_call 15; exact q_same (rlong_any y m _)))
  have HX : Dt (((w.alloc (.cells #[.int .i64 y, .int .i64 m, .int .i64 (d + 1)] 23)).alloc (.cells #[.int .i64 0, .int .i64 0, .int .i64 0] 23)).drewN nq) w.heap.size y m (d + 1) := ((Dt.new w y m (d + 1)).alloc _).drewN nq
  have HY := HZ.out.drewN nq
  have HV := below_drewN HBX.out nq
  generalize ((w.alloc (.cells #[.int .i64 y, .int .i64 m, .int .i64 (d + 1)] 23)).alloc (.cells #[.int .i64 0, .int .i64 0, .int .i64 0] 23)).drewN nq = W at *
  have HX' := Lib.hid HX
  have HY' := Lib.hid HY
  have HV' := Lib.hid HV
  obtain ⟨c0, c1, c2⟩ := HX.cells
  obtain ⟨e0, e1, e2⟩ := HY.cells
  have f0 := HX.free 0
  have f1 := HX.free 1
  have f2 := HX.free 2
  have g0 := HY.free 0
  have g1 := HY.free 1
  have g2 := HY.free 2
  clear HX HY HV
  go_wp2_with fail
  refine ret_row (B := w.heap.size + 1) (cs := #[.int .i64 (y), .int .i64 (m + 1), .int .i64 (1)]) _ rfl rfl rfl (Dt.set2 (Dt.set1 (Dt.set0 (y := 0) (m := 0) (d := 0) ?_ (y)) (m + 1)) (1)) Tryd.underlying23 rfl szD ⟨rfl, ?_⟩
  · repeat refine Dt.far ?_ (by simp) _
    exact HY'.out
  · repeat refine Below.setCell ?_ (by simp) _
    exact HV'.out
set_option maxHeartbeats 1000000 in
theorem rnext_c (y d : Int) (w : World) (h : Valid y 12 d) (hd : d = dim y 12) :
    Calls Tryd.prog 23 #[.agg #[.int .i64 y, .int .i64 12, .int .i64 d]] w fun e w' => e = .returned (.agg #[.int .i64 (y + 1), .int .i64 1, .int .i64 1]) ∧ Below w.heap.size w w' := by
  obtain ⟨y1, y2, m1, m2, d1, d2⟩ := h
  have hd1 : dim y 12 ≤ d := by omega
  have b := dim_bd y 12
  obtain ⟨b1, b2⟩ := b
  clear hd m1 m2
  go_enter Tryd.func23, Tryd.ntmps23
  have HBX := Lib.hid (((Below.refl w.heap.size w).alloc (Nat.le_refl _) (.cells #[.int .i64 y, .int .i64 12, .int .i64 (d + 1)] 23)).alloc (by simp) (.cells #[.int .i64 0, .int .i64 0, .int .i64 0] 23))
  have HZ := Lib.hid (show Dt ((w.alloc (.cells #[.int .i64 y, .int .i64 12, .int .i64 (d + 1)] 23)).alloc (.cells #[.int .i64 0, .int .i64 0, .int .i64 0] 23)) (w.heap.size + 1) 0 0 0 by
    have := Dt.new (w.alloc (.cells #[.int .i64 y, .int .i64 12, .int .i64 (d + 1)] 23)) 0 0 0
    simpa using this)
  go_wp2_with fail
  go_quiet ((go_at_call 15; exact q_same (rlong_any y 12 _)))
  have HX : Dt (((w.alloc (.cells #[.int .i64 y, .int .i64 12, .int .i64 (d + 1)] 23)).alloc (.cells #[.int .i64 0, .int .i64 0, .int .i64 0] 23)).drewN nq) w.heap.size y 12 (d + 1) := ((Dt.new w y 12 (d + 1)).alloc _).drewN nq
  have HY := HZ.out.drewN nq
  have HV := below_drewN HBX.out nq
  generalize ((w.alloc (.cells #[.int .i64 y, .int .i64 12, .int .i64 (d + 1)] 23)).alloc (.cells #[.int .i64 0, .int .i64 0, .int .i64 0] 23)).drewN nq = W at *
  have HX' := Lib.hid HX
  have HY' := Lib.hid HY
  have HV' := Lib.hid HV
  obtain ⟨c0, c1, c2⟩ := HX.cells
  obtain ⟨e0, e1, e2⟩ := HY.cells
  have f0 := HX.free 0
  have f1 := HX.free 1
  have f2 := HX.free 2
  have g0 := HY.free 0
  have g1 := HY.free 1
  have g2 := HY.free 2
  clear HX HY HV
  go_upto_region 5 with fail
  have HX2 : Dt ((W.setCell ⟨w.heap.size, 2, none⟩ (.int .i64 1)).setCell ⟨w.heap.size, 1, none⟩ (.int .i64 13)) w.heap.size y 13 1 := (HX'.out.set2 1).set1 13
  have HY2 : Dt ((W.setCell ⟨w.heap.size, 2, none⟩ (.int .i64 1)).setCell ⟨w.heap.size, 1, none⟩ (.int .i64 13)) (w.heap.size + 1) 0 0 0 := (HY'.out.far (by simp) _).far (by simp) _
  have HV2 := (HV'.out.setCell (p := ⟨w.heap.size, 2, none⟩) (Nat.le_refl _) (.int .i64 1)).setCell (p := ⟨w.heap.size, 1, none⟩) (Nat.le_refl _) (.int .i64 13)
  clear c0 c1 c2 e0 e1 e2 f0 f1 f2 g0 g1 g2 HX' HY' HV'
  generalize (W.setCell ⟨w.heap.size, 2, none⟩ (.int .i64 1)).setCell ⟨w.heap.size, 1, none⟩ (.int .i64 13) = V at *
  have HX' := Lib.hid HX2
  have HY' := Lib.hid HY2
  have HV' := Lib.hid HV2
  obtain ⟨c0, c1, c2⟩ := HX2.cells
  obtain ⟨e0, e1, e2⟩ := HY2.cells
  have f0 := HX2.free 0
  have f1 := HX2.free 1
  have f2 := HX2.free 2
  have g0 := HY2.free 0
  have g1 := HY2.free 1
  have g2 := HY2.free 2
  clear HX2 HY2 HV2
  go_wp2_with fail
  refine ret_row (B := w.heap.size + 1) (cs := #[.int .i64 (y + 1), .int .i64 (1), .int .i64 (1)]) _ rfl rfl rfl (Dt.set2 (Dt.set1 (Dt.set0 (y := 0) (m := 0) (d := 0) ?_ (y + 1)) (1)) (1)) Tryd.underlying23 rfl szD ⟨rfl, ?_⟩
  · repeat refine Dt.far ?_ (by simp) _
    exact HY'.out
  · repeat refine Below.setCell ?_ (by simp) _
    exact HV'.out
end Go.Proofs.YtokcbnmpdbbehaaDoor
