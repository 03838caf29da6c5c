/-
  THE WALK of dayform.In.
-/
import Derived.Scope
import Derived.WalkMore
import Derived.Test.YtmkbfjklhejdnaaDoorCheckD
import Derived.Test.YtmkbfjklhejdnaaDoorCivOf
import Derived.Test.YtmkbfjklhejdnaaDoorFrom
import Derived.Test.YtmkbfjklhejdnaaDoorRoundQuiet
import Derived.Test.YtmkbfjklhejdnaaDoorOwnSeqA
namespace Go.Proofs.YtmkbfjklhejdnaaDoor
open Go Go.RowKit CivM NumM
attribute [local go_sem] Oper.semAt_some
theorem res_row_tmp {P : Program} {fn : Func} {p u : Tmp} {ty t : TypeId} {cs : Array Value} {tmps : Array Value} {w : World} {B : Nat} (fs : TypeDesc) (hr : fn.results = #[.cell p ty, .tmp u]) (hp : tmps.getD p undef = .pointer (some ⟨B, 0, none⟩))
    (h : w.heap[B]? = some (.cells cs t (0, 0))) (hu : P.underlying ty = some fs) (hf : (match fs with | .struct _ | .array _ _ => true | _ => false) = true) (hi : (P.info? ty).map (·.size) = some cs.size) : (results fn tmps).run P w = .ok (.tuple #[.agg cs, tmps.getD u undef]) w := by
  rw [results_cell_tmp hr, hp]
  show ((loadVar ty ⟨B, 0, none⟩).run P w).andThen _ = _
  rw [run_loadVar_row w B t ty cs (0, 0) fs h hu hf hi]
  rfl
abbrev noD : Value := .tuple #[.agg #[.int .i64 0, .int .i64 0, .int .i64 0], .int .i64 10]
abbrev okD (y m d : Int) : Value := .tuple #[.agg #[.int .i64 y, .int .i64 m, .int .i64 d], .int .i64 0]
set_option maxRecDepth 100000 in
set_option maxHeartbeats 4000000 in
theorem in_wrong (k wk n y m : Int) (w : World) (hA : Ahead w) (h : ¬ RightD k wk n) :
    Calls Tryd.prog 13 #[.agg #[.int .i64 k, .int .i64 wk, .int .i64 n], .int .i64 y, .int .i64 m] w fun e w' => e = .returned noD ∧ Below w.heap.size w w' := by
  have EC := Lib.hid (chkV_no h)
  have HAw := Lib.hid hA
  clear h hA
  refine (callsIn_wide (n := 9)).1 ?_
  refine callsIn_of_wp_marks Tryd.func13 rfl trivial ?_ rfl
  simp only [Tryd.ntmps13, List.size_toArray, List.length_cons, List.length_nil, Nat.reduceAdd, Nat.reduceSub, Array.replicate_succ, Array.replicate_zero, List.push_toArray, List.append_toArray, List.nil_append, List.cons_append]
  refine wpIn_wide.2 ?_
  go_wp2_with fail
  go_step3
  have hA0 : Ahead ((w.alloc (.cells #[.int .i64 k, .int .i64 wk, .int .i64 n] 24)).alloc (.cells #[.int .i64 0, .int .i64 0, .int .i64 0] 31)) := HAw.out.below (((Below.refl _ _).alloc (Nat.le_refl _) _).alloc (by simp only [World.size_alloc]; omega) _)
  generalize hW0 : (w.alloc (.cells #[.int .i64 k, .int .i64 wk, .int .i64 n] 24)).alloc (.cells #[.int .i64 0, .int .i64 0, .int .i64 0] 31) = W0 at *
  have kD : DyB W0 w.heap.size k wk n := by
    rw [← hW0]
    exact (Below.heap_alloc _ _ _ (by simp only [World.size_alloc]; omega)).trans (DyB.new w k wk n)
  have kR : Dt W0 (w.heap.size + 1) 0 0 0 := by
    rw [← hW0]
    have := Dt.new (w.alloc (.cells #[.int .i64 k, .int .i64 wk, .int .i64 n] 24)) 0 0 0
    simpa using this
  have hB0 : Below w.heap.size w W0 := by
    rw [← hW0]
    exact ((Below.refl _ _).alloc (Nat.le_refl _) _).alloc (by simp only [World.size_alloc]; omega) _
  have s0 : W0.heap.size = w.heap.size + 2 := by rw [← hW0]; simp
  clear hW0
  obtain ⟨c0, c1, c2⟩ := kD.cells
  obtain ⟨r0, r1, r2⟩ := kR.cells
  have HD := Lib.hid kD
  have HR := Lib.hid kR
  have HB0 := Lib.hid hB0
  have HA0 := Lib.hid hA0
  clear kD kR hB0 hA0
  go_wp2_with fail
  refine (check_day k wk n _).mono ?_
  rintro e W1 ⟨rfl, b1⟩
  have c0' := (b1.cell (p := ⟨w.heap.size, 0, none⟩) (by simp only; omega)).trans c0
  have c1' := (b1.cell (p := ⟨w.heap.size, 1, none⟩) (by simp only; omega)).trans c1
  have c2' := (b1.cell (p := ⟨w.heap.size, 2, none⟩) (by simp only; omega)).trans c2
  have r0' := (b1.cell (p := ⟨w.heap.size + 1, 0, none⟩) (by simp only; omega)).trans r0
  have r1' := (b1.cell (p := ⟨w.heap.size + 1, 1, none⟩) (by simp only; omega)).trans r1
  have r2' := (b1.cell (p := ⟨w.heap.size + 1, 2, none⟩) (by simp only; omega)).trans r2
  have HD1 := Lib.hid (HD.out.below b1 (by omega))
  have HR1 := Lib.hid (HR.out.below b1 (by omega))
  have HA1 := Lib.hid (HA0.out.below b1)
  have HB1 := Lib.hid (HB0.out.trans (b1.mono (by omega)))
  have s1 : w.heap.size + 2 ≤ W1.heap.size := by have := b1.size; omega
  have f0 := HR1.out.free 0
  have f1 := HR1.out.free 1
  have f2 := HR1.out.free 2
  clear c0 c1 c2 r0 r1 r2 HD HR HA0 b1 HB0 s0
  rw [EC.out]
  go_wp2_with fail
  rw [Exit.noGoto_ret]
  exact ⟨_, res_row_tmp (B := w.heap.size + 1) _ rfl rfl (((HR1.out.set0 _).set1 _).set2 _) Tryd.underlying31 rfl szD, rfl, ((HB1.out.setCell (by simp only; omega) _).setCell (by simp only; omega) _).setCell (by simp only; omega) _⟩
set_option maxRecDepth 100000 in
set_option maxHeartbeats 4000000 in
theorem in_off (k wk n y m : Int) (w : World) (hA : Ahead w) (h : RightD k wk n) (hl : ¬ (-100000 ≤ y ∧ y ≤ 100000 ∧ 1 ≤ m ∧ m ≤ 12)) :
    Calls Tryd.prog 13 #[.agg #[.int .i64 k, .int .i64 wk, .int .i64 n], .int .i64 y, .int .i64 m] w fun e w' => e = .returned noD ∧ Below w.heap.size w w' := by
  have EC := Lib.hid (chkV_ok h)
  have HAw := Lib.hid hA
  have HL := Lib.hid hl
  clear h hA hl
  refine (callsIn_wide (n := 9)).1 ?_
  refine callsIn_of_wp_marks Tryd.func13 rfl trivial ?_ rfl
  simp only [Tryd.ntmps13, List.size_toArray, List.length_cons, List.length_nil, Nat.reduceAdd, Nat.reduceSub, Array.replicate_succ, Array.replicate_zero, List.push_toArray, List.append_toArray, List.nil_append, List.cons_append]
  refine wpIn_wide.2 ?_
  go_wp2_with fail
  go_step3
  have hA0 : Ahead ((w.alloc (.cells #[.int .i64 k, .int .i64 wk, .int .i64 n] 24)).alloc (.cells #[.int .i64 0, .int .i64 0, .int .i64 0] 31)) := HAw.out.below (((Below.refl _ _).alloc (Nat.le_refl _) _).alloc (by simp only [World.size_alloc]; omega) _)
  generalize hW0 : (w.alloc (.cells #[.int .i64 k, .int .i64 wk, .int .i64 n] 24)).alloc (.cells #[.int .i64 0, .int .i64 0, .int .i64 0] 31) = W0 at *
  have kD : DyB W0 w.heap.size k wk n := by
    rw [← hW0]
    exact (Below.heap_alloc _ _ _ (by simp only [World.size_alloc]; omega)).trans (DyB.new w k wk n)
  have kR : Dt W0 (w.heap.size + 1) 0 0 0 := by
    rw [← hW0]
    have := Dt.new (w.alloc (.cells #[.int .i64 k, .int .i64 wk, .int .i64 n] 24)) 0 0 0
    simpa using this
  have hB0 : Below w.heap.size w W0 := by
    rw [← hW0]
    exact ((Below.refl _ _).alloc (Nat.le_refl _) _).alloc (by simp only [World.size_alloc]; omega) _
  have s0 : W0.heap.size = w.heap.size + 2 := by rw [← hW0]; simp
  clear hW0
  obtain ⟨c0, c1, c2⟩ := kD.cells
  obtain ⟨r0, r1, r2⟩ := kR.cells
  have HD := Lib.hid kD
  have HR := Lib.hid kR
  have HB0 := Lib.hid hB0
  have HA0 := Lib.hid hA0
  clear kD kR hB0 hA0
  go_wp2_with fail
  refine (check_day k wk n _).mono ?_
  rintro e W1 ⟨rfl, b1⟩
  have c0' := (b1.cell (p := ⟨w.heap.size, 0, none⟩) (by simp only; omega)).trans c0
  have c1' := (b1.cell (p := ⟨w.heap.size, 1, none⟩) (by simp only; omega)).trans c1
  have c2' := (b1.cell (p := ⟨w.heap.size, 2, none⟩) (by simp only; omega)).trans c2
  have r0' := (b1.cell (p := ⟨w.heap.size + 1, 0, none⟩) (by simp only; omega)).trans r0
  have r1' := (b1.cell (p := ⟨w.heap.size + 1, 1, none⟩) (by simp only; omega)).trans r1
  have r2' := (b1.cell (p := ⟨w.heap.size + 1, 2, none⟩) (by simp only; omega)).trans r2
  have HD1 := Lib.hid (HD.out.below b1 (by omega))
  have HR1 := Lib.hid (HR.out.below b1 (by omega))
  have HA1 := Lib.hid (HA0.out.below b1)
  have HB1 := Lib.hid (HB0.out.trans (b1.mono (by omega)))
  have s1 : w.heap.size + 2 ≤ W1.heap.size := by have := b1.size; omega
  have f0 := HR1.out.free 0
  have f1 := HR1.out.free 1
  have f2 := HR1.out.free 2
  clear c0 c1 c2 r0 r1 r2 HD HR HA0 b1 HB0 s0
  rw [EC.out]
  go_wp2_with fail
  refine (long_no y m _ HL.out).mono ?_
  rintro e w9 ⟨rfl, rfl⟩
  go_wp2_with fail
  rw [Exit.noGoto_ret]
  exact ⟨_, res_row_tmp (B := w.heap.size + 1) _ rfl rfl (((HR1.out.set0 _).set1 _).set2 _) Tryd.underlying31 rfl szD, rfl, ((HB1.out.setCell (by simp only; omega) _).setCell (by simp only; omega) _).setCell (by simp only; omega) _⟩
set_option maxRecDepth 100000 in
set_option maxHeartbeats 4000000 in
theorem in_many (k wk n y m : Int) (w : World) (hA : Ahead w) (h : RightD k wk n) (hl : -100000 ≤ y ∧ y ≤ 100000 ∧ 1 ≤ m ∧ m ≤ 12) (hn : dim y m < n) :
    Calls Tryd.prog 13 #[.agg #[.int .i64 k, .int .i64 wk, .int .i64 n], .int .i64 y, .int .i64 m] w fun e w' => e = .returned noD ∧ Below w.heap.size w w' := by
  have EC := Lib.hid (chkV_ok h)
  have HAw := Lib.hid hA
  have HL := Lib.hid hl
  clear h hA hl
  refine (callsIn_wide (n := 9)).1 ?_
  refine callsIn_of_wp_marks Tryd.func13 rfl trivial ?_ rfl
  simp only [Tryd.ntmps13, List.size_toArray, List.length_cons, List.length_nil, Nat.reduceAdd, Nat.reduceSub, Array.replicate_succ, Array.replicate_zero, List.push_toArray, List.append_toArray, List.nil_append, List.cons_append]
  refine wpIn_wide.2 ?_
  go_wp2_with fail
  go_step3
  have hA0 : Ahead ((w.alloc (.cells #[.int .i64 k, .int .i64 wk, .int .i64 n] 24)).alloc (.cells #[.int .i64 0, .int .i64 0, .int .i64 0] 31)) := HAw.out.below (((Below.refl _ _).alloc (Nat.le_refl _) _).alloc (by simp only [World.size_alloc]; omega) _)
  generalize hW0 : (w.alloc (.cells #[.int .i64 k, .int .i64 wk, .int .i64 n] 24)).alloc (.cells #[.int .i64 0, .int .i64 0, .int .i64 0] 31) = W0 at *
  have kD : DyB W0 w.heap.size k wk n := by
    rw [← hW0]
    exact (Below.heap_alloc _ _ _ (by simp only [World.size_alloc]; omega)).trans (DyB.new w k wk n)
  have kR : Dt W0 (w.heap.size + 1) 0 0 0 := by
    rw [← hW0]
    have := Dt.new (w.alloc (.cells #[.int .i64 k, .int .i64 wk, .int .i64 n] 24)) 0 0 0
    simpa using this
  have hB0 : Below w.heap.size w W0 := by
    rw [← hW0]
    exact ((Below.refl _ _).alloc (Nat.le_refl _) _).alloc (by simp only [World.size_alloc]; omega) _
  have s0 : W0.heap.size = w.heap.size + 2 := by rw [← hW0]; simp
  clear hW0
  obtain ⟨c0, c1, c2⟩ := kD.cells
  obtain ⟨r0, r1, r2⟩ := kR.cells
  have HD := Lib.hid kD
  have HR := Lib.hid kR
  have HB0 := Lib.hid hB0
  have HA0 := Lib.hid hA0
  clear kD kR hB0 hA0
  go_wp2_with fail
  refine (check_day k wk n _).mono ?_
  rintro e W1 ⟨rfl, b1⟩
  have c0' := (b1.cell (p := ⟨w.heap.size, 0, none⟩) (by simp only; omega)).trans c0
  have c1' := (b1.cell (p := ⟨w.heap.size, 1, none⟩) (by simp only; omega)).trans c1
  have c2' := (b1.cell (p := ⟨w.heap.size, 2, none⟩) (by simp only; omega)).trans c2
  have r0' := (b1.cell (p := ⟨w.heap.size + 1, 0, none⟩) (by simp only; omega)).trans r0
  have r1' := (b1.cell (p := ⟨w.heap.size + 1, 1, none⟩) (by simp only; omega)).trans r1
  have r2' := (b1.cell (p := ⟨w.heap.size + 1, 2, none⟩) (by simp only; omega)).trans r2
  have HD1 := Lib.hid (HD.out.below b1 (by omega))
  have HR1 := Lib.hid (HR.out.below b1 (by omega))
  have HA1 := Lib.hid (HA0.out.below b1)
  have HB1 := Lib.hid (HB0.out.trans (b1.mono (by omega)))
  have s1 : w.heap.size + 2 ≤ W1.heap.size := by have := b1.size; omega
  have f0 := HR1.out.free 0
  have f1 := HR1.out.free 1
  have f2 := HR1.out.free 2
  clear c0 c1 c2 r0 r1 r2 HD HR HA0 b1 HB0 s0
  rw [EC.out]
  go_wp2_with fail
  refine (long_ok y m _ HA1.out HL.out.1 HL.out.2.1 HL.out.2.2.1 HL.out.2.2.2).mono ?_
  rintro e W2 ⟨rfl, b1⟩
  have c0 := (b1.cell (p := ⟨w.heap.size, 0, none⟩) (by simp only; omega)).trans c0'
  have c1 := (b1.cell (p := ⟨w.heap.size, 1, none⟩) (by simp only; omega)).trans c1'
  have c2 := (b1.cell (p := ⟨w.heap.size, 2, none⟩) (by simp only; omega)).trans c2'
  have r0 := (b1.cell (p := ⟨w.heap.size + 1, 0, none⟩) (by simp only; omega)).trans r0'
  have r1 := (b1.cell (p := ⟨w.heap.size + 1, 1, none⟩) (by simp only; omega)).trans r1'
  have r2 := (b1.cell (p := ⟨w.heap.size + 1, 2, none⟩) (by simp only; omega)).trans r2'
  have HD2 := Lib.hid (HD1.out.below b1 (by omega))
  have HR2 := Lib.hid (HR1.out.below b1 (by omega))
  have HA2 := Lib.hid (HA1.out.below b1)
  have HB2 := Lib.hid (HB1.out.trans (b1.mono (by omega)))
  have s2 : w.heap.size + 2 ≤ W2.heap.size := by have := b1.size; omega
  clear f0 f1 f2
  have f0 := HR2.out.free 0
  have f1 := HR2.out.free 1
  have f2 := HR2.out.free 2
  clear c0' c1' c2' r0' r1' r2' HD1 HR1 HA1 b1 HB1 s1
  obtain ⟨L, hL⟩ : ∃ L, dim y m = L := ⟨_, rfl⟩
  have HLm := Lib.hid hL
  rw [hL] at hn ⊢
  clear hL
  go_wp2_with fail
  rw [Exit.noGoto_ret]
  exact ⟨_, res_row_tmp (B := w.heap.size + 1) _ rfl rfl (((HR2.out.set0 _).set1 _).set2 _) Tryd.underlying31 rfl szD, rfl, ((HB2.out.setCell (by simp only; omega) _).setCell (by simp only; omega) _).setCell (by simp only; omega) _⟩
set_option maxRecDepth 100000 in
set_option maxHeartbeats 4000000 in
theorem in_fixed (wk n y m : Int) (w : World) (hA : Ahead w) (h : RightD 0 wk n) (hl : -100000 ≤ y ∧ y ≤ 100000 ∧ 1 ≤ m ∧ m ≤ 12) (hn : n ≤ dim y m) :
    Calls Tryd.prog 13 #[.agg #[.int .i64 0, .int .i64 wk, .int .i64 n], .int .i64 y, .int .i64 m] w fun e w' => e = .returned (okD y m n) ∧ Below w.heap.size w w' := by
  obtain ⟨k, hk⟩ : ∃ k : Int, k = 0 := ⟨_, rfl⟩
  rw [← hk] at h ⊢
  have HK0 := Lib.hid hk
  clear hk
  have EC := Lib.hid (chkV_ok h)
  have HAw := Lib.hid hA
  have HL := Lib.hid hl
  clear h hA hl
  refine (callsIn_wide (n := 9)).1 ?_
  refine callsIn_of_wp_marks Tryd.func13 rfl trivial ?_ rfl
  simp only [Tryd.ntmps13, List.size_toArray, List.length_cons, List.length_nil, Nat.reduceAdd, Nat.reduceSub, Array.replicate_succ, Array.replicate_zero, List.push_toArray, List.append_toArray, List.nil_append, List.cons_append]
  refine wpIn_wide.2 ?_
  go_wp2_with fail
  go_step3
  have hA0 : Ahead ((w.alloc (.cells #[.int .i64 k, .int .i64 wk, .int .i64 n] 24)).alloc (.cells #[.int .i64 0, .int .i64 0, .int .i64 0] 31)) := HAw.out.below (((Below.refl _ _).alloc (Nat.le_refl _) _).alloc (by simp only [World.size_alloc]; omega) _)
  generalize hW0 : (w.alloc (.cells #[.int .i64 k, .int .i64 wk, .int .i64 n] 24)).alloc (.cells #[.int .i64 0, .int .i64 0, .int .i64 0] 31) = W0 at *
  have kD : DyB W0 w.heap.size k wk n := by
    rw [← hW0]
    exact (Below.heap_alloc _ _ _ (by simp only [World.size_alloc]; omega)).trans (DyB.new w k wk n)
  have kR : Dt W0 (w.heap.size + 1) 0 0 0 := by
    rw [← hW0]
    have := Dt.new (w.alloc (.cells #[.int .i64 k, .int .i64 wk, .int .i64 n] 24)) 0 0 0
    simpa using this
  have hB0 : Below w.heap.size w W0 := by
    rw [← hW0]
    exact ((Below.refl _ _).alloc (Nat.le_refl _) _).alloc (by simp only [World.size_alloc]; omega) _
  have s0 : W0.heap.size = w.heap.size + 2 := by rw [← hW0]; simp
  clear hW0
  obtain ⟨c0, c1, c2⟩ := kD.cells
  obtain ⟨r0, r1, r2⟩ := kR.cells
  have HD := Lib.hid kD
  have HR := Lib.hid kR
  have HB0 := Lib.hid hB0
  have HA0 := Lib.hid hA0
  clear kD kR hB0 hA0
  go_wp2_with fail
  refine (check_day k wk n _).mono ?_
  rintro e W1 ⟨rfl, b1⟩
  have c0' := (b1.cell (p := ⟨w.heap.size, 0, none⟩) (by simp only; omega)).trans c0
  have c1' := (b1.cell (p := ⟨w.heap.size, 1, none⟩) (by simp only; omega)).trans c1
  have c2' := (b1.cell (p := ⟨w.heap.size, 2, none⟩) (by simp only; omega)).trans c2
  have r0' := (b1.cell (p := ⟨w.heap.size + 1, 0, none⟩) (by simp only; omega)).trans r0
  have r1' := (b1.cell (p := ⟨w.heap.size + 1, 1, none⟩) (by simp only; omega)).trans r1
  have r2' := (b1.cell (p := ⟨w.heap.size + 1, 2, none⟩) (by simp only; omega)).trans r2
  have HD1 := Lib.hid (HD.out.below b1 (by omega))
  have HR1 := Lib.hid (HR.out.below b1 (by omega))
  have HA1 := Lib.hid (HA0.out.below b1)
  have HB1 := Lib.hid (HB0.out.trans (b1.mono (by omega)))
  have s1 : w.heap.size + 2 ≤ W1.heap.size := by have := b1.size; omega
  have f0 := HR1.out.free 0
  have f1 := HR1.out.free 1
  have f2 := HR1.out.free 2
  clear c0 c1 c2 r0 r1 r2 HD HR HA0 b1 HB0 s0
  rw [EC.out]
  go_wp2_with fail
  refine (long_ok y m _ HA1.out HL.out.1 HL.out.2.1 HL.out.2.2.1 HL.out.2.2.2).mono ?_
  rintro e W2 ⟨rfl, b1⟩
  have c0 := (b1.cell (p := ⟨w.heap.size, 0, none⟩) (by simp only; omega)).trans c0'
  have c1 := (b1.cell (p := ⟨w.heap.size, 1, none⟩) (by simp only; omega)).trans c1'
  have c2 := (b1.cell (p := ⟨w.heap.size, 2, none⟩) (by simp only; omega)).trans c2'
  have r0 := (b1.cell (p := ⟨w.heap.size + 1, 0, none⟩) (by simp only; omega)).trans r0'
  have r1 := (b1.cell (p := ⟨w.heap.size + 1, 1, none⟩) (by simp only; omega)).trans r1'
  have r2 := (b1.cell (p := ⟨w.heap.size + 1, 2, none⟩) (by simp only; omega)).trans r2'
  have HD2 := Lib.hid (HD1.out.below b1 (by omega))
  have HR2 := Lib.hid (HR1.out.below b1 (by omega))
  have HA2 := Lib.hid (HA1.out.below b1)
  have HB2 := Lib.hid (HB1.out.trans (b1.mono (by omega)))
  have s2 : w.heap.size + 2 ≤ W2.heap.size := by have := b1.size; omega
  clear f0 f1 f2
  have f0 := HR2.out.free 0
  have f1 := HR2.out.free 1
  have f2 := HR2.out.free 2
  clear c0' c1' c2' r0' r1' r2' HD1 HR1 HA1 b1 HB1 s1
  obtain ⟨L, hL⟩ : ∃ L, dim y m = L := ⟨_, rfl⟩
  have HLm := Lib.hid hL
  rw [hL] at hn ⊢
  clear hL
  have hk := HK0.out
  clear HK0
  subst hk
  go_wp2_with fail
  rw [Exit.noGoto_ret]
  exact ⟨_, res_row_tmp (B := w.heap.size + 1) _ rfl rfl (((HR2.out.set0 _).set1 _).set2 _) Tryd.underlying31 rfl szD, rfl, ((HB2.out.setCell (by simp only; omega) _).setCell (by simp only; omega) _).setCell (by simp only; omega) _⟩
end Go.Proofs.YtmkbfjklhejdnaaDoor
