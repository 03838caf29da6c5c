/-
  THE WALK of dayform.Check, and of the document's Right.
-/
import Derived.Test.YtmkbfjklhejdnaaDoorCivDays
import Derived.Test.YtmkbfjklhejdnaaDoorQuiet
namespace Go.Proofs.YtmkbfjklhejdnaaDoor
open Go Go.RowKit

/-- a day of a month that may be -/
def RightD (k wk n : Int) : Prop := (k = 0 ∧ wk = 0 ∧ 1 ≤ n ∧ n ≤ 31) ∨ (k = 1 ∧ n = 0 ∧ 0 ≤ wk ∧ wk ≤ 6) ∨ ((k = 2 ∨ k = 3) ∧ 1 ≤ n ∧ n ≤ 31 ∧ 0 ≤ wk ∧ wk ≤ 6)
instance (k wk n : Int) : Decidable (RightD k wk n) := by unfold RightD; infer_instance
def chkV (k wk n : Int) : Value := .int .i64 (if RightD k wk n then 0 else 10)
theorem chkV_ok {k wk n : Int} (h : RightD k wk n) : chkV k wk n = .int .i64 0 := by unfold chkV; rw [if_pos h]
theorem chkV_no {k wk n : Int} (h : ¬ RightD k wk n) : chkV k wk n = .int .i64 10 := by unfold chkV; rw [if_neg h]
def DyB (w : World) (B : Nat) (k wk n : Int) : Prop := w.heap[B]? = some (.cells #[.int .i64 k, .int .i64 wk, .int .i64 n] 24 (0, 0))
theorem DyB.new (w : World) (k wk n : Int) : DyB (w.alloc (.cells #[.int .i64 k, .int .i64 wk, .int .i64 n] 24)) w.heap.size k wk n := heap_alloc_new w _
theorem DyB.cells {w : World} {B : Nat} {k wk n : Int} (h : DyB w B k wk n) : w.cell? ⟨B, 0, none⟩ = some (.int .i64 k) ∧ w.cell? ⟨B, 1, none⟩ = some (.int .i64 wk) ∧ w.cell? ⟨B, 2, none⟩ = some (.int .i64 n) :=
  ⟨cell_of_row w B 0 _ _ _ h, cell_of_row w B 1 _ _ _ h, cell_of_row w B 2 _ _ _ h⟩
theorem DyB.below {w w' : World} {B D : Nat} {k wk n : Int} (h : DyB w B k wk n) (hb : Below D w w') (hB : B < D) : DyB w' B k wk n := (hb.block B hB).trans h
set_option maxHeartbeats 4000000 in
theorem check_day1a (k wk n : Int) (w : World) (n1 : n < 1) (m1 : (decide (1 ≤ n)) = false) (w1 : wk < 0) (m2 : (decide (0 ≤ wk)) = false) : Calls Tryd.prog 12 #[.agg #[.int .i64 k, .int .i64 wk, .int .i64 n]] w fun e w' => e = .returned (chkV k wk n) ∧ Below w.heap.size w w' := by
  go_enter Tryd.func12, Tryd.ntmps12
  go_wp2_with fail
  have D0 := DyB.new w k wk n
  have b0 : Below w.heap.size w (w.alloc (.cells #[.int .i64 k, .int .i64 wk, .int .i64 n] 24)) := (Below.refl _ _).alloc (Nat.le_refl _) _
  have B0 := Lib.hid b0
  clear b0
  generalize w.alloc (.cells #[.int .i64 k, .int .i64 wk, .int .i64 n] 24) = W at *
  obtain ⟨c0, c1, c2⟩ := D0.cells
  have hs : w.heap.size < W.heap.size := (Array.getElem?_eq_some_iff.1 D0).1
  have bK := bw_cell c0
  have bW := bw_cell c1
  have bN := bw_cell c2
  have hne := bw_ne W
  refine wp_region_bw (by kernel_rfl) (by kernel_rfl) ?_
  repeat (go_big_quiet_step (fail))
  refine wpQuiet_nil ?_
  rintro W3 ⟨v3, e3⟩
  have hb3 := v3.2
  rw [← e3] at hb3
  have D3 := D0.below hb3 hs
  have HB3 := Lib.hid (B0.out.trans (hb3.mono (by omega)))
  clear e3 v3 hb3 bK bW bN hne D0 c0 c1 c2
  obtain ⟨c0, c1, c2⟩ := D3.cells
  clear D3
  by_cases k0 : k = 0
  · subst k0
    by_cases z : wk = 0
    · have EV := Lib.hid (chkV_no (k := 0) (wk := wk) (n := n) (by unfold RightD; omega))
      have q : (wk == 0) = true := by simpa using z
      first
      | (exfalso; omega)
      | (try clear z
         go_wp2_with fail
         go_ret
         exact ⟨by rw [EV.out]; rfl, HB3.out⟩)
    · have q : (wk == 0) = false := by simpa using z
      have EV := Lib.hid (chkV_no (k := 0) (wk := wk) (n := n) (by unfold RightD; omega))
      first
      | (exfalso; omega)
      | (try clear z
         go_wp2_with fail
         go_ret
         exact ⟨by rw [EV.out]; rfl, HB3.out⟩)
  · by_cases k1 : k = 1
    · subst k1
      by_cases z : n = 0
      · have EV := Lib.hid (chkV_no (k := 1) (wk := wk) (n := n) (by unfold RightD; omega))
        have q : (n == 0) = true := by simpa using z
        first
        | (exfalso; omega)
        | (try clear z
           go_wp2_with fail
           go_ret
           exact ⟨by rw [EV.out]; rfl, HB3.out⟩)
      · have q : (n == 0) = false := by simpa using z
        have EV := Lib.hid (chkV_no (k := 1) (wk := wk) (n := n) (by unfold RightD; omega))
        first
        | (exfalso; omega)
        | (try clear z
           go_wp2_with fail
           go_ret
           exact ⟨by rw [EV.out]; rfl, HB3.out⟩)
    · by_cases k2 : k = 2
      · subst k2
        have EV := Lib.hid (chkV_no (k := 2) (wk := wk) (n := n) (by unfold RightD; omega))
        first
        | (exfalso; omega)
        | (try clear z
           go_wp2_with fail
           go_ret
           exact ⟨by rw [EV.out]; rfl, HB3.out⟩)
      · by_cases k3 : k = 3
        · subst k3
          have EV := Lib.hid (chkV_no (k := 3) (wk := wk) (n := n) (by unfold RightD; omega))
          first
          | (exfalso; omega)
          | (try clear z
             go_wp2_with fail
             go_ret
             exact ⟨by rw [EV.out]; rfl, HB3.out⟩)
        · have EV := Lib.hid (chkV_no (k := k) (wk := wk) (n := n) (by unfold RightD; omega))
          have q0 : (k == 0) = false := by simpa using k0
          have q1 : (k == 1) = false := by simpa using k1
          have q2 : (k == 2) = false := by simpa using k2
          have q3 : (k == 3) = false := by simpa using k3
          clear k0 k1 k2 k3
          first
          | (exfalso; omega)
          | (try clear z
             go_wp2_with fail
             go_ret
             exact ⟨by rw [EV.out]; rfl, HB3.out⟩)
set_option maxHeartbeats 4000000 in
theorem check_day1b (k wk n : Int) (w : World) (n1 : n < 1) (m1 : (decide (1 ≤ n)) = false) (w1 : 7 ≤ wk) (w2 : 0 ≤ wk) (m2 : (decide (wk < 7)) = false) : Calls Tryd.prog 12 #[.agg #[.int .i64 k, .int .i64 wk, .int .i64 n]] w fun e w' => e = .returned (chkV k wk n) ∧ Below w.heap.size w w' := by
  go_enter Tryd.func12, Tryd.ntmps12
  go_wp2_with fail
  have D0 := DyB.new w k wk n
  have b0 : Below w.heap.size w (w.alloc (.cells #[.int .i64 k, .int .i64 wk, .int .i64 n] 24)) := (Below.refl _ _).alloc (Nat.le_refl _) _
  have B0 := Lib.hid b0
  clear b0
  generalize w.alloc (.cells #[.int .i64 k, .int .i64 wk, .int .i64 n] 24) = W at *
  obtain ⟨c0, c1, c2⟩ := D0.cells
  have hs : w.heap.size < W.heap.size := (Array.getElem?_eq_some_iff.1 D0).1
  have bK := bw_cell c0
  have bW := bw_cell c1
  have bN := bw_cell c2
  have hne := bw_ne W
  refine wp_region_bw (by kernel_rfl) (by kernel_rfl) ?_
  repeat (go_big_quiet_step (fail))
  refine wpQuiet_nil ?_
  rintro W3 ⟨v3, e3⟩
  have hb3 := v3.2
  rw [← e3] at hb3
  have D3 := D0.below hb3 hs
  have HB3 := Lib.hid (B0.out.trans (hb3.mono (by omega)))
  clear e3 v3 hb3 bK bW bN hne D0 c0 c1 c2
  obtain ⟨c0, c1, c2⟩ := D3.cells
  clear D3
  by_cases k0 : k = 0
  · subst k0
    by_cases z : wk = 0
    · have EV := Lib.hid (chkV_no (k := 0) (wk := wk) (n := n) (by unfold RightD; omega))
      have q : (wk == 0) = true := by simpa using z
      first
      | (exfalso; omega)
      | (try clear z
         go_wp2_with fail
         go_ret
         exact ⟨by rw [EV.out]; rfl, HB3.out⟩)
    · have q : (wk == 0) = false := by simpa using z
      have EV := Lib.hid (chkV_no (k := 0) (wk := wk) (n := n) (by unfold RightD; omega))
      first
      | (exfalso; omega)
      | (try clear z
         go_wp2_with fail
         go_ret
         exact ⟨by rw [EV.out]; rfl, HB3.out⟩)
  · by_cases k1 : k = 1
    · subst k1
      by_cases z : n = 0
      · have EV := Lib.hid (chkV_no (k := 1) (wk := wk) (n := n) (by unfold RightD; omega))
        have q : (n == 0) = true := by simpa using z
        first
        | (exfalso; omega)
        | (try clear z
           go_wp2_with fail
           go_ret
           exact ⟨by rw [EV.out]; rfl, HB3.out⟩)
      · have q : (n == 0) = false := by simpa using z
        have EV := Lib.hid (chkV_no (k := 1) (wk := wk) (n := n) (by unfold RightD; omega))
        first
        | (exfalso; omega)
        | (try clear z
           go_wp2_with fail
           go_ret
           exact ⟨by rw [EV.out]; rfl, HB3.out⟩)
    · by_cases k2 : k = 2
      · subst k2
        have EV := Lib.hid (chkV_no (k := 2) (wk := wk) (n := n) (by unfold RightD; omega))
        first
        | (exfalso; omega)
        | (try clear z
           go_wp2_with fail
           go_ret
           exact ⟨by rw [EV.out]; rfl, HB3.out⟩)
      · by_cases k3 : k = 3
        · subst k3
          have EV := Lib.hid (chkV_no (k := 3) (wk := wk) (n := n) (by unfold RightD; omega))
          first
          | (exfalso; omega)
          | (try clear z
             go_wp2_with fail
             go_ret
             exact ⟨by rw [EV.out]; rfl, HB3.out⟩)
        · have EV := Lib.hid (chkV_no (k := k) (wk := wk) (n := n) (by unfold RightD; omega))
          have q0 : (k == 0) = false := by simpa using k0
          have q1 : (k == 1) = false := by simpa using k1
          have q2 : (k == 2) = false := by simpa using k2
          have q3 : (k == 3) = false := by simpa using k3
          clear k0 k1 k2 k3
          first
          | (exfalso; omega)
          | (try clear z
             go_wp2_with fail
             go_ret
             exact ⟨by rw [EV.out]; rfl, HB3.out⟩)
set_option maxHeartbeats 4000000 in
theorem check_day1c (k wk n : Int) (w : World) (n1 : n < 1) (m1 : (decide (1 ≤ n)) = false) (w1 : 0 ≤ wk) (w2 : wk < 7) : Calls Tryd.prog 12 #[.agg #[.int .i64 k, .int .i64 wk, .int .i64 n]] w fun e w' => e = .returned (chkV k wk n) ∧ Below w.heap.size w w' := by
  go_enter Tryd.func12, Tryd.ntmps12
  go_wp2_with fail
  have D0 := DyB.new w k wk n
  have b0 : Below w.heap.size w (w.alloc (.cells #[.int .i64 k, .int .i64 wk, .int .i64 n] 24)) := (Below.refl _ _).alloc (Nat.le_refl _) _
  have B0 := Lib.hid b0
  clear b0
  generalize w.alloc (.cells #[.int .i64 k, .int .i64 wk, .int .i64 n] 24) = W at *
  obtain ⟨c0, c1, c2⟩ := D0.cells
  have hs : w.heap.size < W.heap.size := (Array.getElem?_eq_some_iff.1 D0).1
  have bK := bw_cell c0
  have bW := bw_cell c1
  have bN := bw_cell c2
  have hne := bw_ne W
  refine wp_region_bw (by kernel_rfl) (by kernel_rfl) ?_
  repeat (go_big_quiet_step (fail))
  refine wpQuiet_nil ?_
  rintro W3 ⟨v3, e3⟩
  have hb3 := v3.2
  rw [← e3] at hb3
  have D3 := D0.below hb3 hs
  have HB3 := Lib.hid (B0.out.trans (hb3.mono (by omega)))
  clear e3 v3 hb3 bK bW bN hne D0 c0 c1 c2
  obtain ⟨c0, c1, c2⟩ := D3.cells
  clear D3
  by_cases k0 : k = 0
  · subst k0
    by_cases z : wk = 0
    · have EV := Lib.hid (chkV_no (k := 0) (wk := wk) (n := n) (by unfold RightD; omega))
      have q : (wk == 0) = true := by simpa using z
      first
      | (exfalso; omega)
      | (try clear z
         go_wp2_with fail
         go_ret
         exact ⟨by rw [EV.out]; rfl, HB3.out⟩)
    · have q : (wk == 0) = false := by simpa using z
      have EV := Lib.hid (chkV_no (k := 0) (wk := wk) (n := n) (by unfold RightD; omega))
      first
      | (exfalso; omega)
      | (try clear z
         go_wp2_with fail
         go_ret
         exact ⟨by rw [EV.out]; rfl, HB3.out⟩)
  · by_cases k1 : k = 1
    · subst k1
      by_cases z : n = 0
      · have EV := Lib.hid (chkV_ok (k := 1) (wk := wk) (n := n) (by unfold RightD; omega))
        have q : (n == 0) = true := by simpa using z
        first
        | (exfalso; omega)
        | (try clear z
           go_wp2_with fail
           go_ret
           exact ⟨by rw [EV.out]; rfl, HB3.out⟩)
      · have q : (n == 0) = false := by simpa using z
        have EV := Lib.hid (chkV_no (k := 1) (wk := wk) (n := n) (by unfold RightD; omega))
        first
        | (exfalso; omega)
        | (try clear z
           go_wp2_with fail
           go_ret
           exact ⟨by rw [EV.out]; rfl, HB3.out⟩)
    · by_cases k2 : k = 2
      · subst k2
        have EV := Lib.hid (chkV_no (k := 2) (wk := wk) (n := n) (by unfold RightD; omega))
        first
        | (exfalso; omega)
        | (try clear z
           go_wp2_with fail
           go_ret
           exact ⟨by rw [EV.out]; rfl, HB3.out⟩)
      · by_cases k3 : k = 3
        · subst k3
          have EV := Lib.hid (chkV_no (k := 3) (wk := wk) (n := n) (by unfold RightD; omega))
          first
          | (exfalso; omega)
          | (try clear z
             go_wp2_with fail
             go_ret
             exact ⟨by rw [EV.out]; rfl, HB3.out⟩)
        · have EV := Lib.hid (chkV_no (k := k) (wk := wk) (n := n) (by unfold RightD; omega))
          have q0 : (k == 0) = false := by simpa using k0
          have q1 : (k == 1) = false := by simpa using k1
          have q2 : (k == 2) = false := by simpa using k2
          have q3 : (k == 3) = false := by simpa using k3
          clear k0 k1 k2 k3
          first
          | (exfalso; omega)
          | (try clear z
             go_wp2_with fail
             go_ret
             exact ⟨by rw [EV.out]; rfl, HB3.out⟩)
set_option maxHeartbeats 4000000 in
theorem check_day2a (k wk n : Int) (w : World) (n1 : 31 < n) (n2 : 1 ≤ n) (m1 : (decide (n ≤ 31)) = false) (w1 : wk < 0) (m2 : (decide (0 ≤ wk)) = false) : Calls Tryd.prog 12 #[.agg #[.int .i64 k, .int .i64 wk, .int .i64 n]] w fun e w' => e = .returned (chkV k wk n) ∧ Below w.heap.size w w' := by
  go_enter Tryd.func12, Tryd.ntmps12
  go_wp2_with fail
  have D0 := DyB.new w k wk n
  have b0 : Below w.heap.size w (w.alloc (.cells #[.int .i64 k, .int .i64 wk, .int .i64 n] 24)) := (Below.refl _ _).alloc (Nat.le_refl _) _
  have B0 := Lib.hid b0
  clear b0
  generalize w.alloc (.cells #[.int .i64 k, .int .i64 wk, .int .i64 n] 24) = W at *
  obtain ⟨c0, c1, c2⟩ := D0.cells
  have hs : w.heap.size < W.heap.size := (Array.getElem?_eq_some_iff.1 D0).1
  have bK := bw_cell c0
  have bW := bw_cell c1
  have bN := bw_cell c2
  have hne := bw_ne W
  refine wp_region_bw (by kernel_rfl) (by kernel_rfl) ?_
  repeat (go_big_quiet_step (fail))
  refine wpQuiet_nil ?_
  rintro W3 ⟨v3, e3⟩
  have hb3 := v3.2
  rw [← e3] at hb3
  have D3 := D0.below hb3 hs
  have HB3 := Lib.hid (B0.out.trans (hb3.mono (by omega)))
  clear e3 v3 hb3 bK bW bN hne D0 c0 c1 c2
  obtain ⟨c0, c1, c2⟩ := D3.cells
  clear D3
  by_cases k0 : k = 0
  · subst k0
    by_cases z : wk = 0
    · have EV := Lib.hid (chkV_no (k := 0) (wk := wk) (n := n) (by unfold RightD; omega))
      have q : (wk == 0) = true := by simpa using z
      first
      | (exfalso; omega)
      | (try clear z
         go_wp2_with fail
         go_ret
         exact ⟨by rw [EV.out]; rfl, HB3.out⟩)
    · have q : (wk == 0) = false := by simpa using z
      have EV := Lib.hid (chkV_no (k := 0) (wk := wk) (n := n) (by unfold RightD; omega))
      first
      | (exfalso; omega)
      | (try clear z
         go_wp2_with fail
         go_ret
         exact ⟨by rw [EV.out]; rfl, HB3.out⟩)
  · by_cases k1 : k = 1
    · subst k1
      by_cases z : n = 0
      · have EV := Lib.hid (chkV_no (k := 1) (wk := wk) (n := n) (by unfold RightD; omega))
        have q : (n == 0) = true := by simpa using z
        first
        | (exfalso; omega)
        | (try clear z
           go_wp2_with fail
           go_ret
           exact ⟨by rw [EV.out]; rfl, HB3.out⟩)
      · have q : (n == 0) = false := by simpa using z
        have EV := Lib.hid (chkV_no (k := 1) (wk := wk) (n := n) (by unfold RightD; omega))
        first
        | (exfalso; omega)
        | (try clear z
           go_wp2_with fail
           go_ret
           exact ⟨by rw [EV.out]; rfl, HB3.out⟩)
    · by_cases k2 : k = 2
      · subst k2
        have EV := Lib.hid (chkV_no (k := 2) (wk := wk) (n := n) (by unfold RightD; omega))
        first
        | (exfalso; omega)
        | (try clear z
           go_wp2_with fail
           go_ret
           exact ⟨by rw [EV.out]; rfl, HB3.out⟩)
      · by_cases k3 : k = 3
        · subst k3
          have EV := Lib.hid (chkV_no (k := 3) (wk := wk) (n := n) (by unfold RightD; omega))
          first
          | (exfalso; omega)
          | (try clear z
             go_wp2_with fail
             go_ret
             exact ⟨by rw [EV.out]; rfl, HB3.out⟩)
        · have EV := Lib.hid (chkV_no (k := k) (wk := wk) (n := n) (by unfold RightD; omega))
          have q0 : (k == 0) = false := by simpa using k0
          have q1 : (k == 1) = false := by simpa using k1
          have q2 : (k == 2) = false := by simpa using k2
          have q3 : (k == 3) = false := by simpa using k3
          clear k0 k1 k2 k3
          first
          | (exfalso; omega)
          | (try clear z
             go_wp2_with fail
             go_ret
             exact ⟨by rw [EV.out]; rfl, HB3.out⟩)
set_option maxHeartbeats 4000000 in
theorem check_day2b (k wk n : Int) (w : World) (n1 : 31 < n) (n2 : 1 ≤ n) (m1 : (decide (n ≤ 31)) = false) (w1 : 7 ≤ wk) (w2 : 0 ≤ wk) (m2 : (decide (wk < 7)) = false) : Calls Tryd.prog 12 #[.agg #[.int .i64 k, .int .i64 wk, .int .i64 n]] w fun e w' => e = .returned (chkV k wk n) ∧ Below w.heap.size w w' := by
  go_enter Tryd.func12, Tryd.ntmps12
  go_wp2_with fail
  have D0 := DyB.new w k wk n
  have b0 : Below w.heap.size w (w.alloc (.cells #[.int .i64 k, .int .i64 wk, .int .i64 n] 24)) := (Below.refl _ _).alloc (Nat.le_refl _) _
  have B0 := Lib.hid b0
  clear b0
  generalize w.alloc (.cells #[.int .i64 k, .int .i64 wk, .int .i64 n] 24) = W at *
  obtain ⟨c0, c1, c2⟩ := D0.cells
  have hs : w.heap.size < W.heap.size := (Array.getElem?_eq_some_iff.1 D0).1
  have bK := bw_cell c0
  have bW := bw_cell c1
  have bN := bw_cell c2
  have hne := bw_ne W
  refine wp_region_bw (by kernel_rfl) (by kernel_rfl) ?_
  repeat (go_big_quiet_step (fail))
  refine wpQuiet_nil ?_
  rintro W3 ⟨v3, e3⟩
  have hb3 := v3.2
  rw [← e3] at hb3
  have D3 := D0.below hb3 hs
  have HB3 := Lib.hid (B0.out.trans (hb3.mono (by omega)))
  clear e3 v3 hb3 bK bW bN hne D0 c0 c1 c2
  obtain ⟨c0, c1, c2⟩ := D3.cells
  clear D3
  by_cases k0 : k = 0
  · subst k0
    by_cases z : wk = 0
    · have EV := Lib.hid (chkV_no (k := 0) (wk := wk) (n := n) (by unfold RightD; omega))
      have q : (wk == 0) = true := by simpa using z
      first
      | (exfalso; omega)
      | (try clear z
         go_wp2_with fail
         go_ret
         exact ⟨by rw [EV.out]; rfl, HB3.out⟩)
    · have q : (wk == 0) = false := by simpa using z
      have EV := Lib.hid (chkV_no (k := 0) (wk := wk) (n := n) (by unfold RightD; omega))
      first
      | (exfalso; omega)
      | (try clear z
         go_wp2_with fail
         go_ret
         exact ⟨by rw [EV.out]; rfl, HB3.out⟩)
  · by_cases k1 : k = 1
    · subst k1
      by_cases z : n = 0
      · have EV := Lib.hid (chkV_no (k := 1) (wk := wk) (n := n) (by unfold RightD; omega))
        have q : (n == 0) = true := by simpa using z
        first
        | (exfalso; omega)
        | (try clear z
           go_wp2_with fail
           go_ret
           exact ⟨by rw [EV.out]; rfl, HB3.out⟩)
      · have q : (n == 0) = false := by simpa using z
        have EV := Lib.hid (chkV_no (k := 1) (wk := wk) (n := n) (by unfold RightD; omega))
        first
        | (exfalso; omega)
        | (try clear z
           go_wp2_with fail
           go_ret
           exact ⟨by rw [EV.out]; rfl, HB3.out⟩)
    · by_cases k2 : k = 2
      · subst k2
        have EV := Lib.hid (chkV_no (k := 2) (wk := wk) (n := n) (by unfold RightD; omega))
        first
        | (exfalso; omega)
        | (try clear z
           go_wp2_with fail
           go_ret
           exact ⟨by rw [EV.out]; rfl, HB3.out⟩)
      · by_cases k3 : k = 3
        · subst k3
          have EV := Lib.hid (chkV_no (k := 3) (wk := wk) (n := n) (by unfold RightD; omega))
          first
          | (exfalso; omega)
          | (try clear z
             go_wp2_with fail
             go_ret
             exact ⟨by rw [EV.out]; rfl, HB3.out⟩)
        · have EV := Lib.hid (chkV_no (k := k) (wk := wk) (n := n) (by unfold RightD; omega))
          have q0 : (k == 0) = false := by simpa using k0
          have q1 : (k == 1) = false := by simpa using k1
          have q2 : (k == 2) = false := by simpa using k2
          have q3 : (k == 3) = false := by simpa using k3
          clear k0 k1 k2 k3
          first
          | (exfalso; omega)
          | (try clear z
             go_wp2_with fail
             go_ret
             exact ⟨by rw [EV.out]; rfl, HB3.out⟩)
set_option maxHeartbeats 4000000 in
theorem check_day2c (k wk n : Int) (w : World) (n1 : 31 < n) (n2 : 1 ≤ n) (m1 : (decide (n ≤ 31)) = false) (w1 : 0 ≤ wk) (w2 : wk < 7) : Calls Tryd.prog 12 #[.agg #[.int .i64 k, .int .i64 wk, .int .i64 n]] w fun e w' => e = .returned (chkV k wk n) ∧ Below w.heap.size w w' := by
  go_enter Tryd.func12, Tryd.ntmps12
  go_wp2_with fail
  have D0 := DyB.new w k wk n
  have b0 : Below w.heap.size w (w.alloc (.cells #[.int .i64 k, .int .i64 wk, .int .i64 n] 24)) := (Below.refl _ _).alloc (Nat.le_refl _) _
  have B0 := Lib.hid b0
  clear b0
  generalize w.alloc (.cells #[.int .i64 k, .int .i64 wk, .int .i64 n] 24) = W at *
  obtain ⟨c0, c1, c2⟩ := D0.cells
  have hs : w.heap.size < W.heap.size := (Array.getElem?_eq_some_iff.1 D0).1
  have bK := bw_cell c0
  have bW := bw_cell c1
  have bN := bw_cell c2
  have hne := bw_ne W
  refine wp_region_bw (by kernel_rfl) (by kernel_rfl) ?_
  repeat (go_big_quiet_step (fail))
  refine wpQuiet_nil ?_
  rintro W3 ⟨v3, e3⟩
  have hb3 := v3.2
  rw [← e3] at hb3
  have D3 := D0.below hb3 hs
  have HB3 := Lib.hid (B0.out.trans (hb3.mono (by omega)))
  clear e3 v3 hb3 bK bW bN hne D0 c0 c1 c2
  obtain ⟨c0, c1, c2⟩ := D3.cells
  clear D3
  by_cases k0 : k = 0
  · subst k0
    by_cases z : wk = 0
    · have EV := Lib.hid (chkV_no (k := 0) (wk := wk) (n := n) (by unfold RightD; omega))
      have q : (wk == 0) = true := by simpa using z
      first
      | (exfalso; omega)
      | (try clear z
         go_wp2_with fail
         go_ret
         exact ⟨by rw [EV.out]; rfl, HB3.out⟩)
    · have q : (wk == 0) = false := by simpa using z
      have EV := Lib.hid (chkV_no (k := 0) (wk := wk) (n := n) (by unfold RightD; omega))
      first
      | (exfalso; omega)
      | (try clear z
         go_wp2_with fail
         go_ret
         exact ⟨by rw [EV.out]; rfl, HB3.out⟩)
  · by_cases k1 : k = 1
    · subst k1
      by_cases z : n = 0
      · have EV := Lib.hid (chkV_no (k := 1) (wk := wk) (n := n) (by unfold RightD; omega))
        have q : (n == 0) = true := by simpa using z
        first
        | (exfalso; omega)
        | (try clear z
           go_wp2_with fail
           go_ret
           exact ⟨by rw [EV.out]; rfl, HB3.out⟩)
      · have q : (n == 0) = false := by simpa using z
        have EV := Lib.hid (chkV_no (k := 1) (wk := wk) (n := n) (by unfold RightD; omega))
        first
        | (exfalso; omega)
        | (try clear z
           go_wp2_with fail
           go_ret
           exact ⟨by rw [EV.out]; rfl, HB3.out⟩)
    · by_cases k2 : k = 2
      · subst k2
        have EV := Lib.hid (chkV_no (k := 2) (wk := wk) (n := n) (by unfold RightD; omega))
        first
        | (exfalso; omega)
        | (try clear z
           go_wp2_with fail
           go_ret
           exact ⟨by rw [EV.out]; rfl, HB3.out⟩)
      · by_cases k3 : k = 3
        · subst k3
          have EV := Lib.hid (chkV_no (k := 3) (wk := wk) (n := n) (by unfold RightD; omega))
          first
          | (exfalso; omega)
          | (try clear z
             go_wp2_with fail
             go_ret
             exact ⟨by rw [EV.out]; rfl, HB3.out⟩)
        · have EV := Lib.hid (chkV_no (k := k) (wk := wk) (n := n) (by unfold RightD; omega))
          have q0 : (k == 0) = false := by simpa using k0
          have q1 : (k == 1) = false := by simpa using k1
          have q2 : (k == 2) = false := by simpa using k2
          have q3 : (k == 3) = false := by simpa using k3
          clear k0 k1 k2 k3
          first
          | (exfalso; omega)
          | (try clear z
             go_wp2_with fail
             go_ret
             exact ⟨by rw [EV.out]; rfl, HB3.out⟩)
set_option maxHeartbeats 4000000 in
theorem check_day3a (k wk n : Int) (w : World) (n1 : 1 ≤ n) (n2 : n ≤ 31) (w1 : wk < 0) (m2 : (decide (0 ≤ wk)) = false) : Calls Tryd.prog 12 #[.agg #[.int .i64 k, .int .i64 wk, .int .i64 n]] w fun e w' => e = .returned (chkV k wk n) ∧ Below w.heap.size w w' := by
  go_enter Tryd.func12, Tryd.ntmps12
  go_wp2_with fail
  have D0 := DyB.new w k wk n
  have b0 : Below w.heap.size w (w.alloc (.cells #[.int .i64 k, .int .i64 wk, .int .i64 n] 24)) := (Below.refl _ _).alloc (Nat.le_refl _) _
  have B0 := Lib.hid b0
  clear b0
  generalize w.alloc (.cells #[.int .i64 k, .int .i64 wk, .int .i64 n] 24) = W at *
  obtain ⟨c0, c1, c2⟩ := D0.cells
  have hs : w.heap.size < W.heap.size := (Array.getElem?_eq_some_iff.1 D0).1
  have bK := bw_cell c0
  have bW := bw_cell c1
  have bN := bw_cell c2
  have hne := bw_ne W
  refine wp_region_bw (by kernel_rfl) (by kernel_rfl) ?_
  repeat (go_big_quiet_step (fail))
  refine wpQuiet_nil ?_
  rintro W3 ⟨v3, e3⟩
  have hb3 := v3.2
  rw [← e3] at hb3
  have D3 := D0.below hb3 hs
  have HB3 := Lib.hid (B0.out.trans (hb3.mono (by omega)))
  clear e3 v3 hb3 bK bW bN hne D0 c0 c1 c2
  obtain ⟨c0, c1, c2⟩ := D3.cells
  clear D3
  by_cases k0 : k = 0
  · subst k0
    by_cases z : wk = 0
    · have EV := Lib.hid (chkV_no (k := 0) (wk := wk) (n := n) (by unfold RightD; omega))
      have q : (wk == 0) = true := by simpa using z
      first
      | (exfalso; omega)
      | (try clear z
         go_wp2_with fail
         go_ret
         exact ⟨by rw [EV.out]; rfl, HB3.out⟩)
    · have q : (wk == 0) = false := by simpa using z
      have EV := Lib.hid (chkV_no (k := 0) (wk := wk) (n := n) (by unfold RightD; omega))
      first
      | (exfalso; omega)
      | (try clear z
         go_wp2_with fail
         go_ret
         exact ⟨by rw [EV.out]; rfl, HB3.out⟩)
  · by_cases k1 : k = 1
    · subst k1
      by_cases z : n = 0
      · have EV := Lib.hid (chkV_no (k := 1) (wk := wk) (n := n) (by unfold RightD; omega))
        have q : (n == 0) = true := by simpa using z
        first
        | (exfalso; omega)
        | (try clear z
           go_wp2_with fail
           go_ret
           exact ⟨by rw [EV.out]; rfl, HB3.out⟩)
      · have q : (n == 0) = false := by simpa using z
        have EV := Lib.hid (chkV_no (k := 1) (wk := wk) (n := n) (by unfold RightD; omega))
        first
        | (exfalso; omega)
        | (try clear z
           go_wp2_with fail
           go_ret
           exact ⟨by rw [EV.out]; rfl, HB3.out⟩)
    · by_cases k2 : k = 2
      · subst k2
        have EV := Lib.hid (chkV_no (k := 2) (wk := wk) (n := n) (by unfold RightD; omega))
        first
        | (exfalso; omega)
        | (try clear z
           go_wp2_with fail
           go_ret
           exact ⟨by rw [EV.out]; rfl, HB3.out⟩)
      · by_cases k3 : k = 3
        · subst k3
          have EV := Lib.hid (chkV_no (k := 3) (wk := wk) (n := n) (by unfold RightD; omega))
          first
          | (exfalso; omega)
          | (try clear z
             go_wp2_with fail
             go_ret
             exact ⟨by rw [EV.out]; rfl, HB3.out⟩)
        · have EV := Lib.hid (chkV_no (k := k) (wk := wk) (n := n) (by unfold RightD; omega))
          have q0 : (k == 0) = false := by simpa using k0
          have q1 : (k == 1) = false := by simpa using k1
          have q2 : (k == 2) = false := by simpa using k2
          have q3 : (k == 3) = false := by simpa using k3
          clear k0 k1 k2 k3
          first
          | (exfalso; omega)
          | (try clear z
             go_wp2_with fail
             go_ret
             exact ⟨by rw [EV.out]; rfl, HB3.out⟩)
set_option maxHeartbeats 4000000 in
theorem check_day3b (k wk n : Int) (w : World) (n1 : 1 ≤ n) (n2 : n ≤ 31) (w1 : 7 ≤ wk) (w2 : 0 ≤ wk) (m2 : (decide (wk < 7)) = false) : Calls Tryd.prog 12 #[.agg #[.int .i64 k, .int .i64 wk, .int .i64 n]] w fun e w' => e = .returned (chkV k wk n) ∧ Below w.heap.size w w' := by
  go_enter Tryd.func12, Tryd.ntmps12
  go_wp2_with fail
  have D0 := DyB.new w k wk n
  have b0 : Below w.heap.size w (w.alloc (.cells #[.int .i64 k, .int .i64 wk, .int .i64 n] 24)) := (Below.refl _ _).alloc (Nat.le_refl _) _
  have B0 := Lib.hid b0
  clear b0
  generalize w.alloc (.cells #[.int .i64 k, .int .i64 wk, .int .i64 n] 24) = W at *
  obtain ⟨c0, c1, c2⟩ := D0.cells
  have hs : w.heap.size < W.heap.size := (Array.getElem?_eq_some_iff.1 D0).1
  have bK := bw_cell c0
  have bW := bw_cell c1
  have bN := bw_cell c2
  have hne := bw_ne W
  refine wp_region_bw (by kernel_rfl) (by kernel_rfl) ?_
  repeat (go_big_quiet_step (fail))
  refine wpQuiet_nil ?_
  rintro W3 ⟨v3, e3⟩
  have hb3 := v3.2
  rw [← e3] at hb3
  have D3 := D0.below hb3 hs
  have HB3 := Lib.hid (B0.out.trans (hb3.mono (by omega)))
  clear e3 v3 hb3 bK bW bN hne D0 c0 c1 c2
  obtain ⟨c0, c1, c2⟩ := D3.cells
  clear D3
  by_cases k0 : k = 0
  · subst k0
    by_cases z : wk = 0
    · have EV := Lib.hid (chkV_no (k := 0) (wk := wk) (n := n) (by unfold RightD; omega))
      have q : (wk == 0) = true := by simpa using z
      first
      | (exfalso; omega)
      | (try clear z
         go_wp2_with fail
         go_ret
         exact ⟨by rw [EV.out]; rfl, HB3.out⟩)
    · have q : (wk == 0) = false := by simpa using z
      have EV := Lib.hid (chkV_no (k := 0) (wk := wk) (n := n) (by unfold RightD; omega))
      first
      | (exfalso; omega)
      | (try clear z
         go_wp2_with fail
         go_ret
         exact ⟨by rw [EV.out]; rfl, HB3.out⟩)
  · by_cases k1 : k = 1
    · subst k1
      by_cases z : n = 0
      · have EV := Lib.hid (chkV_no (k := 1) (wk := wk) (n := n) (by unfold RightD; omega))
        have q : (n == 0) = true := by simpa using z
        first
        | (exfalso; omega)
        | (try clear z
           go_wp2_with fail
           go_ret
           exact ⟨by rw [EV.out]; rfl, HB3.out⟩)
      · have q : (n == 0) = false := by simpa using z
        have EV := Lib.hid (chkV_no (k := 1) (wk := wk) (n := n) (by unfold RightD; omega))
        first
        | (exfalso; omega)
        | (try clear z
           go_wp2_with fail
           go_ret
           exact ⟨by rw [EV.out]; rfl, HB3.out⟩)
    · by_cases k2 : k = 2
      · subst k2
        have EV := Lib.hid (chkV_no (k := 2) (wk := wk) (n := n) (by unfold RightD; omega))
        first
        | (exfalso; omega)
        | (try clear z
           go_wp2_with fail
           go_ret
           exact ⟨by rw [EV.out]; rfl, HB3.out⟩)
      · by_cases k3 : k = 3
        · subst k3
          have EV := Lib.hid (chkV_no (k := 3) (wk := wk) (n := n) (by unfold RightD; omega))
          first
          | (exfalso; omega)
          | (try clear z
             go_wp2_with fail
             go_ret
             exact ⟨by rw [EV.out]; rfl, HB3.out⟩)
        · have EV := Lib.hid (chkV_no (k := k) (wk := wk) (n := n) (by unfold RightD; omega))
          have q0 : (k == 0) = false := by simpa using k0
          have q1 : (k == 1) = false := by simpa using k1
          have q2 : (k == 2) = false := by simpa using k2
          have q3 : (k == 3) = false := by simpa using k3
          clear k0 k1 k2 k3
          first
          | (exfalso; omega)
          | (try clear z
             go_wp2_with fail
             go_ret
             exact ⟨by rw [EV.out]; rfl, HB3.out⟩)
set_option maxHeartbeats 4000000 in
theorem check_day3c (k wk n : Int) (w : World) (n1 : 1 ≤ n) (n2 : n ≤ 31) (w1 : 0 ≤ wk) (w2 : wk < 7) : Calls Tryd.prog 12 #[.agg #[.int .i64 k, .int .i64 wk, .int .i64 n]] w fun e w' => e = .returned (chkV k wk n) ∧ Below w.heap.size w w' := by
  go_enter Tryd.func12, Tryd.ntmps12
  go_wp2_with fail
  have D0 := DyB.new w k wk n
  have b0 : Below w.heap.size w (w.alloc (.cells #[.int .i64 k, .int .i64 wk, .int .i64 n] 24)) := (Below.refl _ _).alloc (Nat.le_refl _) _
  have B0 := Lib.hid b0
  clear b0
  generalize w.alloc (.cells #[.int .i64 k, .int .i64 wk, .int .i64 n] 24) = W at *
  obtain ⟨c0, c1, c2⟩ := D0.cells
  have hs : w.heap.size < W.heap.size := (Array.getElem?_eq_some_iff.1 D0).1
  have bK := bw_cell c0
  have bW := bw_cell c1
  have bN := bw_cell c2
  have hne := bw_ne W
  refine wp_region_bw (by kernel_rfl) (by kernel_rfl) ?_
  repeat (go_big_quiet_step (fail))
  refine wpQuiet_nil ?_
  rintro W3 ⟨v3, e3⟩
  have hb3 := v3.2
  rw [← e3] at hb3
  have D3 := D0.below hb3 hs
  have HB3 := Lib.hid (B0.out.trans (hb3.mono (by omega)))
  clear e3 v3 hb3 bK bW bN hne D0 c0 c1 c2
  obtain ⟨c0, c1, c2⟩ := D3.cells
  clear D3
  by_cases k0 : k = 0
  · subst k0
    by_cases z : wk = 0
    · have EV := Lib.hid (chkV_ok (k := 0) (wk := wk) (n := n) (by unfold RightD; omega))
      have q : (wk == 0) = true := by simpa using z
      first
      | (exfalso; omega)
      | (try clear z
         go_wp2_with fail
         go_ret
         exact ⟨by rw [EV.out]; rfl, HB3.out⟩)
    · have q : (wk == 0) = false := by simpa using z
      have EV := Lib.hid (chkV_no (k := 0) (wk := wk) (n := n) (by unfold RightD; omega))
      first
      | (exfalso; omega)
      | (try clear z
         go_wp2_with fail
         go_ret
         exact ⟨by rw [EV.out]; rfl, HB3.out⟩)
  · by_cases k1 : k = 1
    · subst k1
      by_cases z : n = 0
      · have EV := Lib.hid (chkV_no (k := 1) (wk := wk) (n := n) (by unfold RightD; omega))
        have q : (n == 0) = true := by simpa using z
        first
        | (exfalso; omega)
        | (try clear z
           go_wp2_with fail
           go_ret
           exact ⟨by rw [EV.out]; rfl, HB3.out⟩)
      · have q : (n == 0) = false := by simpa using z
        have EV := Lib.hid (chkV_no (k := 1) (wk := wk) (n := n) (by unfold RightD; omega))
        first
        | (exfalso; omega)
        | (try clear z
           go_wp2_with fail
           go_ret
           exact ⟨by rw [EV.out]; rfl, HB3.out⟩)
    · by_cases k2 : k = 2
      · subst k2
        have EV := Lib.hid (chkV_ok (k := 2) (wk := wk) (n := n) (by unfold RightD; omega))
        first
        | (exfalso; omega)
        | (try clear z
           go_wp2_with fail
           go_ret
           exact ⟨by rw [EV.out]; rfl, HB3.out⟩)
      · by_cases k3 : k = 3
        · subst k3
          have EV := Lib.hid (chkV_ok (k := 3) (wk := wk) (n := n) (by unfold RightD; omega))
          first
          | (exfalso; omega)
          | (try clear z
             go_wp2_with fail
             go_ret
             exact ⟨by rw [EV.out]; rfl, HB3.out⟩)
        · have EV := Lib.hid (chkV_no (k := k) (wk := wk) (n := n) (by unfold RightD; omega))
          have q0 : (k == 0) = false := by simpa using k0
          have q1 : (k == 1) = false := by simpa using k1
          have q2 : (k == 2) = false := by simpa using k2
          have q3 : (k == 3) = false := by simpa using k3
          clear k0 k1 k2 k3
          first
          | (exfalso; omega)
          | (try clear z
             go_wp2_with fail
             go_ret
             exact ⟨by rw [EV.out]; rfl, HB3.out⟩)
theorem check_day (k wk n : Int) (w : World) : Calls Tryd.prog 12 #[.agg #[.int .i64 k, .int .i64 wk, .int .i64 n]] w fun e w' => e = .returned (chkV k wk n) ∧ Below w.heap.size w w' := by
  by_cases n1 : n < 1
  · have m1 : (decide (1 ≤ n)) = false := decide_eq_false (by omega)
    by_cases w1 : wk < 0
    · exact check_day1a k wk n w n1 m1 w1 (decide_eq_false (by omega))
    · by_cases w2 : 7 ≤ wk
      · exact check_day1b k wk n w n1 m1 w2 (by omega) (decide_eq_false (by omega))
      · exact check_day1c k wk n w n1 m1 (by omega) (by omega)
  · by_cases n2 : 31 < n
    · have m1 : (decide (n ≤ 31)) = false := decide_eq_false (by omega)
      by_cases w1 : wk < 0
      · exact check_day2a k wk n w n2 (by omega) m1 w1 (decide_eq_false (by omega))
      · by_cases w2 : 7 ≤ wk
        · exact check_day2b k wk n w n2 (by omega) m1 w2 (by omega) (decide_eq_false (by omega))
        · exact check_day2c k wk n w n2 (by omega) m1 (by omega) (by omega)
    · by_cases w1 : wk < 0
      · exact check_day3a k wk n w (by omega) (by omega) w1 (decide_eq_false (by omega))
      · by_cases w2 : 7 ≤ wk
        · exact check_day3b k wk n w (by omega) (by omega) w2 (by omega) (decide_eq_false (by omega))
        · exact check_day3c k wk n w (by omega) (by omega) (by omega) (by omega)
end Go.Proofs.YtmkbfjklhejdnaaDoor
