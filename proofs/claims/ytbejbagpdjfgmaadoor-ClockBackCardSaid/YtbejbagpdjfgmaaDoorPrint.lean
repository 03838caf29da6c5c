/-
  THE WALK of clock.Print.
-/
import Derived.Test.YtbejbagpdjfgmaaDoorAwake
import Derived.Test.YtbejbagpdjfgmaaDoorCPAny
namespace Go.Proofs.YtbejbagpdjfgmaaDoor
open Go Go.RowKit
theorem row2_cells {w : World} {B : Nat} {t : TypeId} {k y : Int} (h : w.heap[B]? = some (.cells #[.int .i64 k, .int .i64 y] t (0, 0))) : w.cell? ⟨B, 0, none⟩ = some (.int .i64 k) ∧ w.cell? ⟨B, 1, none⟩ = some (.int .i64 y) :=
  ⟨cell_of_row w B 0 _ _ _ h, cell_of_row w B 1 _ _ _ h⟩
theorem textP_len {m : Int} (h0 : 0 ≤ m) (h1 : m < 604800) : (textP m).length ≤ 20 := by
  have a1 := dec_len3 (k := m / 3600) (by omega) (by omega)
  have a2 := two_len (u := m / 60 % 60) (by omega) (by omega)
  have a3 := two_len (u := m % 60) (by omega) (by omega)
  unfold textP
  split <;> simp <;> omega
theorem textOf_len {s : Int} (h1 : -604800 < s) (h2 : s < 604800) : (textOf s).length ≤ 21 := by
  unfold textOf
  split
  · have := textP_len (m := -s) (by omega) (by omega)
    simp
    omega
  · have := textP_len (m := s) (by omega) (by omega)
    omega
/-- Parse answers this -/
def PIs (l : List UInt8) (n k e : Int) : Prop := ∀ w, Reads w → Calls Tryd.prog 20 #[.string ⟨l.toArray⟩] w fun e' w' => e' = .returned (.tuple #[.agg #[.int .i64 n, .int .i64 k], .int .i64 e]) ∧ Below w.heap.size w w'
theorem pis_any (l : List UInt8) (hl : l.length ≤ 1000) : PIs l (psI l).1 (psI l).2.1 (psI l).2.2 := fun w h => cparse_any l w hl h.t h.l
/-- Print answers this -/
def Prt (s k : Int) (T : List UInt8) (e : Int) : Prop := ∀ w, Reads w → Calls Tryd.prog 19 #[.agg #[.int .i64 s, .int .i64 k]] w fun e' w' => e' = .returned (.tuple #[.string ⟨T.toArray⟩, .int .i64 e]) ∧ Below w.heap.size w w'
set_option maxRecDepth 100000 in
set_option maxHeartbeats 2000000 in
theorem print_far (s k : Int) (h : s ≤ -604800 ∨ 604800 ≤ s) : Prt s k [] 10 := by
  intro w hr
  have HH := Lib.hid h
  clear h
  have HR := Lib.hid hr
  have HBw := Lib.hid (Below.refl w.heap.size w)
  clear hr
  go_enter Tryd.func19, Tryd.ntmps19
  go_upto_region 1 with fail
  generalize hX : w.alloc (.cells #[.int .i64 s, .int .i64 k] 39) = v0
  have sv0 : v0.heap.size = w.heap.size + 1 := by rw [← hX]; simp
  have bv0 : Below w.heap.size w v0 := by rw [← hX]; exact (Below.refl _ _).alloc (Nat.le_refl _) _
  have HYv0 := Lib.hid (show v0.heap[w.heap.size]? = some (.cells #[.int .i64 s, .int .i64 k] 39 (0, 0)) by rw [← hX]; exact heap_alloc_new w _)
  have HBv0 := Lib.hid (HBw.out.trans (bv0.mono HBw.out.size))
  clear hX
  obtain ⟨p0, p1⟩ := row2_cells HYv0.out
  go_wp2_with fail
  refine (text_no s _ HH.out).mono ?_
  rintro e w1 ⟨rfl, hbw1⟩
  have HBw1 := Lib.hid (HBv0.out.trans (hbw1.mono HBv0.out.size))
  have HD1 := Lib.hid ((hbw1.block w.heap.size (by omega)).trans HYv0.out)
  have sw1 := hbw1.size
  clear hbw1 p0 p1
  obtain ⟨p0, p1⟩ := row2_cells HD1.out
  go_wp2_with fail
  go_ret2
  exact ⟨rfl, HBw1.out⟩
set_option maxRecDepth 100000 in
set_option maxHeartbeats 2000000 in
theorem print_lo (s k : Int) (h1 : -604800 < s) (h2 : s < 604800) (hk : k < 0) : Prt s k [] 10 := by
  intro w hr
  have TT := Lib.hid (fun w => text_ok s w h1 h2)
  generalize textOf s = T at *
  have HR := Lib.hid hr
  have HBw := Lib.hid (Below.refl w.heap.size w)
  clear hr
  go_enter Tryd.func19, Tryd.ntmps19
  go_upto_region 1 with fail
  generalize hX : w.alloc (.cells #[.int .i64 s, .int .i64 k] 39) = v0
  have sv0 : v0.heap.size = w.heap.size + 1 := by rw [← hX]; simp
  have bv0 : Below w.heap.size w v0 := by rw [← hX]; exact (Below.refl _ _).alloc (Nat.le_refl _) _
  have HYv0 := Lib.hid (show v0.heap[w.heap.size]? = some (.cells #[.int .i64 s, .int .i64 k] 39 (0, 0)) by rw [← hX]; exact heap_alloc_new w _)
  have HBv0 := Lib.hid (HBw.out.trans (bv0.mono HBw.out.size))
  clear hX
  obtain ⟨p0, p1⟩ := row2_cells HYv0.out
  go_wp2_with fail
  refine (TT.out _ (HR.out.below HBv0.out).p).mono ?_
  rintro e w1 ⟨rfl, hbw1⟩
  have HBw1 := Lib.hid (HBv0.out.trans (hbw1.mono HBv0.out.size))
  have HD1 := Lib.hid ((hbw1.block w.heap.size (by omega)).trans HYv0.out)
  have sw1 := hbw1.size
  clear hbw1 p0 p1
  obtain ⟨p0, p1⟩ := row2_cells HD1.out
  go_wp2_with fail
  go_ret2
  exact ⟨rfl, HBw1.out⟩
set_option maxRecDepth 100000 in
set_option maxHeartbeats 2000000 in
theorem print_hi (s k : Int) (h1 : -604800 < s) (h2 : s < 604800) (hk : 3 ≤ k) : Prt s k [] 10 := by
  intro w hr
  have TT := Lib.hid (fun w => text_ok s w h1 h2)
  generalize textOf s = T at *
  have HR := Lib.hid hr
  have HBw := Lib.hid (Below.refl w.heap.size w)
  clear hr
  go_enter Tryd.func19, Tryd.ntmps19
  go_upto_region 1 with fail
  generalize hX : w.alloc (.cells #[.int .i64 s, .int .i64 k] 39) = v0
  have sv0 : v0.heap.size = w.heap.size + 1 := by rw [← hX]; simp
  have bv0 : Below w.heap.size w v0 := by rw [← hX]; exact (Below.refl _ _).alloc (Nat.le_refl _) _
  have HYv0 := Lib.hid (show v0.heap[w.heap.size]? = some (.cells #[.int .i64 s, .int .i64 k] 39 (0, 0)) by rw [← hX]; exact heap_alloc_new w _)
  have HBv0 := Lib.hid (HBw.out.trans (bv0.mono HBw.out.size))
  clear hX
  obtain ⟨p0, p1⟩ := row2_cells HYv0.out
  go_wp2_with fail
  refine (TT.out _ (HR.out.below HBv0.out).p).mono ?_
  rintro e w1 ⟨rfl, hbw1⟩
  have HBw1 := Lib.hid (HBv0.out.trans (hbw1.mono HBv0.out.size))
  have HD1 := Lib.hid ((hbw1.block w.heap.size (by omega)).trans HYv0.out)
  have sw1 := hbw1.size
  clear hbw1 p0 p1
  obtain ⟨p0, p1⟩ := row2_cells HD1.out
  go_wp2_with fail
  go_ret2
  exact ⟨rfl, HBw1.out⟩
set_option maxRecDepth 100000 in
set_option maxHeartbeats 2000000 in
theorem print_0 (s : Int) (h1 : -604800 < s) (h2 : s < 604800) : Prt s 0 (textOf s) 0 := by
  intro w hr
  have TT := Lib.hid (fun w => text_ok s w h1 h2)
  generalize textOf s = T at *
  have HR := Lib.hid hr
  have HBw := Lib.hid (Below.refl w.heap.size w)
  clear hr
  go_enter Tryd.func19, Tryd.ntmps19
  go_upto_region 1 with fail
  generalize hX : w.alloc (.cells #[.int .i64 s, .int .i64 0] 39) = v0
  have sv0 : v0.heap.size = w.heap.size + 1 := by rw [← hX]; simp
  have bv0 : Below w.heap.size w v0 := by rw [← hX]; exact (Below.refl _ _).alloc (Nat.le_refl _) _
  have HYv0 := Lib.hid (show v0.heap[w.heap.size]? = some (.cells #[.int .i64 s, .int .i64 0] 39 (0, 0)) by rw [← hX]; exact heap_alloc_new w _)
  have HBv0 := Lib.hid (HBw.out.trans (bv0.mono HBw.out.size))
  clear hX
  obtain ⟨p0, p1⟩ := row2_cells HYv0.out
  go_wp2_with fail
  refine (TT.out _ (HR.out.below HBv0.out).p).mono ?_
  rintro e w1 ⟨rfl, hbw1⟩
  have HBw1 := Lib.hid (HBv0.out.trans (hbw1.mono HBv0.out.size))
  have HD1 := Lib.hid ((hbw1.block w.heap.size (by omega)).trans HYv0.out)
  have sw1 := hbw1.size
  clear hbw1 p0 p1
  obtain ⟨p0, p1⟩ := row2_cells HD1.out
  go_wp2_with fail
  go_ret2
  exact ⟨rfl, HBw1.out⟩
set_option maxRecDepth 100000 in
set_option maxHeartbeats 2000000 in
theorem print_1 (s : Int) (h1 : -604800 < s) (h2 : s < 604800) : Prt s 1 (textOf s ++ [115]) 0 := by
  intro w hr
  have TT := Lib.hid (fun w => text_ok s w h1 h2)
  have tl := Lib.hid (textOf_len h1 h2)
  generalize textOf s = T at *
  have tl2 : (T.length : Int) ≤ 1000 := by have := tl.out; omega
  have HR := Lib.hid hr
  have HBw := Lib.hid (Below.refl w.heap.size w)
  clear hr
  go_enter Tryd.func19, Tryd.ntmps19
  go_upto_region 1 with fail
  generalize hX : w.alloc (.cells #[.int .i64 s, .int .i64 1] 39) = v0
  have sv0 : v0.heap.size = w.heap.size + 1 := by rw [← hX]; simp
  have bv0 : Below w.heap.size w v0 := by rw [← hX]; exact (Below.refl _ _).alloc (Nat.le_refl _) _
  have HYv0 := Lib.hid (show v0.heap[w.heap.size]? = some (.cells #[.int .i64 s, .int .i64 1] 39 (0, 0)) by rw [← hX]; exact heap_alloc_new w _)
  have HBv0 := Lib.hid (HBw.out.trans (bv0.mono HBw.out.size))
  clear hX
  obtain ⟨p0, p1⟩ := row2_cells HYv0.out
  go_wp2_with fail
  refine (TT.out _ (HR.out.below HBv0.out).p).mono ?_
  rintro e w1 ⟨rfl, hbw1⟩
  have HBw1 := Lib.hid (HBv0.out.trans (hbw1.mono HBv0.out.size))
  have HD1 := Lib.hid ((hbw1.block w.heap.size (by omega)).trans HYv0.out)
  have sw1 := hbw1.size
  clear hbw1 p0 p1
  obtain ⟨p0, p1⟩ := row2_cells HD1.out
  obtain ⟨c0, c1, c2⟩ := (HR.out.below HBw1.out).l
  go_wp2_with fail
  go_ret2
  exact ⟨by rw [← ba_app]; rfl, HBw1.out⟩
set_option maxRecDepth 100000 in
set_option maxHeartbeats 2000000 in
theorem print_2 (s : Int) (h1 : -604800 < s) (h2 : s < 604800) : Prt s 2 (textOf s ++ [117]) 0 := by
  intro w hr
  have TT := Lib.hid (fun w => text_ok s w h1 h2)
  have tl := Lib.hid (textOf_len h1 h2)
  generalize textOf s = T at *
  have tl2 : (T.length : Int) ≤ 1000 := by have := tl.out; omega
  have HR := Lib.hid hr
  have HBw := Lib.hid (Below.refl w.heap.size w)
  clear hr
  go_enter Tryd.func19, Tryd.ntmps19
  go_upto_region 1 with fail
  generalize hX : w.alloc (.cells #[.int .i64 s, .int .i64 2] 39) = v0
  have sv0 : v0.heap.size = w.heap.size + 1 := by rw [← hX]; simp
  have bv0 : Below w.heap.size w v0 := by rw [← hX]; exact (Below.refl _ _).alloc (Nat.le_refl _) _
  have HYv0 := Lib.hid (show v0.heap[w.heap.size]? = some (.cells #[.int .i64 s, .int .i64 2] 39 (0, 0)) by rw [← hX]; exact heap_alloc_new w _)
  have HBv0 := Lib.hid (HBw.out.trans (bv0.mono HBw.out.size))
  clear hX
  obtain ⟨p0, p1⟩ := row2_cells HYv0.out
  go_wp2_with fail
  refine (TT.out _ (HR.out.below HBv0.out).p).mono ?_
  rintro e w1 ⟨rfl, hbw1⟩
  have HBw1 := Lib.hid (HBv0.out.trans (hbw1.mono HBv0.out.size))
  have HD1 := Lib.hid ((hbw1.block w.heap.size (by omega)).trans HYv0.out)
  have sw1 := hbw1.size
  clear hbw1 p0 p1
  obtain ⟨p0, p1⟩ := row2_cells HD1.out
  obtain ⟨c0, c1, c2⟩ := (HR.out.below HBw1.out).l
  go_wp2_with fail
  go_ret2
  exact ⟨by rw [← ba_app]; rfl, HBw1.out⟩
end Go.Proofs.YtbejbagpdjfgmaaDoor
