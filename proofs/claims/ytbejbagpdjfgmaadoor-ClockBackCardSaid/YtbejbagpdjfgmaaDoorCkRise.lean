/-
  THE LAW ClockRise, walked.
-/
import Derived.Test.YtbejbagpdjfgmaaDoorAwake
namespace Go.Proofs.YtbejbagpdjfgmaaDoor
open Go Go.RowKit CivM NumM
/-- what Join answers -/
theorem join_cases (y m d s : Int) : (Valid y m d ∧ -604800 < s ∧ s < 604800 ∧ ∀ w, Ahead w → Calls Tryd.prog 9 #[.agg #[.int .i64 y, .int .i64 m, .int .i64 d], .int .i64 s] w fun e w' => e = .returned (.tuple #[.int .i64 (num y m d * 86400 + s), .int .i64 0]) ∧ Below w.heap.size w w') ∨
    (¬ (Valid y m d ∧ -604800 < s ∧ s < 604800) ∧ ∀ w, Ahead w → Calls Tryd.prog 9 #[.agg #[.int .i64 y, .int .i64 m, .int .i64 d], .int .i64 s] w fun e w' => e = .returned (.tuple #[.int .i64 0, .int .i64 10]) ∧ Below w.heap.size w w') := by
  by_cases hv : Valid y m d
  · by_cases h1 : -604800 < s
    · by_cases h2 : s < 604800
      · exact .inl ⟨hv, h1, h2, fun w hA => join_ok y m d s w hA hv h1 h2⟩
      · exact .inr ⟨fun h => h2 h.2.2, fun w hA => join_far y m d s w hA hv (.inr (by omega))⟩
    · exact .inr ⟨fun h => h1 h.2.1, fun w hA => join_far y m d s w hA hv (.inl (by omega))⟩
  · exact .inr ⟨fun h => hv h.1, fun w hA => join_bad y m d s w hA hv⟩
theorem row3_cells {w : World} {B : Nat} {t : TypeId} {k y n : Int} (h : w.heap[B]? = some (.cells #[.int .i64 k, .int .i64 y, .int .i64 n] t (0, 0))) : w.cell? ⟨B, 0, none⟩ = some (.int .i64 k) ∧ w.cell? ⟨B, 1, none⟩ = some (.int .i64 y) ∧ w.cell? ⟨B, 2, none⟩ = some (.int .i64 n) :=
  ⟨cell_of_row w B 0 _ _ _ h, cell_of_row w B 1 _ _ _ h, cell_of_row w B 2 _ _ _ h⟩
namespace clockRise
abbrev dt (y m d s : Int) : Array Value := #[.agg #[.int .i64 y, .int .i64 m, .int .i64 d], .int .i64 s]
/-- Join answers this -/
def JIs (y m d s n e : Int) : Prop := ∀ w, Ahead w → Calls Tryd.prog 9 (dt y m d s) w fun e' w' => e' = .returned (.tuple #[.int .i64 n, .int .i64 e]) ∧ Below w.heap.size w w'
set_option maxRecDepth 100000 in
set_option maxHeartbeats 2000000 in
theorem walk_good (y m d a b N : Int) (w : World) (h : Reads w) (a1 : -604800 < a) (a2 : a < 604800) (b1 : -604800 < b) (b2 : b < 604800) (hA : JIs y m d a (N * 86400 + a) 0) (hB : JIs y m d b (N * 86400 + b) 0) :
    Calls Tryd.prog 7 #[.agg #[.int .i64 y, .int .i64 m, .int .i64 d], .int .i64 a, .int .i64 b] w (One w) := by
  have HR := Lib.hid h
  have HBw := Lib.hid (Below.refl w.heap.size w)
  have SA := Lib.hid hA
  have SB := Lib.hid hB
  clear h hA hB
  go_enter Tryd.func7, Tryd.ntmps7
  go_upto_region 1 with fail
  generalize hX : w.alloc (.cells #[.int .i64 y, .int .i64 m, .int .i64 d] 23) = v0
  have sv0 : v0.heap.size = w.heap.size + 1 := by rw [← hX]; simp
  have bv0 : Below w.heap.size w v0 := by rw [← hX]; exact (Below.refl _ _).alloc (Nat.le_refl _) _
  have HYv0 := Lib.hid (show v0.heap[w.heap.size]? = some (.cells #[.int .i64 y, .int .i64 m, .int .i64 d] 23 (0, 0)) by rw [← hX]; exact heap_alloc_new w _)
  have HBv0 := Lib.hid (HBw.out.trans (bv0.mono HBw.out.size))
  clear hX
  obtain ⟨p0, p1, p2⟩ := row3_cells HYv0.out
  go_wp2_with fail
  refine (SA.out _ (HR.out.below HBv0.out).a).mono ?_
  rintro e w1 ⟨rfl, hbw1⟩
  have HBw1 := Lib.hid (HBv0.out.trans (hbw1.mono HBv0.out.size))
  have HD1 := Lib.hid ((hbw1.block w.heap.size (by omega)).trans HYv0.out)
  have sw1 := hbw1.size
  clear hbw1 p0 p1 p2
  obtain ⟨p0, p1, p2⟩ := row3_cells HD1.out
  go_wp2_with fail
  refine (SB.out _ (HR.out.below HBw1.out).a).mono ?_
  rintro e w2 ⟨rfl, hbw2⟩
  have HBw2 := Lib.hid (HBw1.out.trans (hbw2.mono HBw1.out.size))
  clear hbw2 p0 p1 p2
  go_wp2_with fail
  refine (awake_any _ (HR.out.below HBw2.out)).mono ?_
  rintro e w3 ⟨rfl, hbw3⟩
  have HBw3 := Lib.hid (HBw2.out.trans (hbw3.mono HBw2.out.size))
  clear hbw3
  go_wp2_with fail
  go_ret
  exact ⟨rfl, HBw3.out⟩
set_option maxRecDepth 100000 in
set_option maxHeartbeats 2000000 in
theorem walk_bad1 (y m d a b n e n' f : Int) (w : World) (h : Reads w) (q : (e != 0) = true) (hA : JIs y m d a n e) (hB : JIs y m d b n' f) :
    Calls Tryd.prog 7 #[.agg #[.int .i64 y, .int .i64 m, .int .i64 d], .int .i64 a, .int .i64 b] w (One w) := by
  have HR := Lib.hid h
  have HBw := Lib.hid (Below.refl w.heap.size w)
  have SA := Lib.hid hA
  have SB := Lib.hid hB
  clear h hA hB
  go_enter Tryd.func7, Tryd.ntmps7
  go_upto_region 1 with fail
  generalize hX : w.alloc (.cells #[.int .i64 y, .int .i64 m, .int .i64 d] 23) = v0
  have sv0 : v0.heap.size = w.heap.size + 1 := by rw [← hX]; simp
  have bv0 : Below w.heap.size w v0 := by rw [← hX]; exact (Below.refl _ _).alloc (Nat.le_refl _) _
  have HYv0 := Lib.hid (show v0.heap[w.heap.size]? = some (.cells #[.int .i64 y, .int .i64 m, .int .i64 d] 23 (0, 0)) by rw [← hX]; exact heap_alloc_new w _)
  have HBv0 := Lib.hid (HBw.out.trans (bv0.mono HBw.out.size))
  clear hX
  obtain ⟨p0, p1, p2⟩ := row3_cells HYv0.out
  go_wp2_with fail
  refine (SA.out _ (HR.out.below HBv0.out).a).mono ?_
  rintro e w1 ⟨rfl, hbw1⟩
  have HBw1 := Lib.hid (HBv0.out.trans (hbw1.mono HBv0.out.size))
  have HD1 := Lib.hid ((hbw1.block w.heap.size (by omega)).trans HYv0.out)
  have sw1 := hbw1.size
  clear hbw1 p0 p1 p2
  obtain ⟨p0, p1, p2⟩ := row3_cells HD1.out
  go_wp2_with fail
  refine (SB.out _ (HR.out.below HBw1.out).a).mono ?_
  rintro e w2 ⟨rfl, hbw2⟩
  have HBw2 := Lib.hid (HBw1.out.trans (hbw2.mono HBw1.out.size))
  clear hbw2 p0 p1 p2
  go_wp2_with fail
  refine (awake_any _ (HR.out.below HBw2.out)).mono ?_
  rintro e w3 ⟨rfl, hbw3⟩
  have HBw3 := Lib.hid (HBw2.out.trans (hbw3.mono HBw2.out.size))
  clear hbw3
  go_wp2_with fail
  go_ret
  exact ⟨rfl, HBw3.out⟩
set_option maxRecDepth 100000 in
set_option maxHeartbeats 2000000 in
theorem walk_bad2 (y m d a b n n' f : Int) (w : World) (h : Reads w) (q : (f != 0) = true) (hA : JIs y m d a n 0) (hB : JIs y m d b n' f) :
    Calls Tryd.prog 7 #[.agg #[.int .i64 y, .int .i64 m, .int .i64 d], .int .i64 a, .int .i64 b] w (One w) := by
  have HR := Lib.hid h
  have HBw := Lib.hid (Below.refl w.heap.size w)
  have SA := Lib.hid hA
  have SB := Lib.hid hB
  clear h hA hB
  go_enter Tryd.func7, Tryd.ntmps7
  go_upto_region 1 with fail
  generalize hX : w.alloc (.cells #[.int .i64 y, .int .i64 m, .int .i64 d] 23) = v0
  have sv0 : v0.heap.size = w.heap.size + 1 := by rw [← hX]; simp
  have bv0 : Below w.heap.size w v0 := by rw [← hX]; exact (Below.refl _ _).alloc (Nat.le_refl _) _
  have HYv0 := Lib.hid (show v0.heap[w.heap.size]? = some (.cells #[.int .i64 y, .int .i64 m, .int .i64 d] 23 (0, 0)) by rw [← hX]; exact heap_alloc_new w _)
  have HBv0 := Lib.hid (HBw.out.trans (bv0.mono HBw.out.size))
  clear hX
  obtain ⟨p0, p1, p2⟩ := row3_cells HYv0.out
  go_wp2_with fail
  refine (SA.out _ (HR.out.below HBv0.out).a).mono ?_
  rintro e w1 ⟨rfl, hbw1⟩
  have HBw1 := Lib.hid (HBv0.out.trans (hbw1.mono HBv0.out.size))
  have HD1 := Lib.hid ((hbw1.block w.heap.size (by omega)).trans HYv0.out)
  have sw1 := hbw1.size
  clear hbw1 p0 p1 p2
  obtain ⟨p0, p1, p2⟩ := row3_cells HD1.out
  go_wp2_with fail
  refine (SB.out _ (HR.out.below HBw1.out).a).mono ?_
  rintro e w2 ⟨rfl, hbw2⟩
  have HBw2 := Lib.hid (HBw1.out.trans (hbw2.mono HBw1.out.size))
  clear hbw2 p0 p1 p2
  go_wp2_with fail
  refine (awake_any _ (HR.out.below HBw2.out)).mono ?_
  rintro e w3 ⟨rfl, hbw3⟩
  have HBw3 := Lib.hid (HBw2.out.trans (hbw3.mono HBw2.out.size))
  clear hbw3
  go_wp2_with fail
  go_ret
  exact ⟨rfl, HBw3.out⟩
theorem walk (y m d a b : Int) (w : World) (h : Reads w) :
    Calls Tryd.prog 7 #[.agg #[.int .i64 y, .int .i64 m, .int .i64 d], .int .i64 a, .int .i64 b] w (One w) := by
  rcases join_cases y m d a with ⟨_, a1, a2, hA⟩ | ⟨_, hA⟩
  · rcases join_cases y m d b with ⟨_, b1, b2, hB⟩ | ⟨_, hB⟩
    · exact walk_good y m d a b _ w h a1 a2 b1 b2 hA hB
    · exact walk_bad2 y m d a b _ 0 10 w h rfl hA hB
  · rcases join_cases y m d b with ⟨_, b1, b2, hB⟩ | ⟨_, hB⟩
    · exact walk_bad1 y m d a b 0 10 _ 0 w h rfl hA hB
    · exact walk_bad1 y m d a b 0 10 0 10 w h rfl hA hB
end clockRise
end Go.Proofs.YtbejbagpdjfgmaaDoor
