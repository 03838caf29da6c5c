/-
  THE WALK of the chapter's examples.
-/
import Derived.Test.YtbejbagpdjfgmaaDoorJoin
namespace Go.Proofs.YtbejbagpdjfgmaaDoor
open Go Go.RowKit CivM NumM
/-- a law's end: true, and what was there is as it was -/
def One (w : World) (e : Ending) (w' : World) : Prop := e = .returned (.bool true) ∧ Below w.heap.size w w'
/-- what the chapter's walks read -/
structure Reads (w : World) : Prop where
  a : Ahead w
  t : Txt w
  p : Pw w
  l : Ltr w
theorem Reads.below {w w' : World} (h : Reads w) (hb : Below w.heap.size w w') : Reads w' := ⟨h.a.below hb, h.t.below hb, h.p.below hb, h.l.below hb⟩
theorem ex1 (w : World) (h : Reads w) : Calls Tryd.prog 9 #[.agg #[.int .i64 1970, .int .i64 1, .int .i64 2], .int .i64 (-1)] w fun e w' => e = .returned (.tuple #[.int .i64 86399, .int .i64 0]) ∧ Below w.heap.size w w' :=
  join_ok 1970 1 2 (-1) w h.a ⟨by decide, by decide, by decide, by decide, by decide, by decide⟩ (by decide) (by decide)
theorem ex2 (w : World) (h : Reads w) : Calls Tryd.prog 17 #[.int .i64 (-5400)] w fun e w' => e = .returned (.tuple #[.string ⟨#[45, 49, 58, 51, 48]⟩, .int .i64 0]) ∧ Below w.heap.size w w' := by
  have := text_ok (-5400) w (by decide) (by decide) h.p
  rwa [show textOf (-5400) = [45, 49, 58, 51, 48] from by decide +kernel] at this
theorem sp200 : spV [50, 58, 48, 48] = .tuple #[.int .i64 7200, .int .i64 0] := by
  unfold spV
  rw [if_neg (by decide), if_pos (by decide +kernel), if_neg (by decide +kernel), if_neg (by decide +kernel), show sumP (nbs (Lib.trimPrefix [50, 58, 48, 48] [45])) = 7200 from by decide +kernel]
theorem ex3 (w : World) (h : Reads w) : Calls Tryd.prog 20 #[.string ⟨#[50, 58, 48, 48, 115]⟩] w fun e w' => e = .returned (.tuple #[.agg #[.int .i64 7200, .int .i64 1], .int .i64 0]) ∧ Below w.heap.size w w' :=
  cparse_ok [50, 58, 48, 48] 115 1 7200 [50, 58, 48, 48] w (by decide) h.t h.l (by decide +kernel) sp200
set_option maxRecDepth 100000 in
set_option maxHeartbeats 2000000 in
theorem awake_any (w : World) (h : Reads w) :
    Calls Tryd.prog 16 #[] w fun e w' => e = .returned (.bool true) ∧ Below w.heap.size w w' := by
  have HR := Lib.hid h
  have HBw := Lib.hid (Below.refl w.heap.size w)
  clear h
  go_enter Tryd.func16, Tryd.ntmps16
  go_wp2_with fail
  refine (ex1 _ HR.out).mono ?_
  rintro e w1 ⟨rfl, hbw1⟩
  have HBw1 := Lib.hid (HBw.out.trans (hbw1.mono HBw.out.size))
  clear hbw1
  go_wp2_with fail
  refine (ex2 _ (HR.out.below HBw1.out)).mono ?_
  rintro e w2 ⟨rfl, hbw2⟩
  have HBw2 := Lib.hid (HBw1.out.trans (hbw2.mono HBw1.out.size))
  clear hbw2
  go_wp2_with fail
  refine (ex3 _ (HR.out.below HBw2.out)).mono ?_
  rintro e w3 ⟨rfl, hbw3⟩
  have HBw3 := Lib.hid (HBw2.out.trans (hbw3.mono HBw2.out.size))
  clear hbw3
  go_wp2_with fail
  go_ret
  exact ⟨rfl, HBw3.out.alloc HBw3.out.size _⟩
end Go.Proofs.YtbejbagpdjfgmaaDoor
