/-
  THE FRAME OF A LAW of this seat: it answers true and makes new memory alone; what its row lists of tables; a start that meets the row's condition.
-/
import Derived.Test.YtdneodlboggcnaaDoorLexAwake
import Derived.Test.YtdneodlboggcnaaDoorPostLaw
import Derived.Test.YtdneodlboggcnaaDoorShapedAnd
import Derived.Test.YtdneodlboggcnaaDoorTie
import Derived.Test.YtdneodlboggcnaaDoorCards
import Derived.WalkKit
import Derived.ProofKit
import Derived.Carry
import Derived.OpenShut
import Derived.ShutString
import Derived.LaidMore
import Derived.Lib.LaidTab
import Derived.Stop.Joined
import Derived.Stop.LaidErr
import Derived.SevenTiedAt
import Derived.ChangeMaps5
import Derived.Lay
import Derived.MakeChecks
namespace Go.Proofs.YtdneodlboggcnaaDoor
open Go Go.RowKit Go.ChangeShapes Go.WideShapes

theorem laidOut : laidOutB Tryd.prog = true := by kernel_rfl
theorem ownK : ownKnob Tryd.prog.godebug = none := by kernel_rfl
abbrev LL : List (String × DataW Unit) := [("unicode/utf8.acceptRanges", Rows.laid_unicode_utf8_acceptRanges), ("unicode/utf8.first", Rows.laid_unicode_utf8_first)]
theorem door_met (os : Os) (args : Array Value) : laidMetH Tryd.prog LL ((World.laidAll Tryd.prog os LL).forCall (fun _ _ => 0) ⟨#[], args, []⟩).memory := by
  rw [MakeChecks.laidMetH_plain _ _ _ (by kernel_rfl)]
  exact laidMet_laidAll _ (by kernel_rfl) (by kernel_rfl)
theorem big_of_shaped {W : World} (h : W.ShapedOpen Tryd.prog) : Big W := Tryd.laysM145.s1_3 W h
end Go.Proofs.YtdneodlboggcnaaDoor
