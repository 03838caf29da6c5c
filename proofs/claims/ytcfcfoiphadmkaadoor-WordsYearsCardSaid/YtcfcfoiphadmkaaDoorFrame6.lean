/-
  THE FRAME OF A LAW of this seat whose row lists six tables and errors: it answers true and makes new memory alone; what its row lists of tables, as facts for the walks; a start that meets the row's condition.
-/
import Derived.Test.YtcfcfoiphadmkaaDoorAwake
import Derived.Test.YtcfcfoiphadmkaaDoorPostLaw
import Derived.Test.YtcfcfoiphadmkaaDoorShapedAnd
import Derived.Test.YtcfcfoiphadmkaaDoorStrTab
import Derived.Test.YtcfcfoiphadmkaaDoorTie
import Derived.Test.YtcfcfoiphadmkaaDoorCards
import Derived.WalkKit
import Derived.ProofKit
import Derived.Carry
import Derived.OpenShut
import Derived.ShutString
import Derived.LaidMore
import Derived.Lib.LaidTab
import Derived.Stop.Joined
import Derived.Stop.LaidErr
import Derived.SevenTiedAt
import Derived.ChangeMaps5
import Derived.Lay
import Derived.MakeChecks
namespace Go.Proofs.YtcfcfoiphadmkaaDoor
open Go Go.RowKit Go.ChangeShapes Go.WideShapes 

theorem laidOut : laidOutB Tryd.prog = true := by kernel_rfl
theorem ownK : ownKnob Tryd.prog.godebug = none := by kernel_rfl
abbrev L6 : List (String × DataW Unit) := [("math/bits.deBruijn32tab", Rows.laid_math_bits_deBruijn32tab), ("math/bits.deBruijn64tab", Rows.laid_math_bits_deBruijn64tab), ("internal/strconv.uint64pow10", Rows.laid_internal_strconv_uint64pow10), ("strconv.ErrRange", Rows.laid_strconv_ErrRange), ("strconv.ErrSyntax", Rows.laid_strconv_ErrSyntax), ("meridian/words.months", Rows.laid_meridian_words_months)]
abbrev LL : List (String × DataW Unit) := L6
theorem door_met (os : Os) (args : Array Value) : laidMetH Tryd.prog LL ((World.laidAll Tryd.prog os LL).forCall (fun _ _ => 0) ⟨#[], args, []⟩).memory := by
  rw [MakeChecks.laidMetH_plain _ _ _ (by kernel_rfl)]
  exact laidMet_laidAll _ (by kernel_rfl) (by kernel_rfl)
theorem mon_of_laid {W : World} (h : laidMetH Tryd.prog LL W) : Mon W := fun j hj => by
  rw [MakeChecks.laidMetH_plain _ _ _ (by kernel_rfl)] at h
  rw [Nat.zero_add]
  exact strs_of_head (ls := monthsL) (g := 0) (t := 50) (by kernel_rfl) (by kernel_rfl) Tryd.underlying50 Tryd.underlying9 (by kernel_rfl) (by kernel_rfl) h.tail.tail.tail.tail.tail j hj
theorem fits_of {x : Int} (h : (Lit.int .i64 x).wf = true) : -9223372036854775808 ≤ x ∧ x ≤ 9223372036854775807 := by
  simp [Lit.wf, IntKind.min, IntKind.max, IntKind.signed, IntKind.bits] at h
  omega
end Go.Proofs.YtcfcfoiphadmkaaDoor
