/-
  THE FRAME OF A LAW of this seat: it answers true and makes new memory alone; what its row lists of tables, as facts for the walks; a start that meets the row's condition.
-/
import Derived.Test.YtbejbagpdjfgmaaDoorAwake
import Derived.Test.YtbejbagpdjfgmaaDoorPostLaw
import Derived.Test.YtbejbagpdjfgmaaDoorShapedAnd
import Derived.Test.YtbejbagpdjfgmaaDoorStrTab
import Derived.Test.YtbejbagpdjfgmaaDoorTie
import Derived.Test.YtbejbagpdjfgmaaDoorCards
import Derived.WalkKit
import Derived.ProofKit
import Derived.Carry
import Derived.OpenShut
import Derived.ShutString
import Derived.LaidMore
import Derived.Lib.LaidTab
import Derived.Stop.Joined
import Derived.Stop.LaidErr
import Derived.SevenTiedAt
import Derived.ChangeMaps5
import Derived.Lay
import Derived.MakeChecks
namespace Go.Proofs.YtbejbagpdjfgmaaDoor
open Go Go.RowKit Go.ChangeShapes Go.WideShapes CivM NumM

theorem laidOut : laidOutB Tryd.prog = true := by kernel_rfl
theorem ownK : ownKnob Tryd.prog.godebug = none := by kernel_rfl
abbrev LL : List (String × DataW Unit) := [("math/bits.deBruijn32tab", Rows.laid_math_bits_deBruijn32tab), ("math/bits.deBruijn64tab", Rows.laid_math_bits_deBruijn64tab), ("internal/strconv.uint64pow10", Rows.laid_internal_strconv_uint64pow10), ("unicode/utf8.acceptRanges", Rows.laid_unicode_utf8_acceptRanges), ("strconv.ErrRange", Rows.laid_strconv_ErrRange), ("strconv.ErrSyntax", Rows.laid_strconv_ErrSyntax), ("meridian/civil.ahead", Rows.laid_meridian_civil_ahead), ("meridian/clock.letters", Rows.laid_meridian_clock_letters), ("unicode/utf8.first", Rows.laid_unicode_utf8_first)]
theorem door_met (os : Os) (args : Array Value) : laidMetH Tryd.prog LL ((World.laidAll Tryd.prog os LL).forCall (fun _ _ => 0) ⟨#[], args, []⟩).memory := by
  rw [MakeChecks.laidMetH_plain _ _ _ (by kernel_rfl)]
  exact laidMet_laidAll _ (by kernel_rfl) (by kernel_rfl)
theorem ahead_of_laid {W : World} (h : laidMetH Tryd.prog LL W) : Ahead W := by
  rw [MakeChecks.laidMetH_plain _ _ _ (by kernel_rfl)] at h
  have := Lib.tabIs_of_head (zs := [0, 31, 59, 90, 120, 151, 181, 212, 243, 273, 304, 334, 365]) (g := 1) (t := 78) (by kernel_rfl) (by kernel_rfl) Tryd.underlying78 Tryd.underlying3 (by kernel_rfl) (by kernel_rfl) h.tail.tail.tail.tail.tail.tail
  intro k hk
  rw [this.cell (by kernel_rfl) k hk]
  have : ∀ k, k < 13 → ([0, 31, 59, 90, 120, 151, 181, 212, 243, 273, 304, 334, 365] : List Int).getD k 0 = ah (k + 1) := by decide
  rw [this k hk]
theorem ltr_of_laid {W : World} (h : laidMetH Tryd.prog LL W) : Ltr W := by
  rw [MakeChecks.laidMetH_plain _ _ _ (by kernel_rfl)] at h
  have hS : ∀ j, j < 3 → _ := fun j hj => strs_of_head (ls := [[119], [115], [117, 103, 122]]) (g := 0) (t := 64) (by kernel_rfl) (by kernel_rfl) Tryd.underlying64 Tryd.underlying9 (by kernel_rfl) (by kernel_rfl) h.tail.tail.tail.tail.tail.tail.tail j hj
  exact ⟨hS 0 (by decide), hS 1 (by decide), hS 2 (by decide)⟩
theorem pw_of_laid {W : World} (h : laidMetH Tryd.prog LL W) : Pw W := by
  rw [MakeChecks.laidMetH_plain _ _ _ (by kernel_rfl)] at h
  exact Lib.tabIs_of_head (g := 3) (t := 105) (by kernel_rfl) (by kernel_rfl) Tryd.underlying105 Tryd.underlying87 (by kernel_rfl) (by kernel_rfl) h.tail.tail
theorem star : ("*errors.errorString" : String) = "*" ++ "errors.errorString" := by decide
theorem row_err (u : TypeId) (h : Tryd.prog.typeName? 3 u = some "*errors.errorString") : u = 136 :=
  typeName_ptr_named (nm := "errors.errorString") (by rw [← star]; kernel_rfl) (by kernel_rfl) (by decide) u (by rw [← star]; exact h)
theorem txt_of_laid {W : World} (h : laidMetH Tryd.prog LL W) : Txt W := by
  rw [MakeChecks.laidMetH_plain _ _ _ (by kernel_rfl)] at h
  refine ⟨?_, ?_⟩
  · obtain ⟨a1, s1, e1, _⟩ := laid_sentinel (g := 6) (ts := 9) h.tail.tail.tail.tail.tail (by kernel_rfl) (by kernel_rfl) Tryd.underlying83 row_err Tryd.underlying136 Tryd.underlying138 rfl rfl Tryd.underlying9 (by kernel_rfl) (by kernel_rfl)
    exact ⟨_, World.var?_cell (by kernel_rfl) e1 0, .inr ⟨_, _, rfl⟩⟩
  · obtain ⟨a1, s1, e1, _⟩ := laid_sentinel (g := 7) (ts := 9) h.tail.tail.tail.tail (by kernel_rfl) (by kernel_rfl) Tryd.underlying83 row_err Tryd.underlying136 Tryd.underlying138 rfl rfl Tryd.underlying9 (by kernel_rfl) (by kernel_rfl)
    exact ⟨_, World.var?_cell (by kernel_rfl) e1 0, .inr ⟨_, _, rfl⟩⟩
theorem reads_of {W : World} (h : laidMetH Tryd.prog LL W) : Reads W := ⟨ahead_of_laid h, txt_of_laid h, pw_of_laid h, ltr_of_laid h⟩
theorem fits_of {x : Int} (h : (Lit.int .i64 x).wf = true) : Fits x := by
  simp [Lit.wf, IntKind.min, IntKind.max, IntKind.signed, IntKind.bits] at h
  unfold Fits; omega
theorem cellsI : Tryd.prog.cellsOf 3 = 1 := by kernel_rfl
theorem cellsD : Tryd.prog.cellsOf 23 = 3 := by kernel_rfl
set_option maxRecDepth 1000000 in
/-- an argument that is a date -/
theorem arg_date {H : Type} {enc : TypeId × Value → H} {W : World} {base : Nat} {v : Value} {d : DataW H} {p : List MemPlace} (hv : Value.okWide Tryd.prog W .any base 23 v)
    (h : DataW.Trod enc Tryd.prog W 0 (fun _ => true) true 23 v d p) : ∃ y m x : Int, v = .agg #[.int .i64 y, .int .i64 m, .int .i64 x] := by
  obtain ⟨cs, rfl, hsz⟩ := okWide_struct Tryd.underlying23 hv
  rw [cellsD] at hsz
  obtain ⟨fuel, hf⟩ := h
  obtain ⟨l⟩ := cs
  match l, hsz with
  | [a, b, c], _ =>
    rw [show Value.cells (Value.agg #[a, b, c]) = #[a, b, c] from rfl] at hf
    obtain ⟨xs, n, _, _, _, hl, hel⟩ := DataW.trod_struct Tryd.underlying23 hf
    match xs, hl with
    | [x0, x1, x2], _ =>
      have k0 := hel 0 _ rfl
      have k1 := hel 1 _ rfl
      have k2 := hel 2 _ rfl
      obtain ⟨z0, e0, _, _⟩ := DataW.trod_int Tryd.underlying3 k0
      obtain ⟨z1, e1, _, _⟩ := DataW.trod_int Tryd.underlying3 k1
      obtain ⟨z2, e2, _, _⟩ := DataW.trod_int Tryd.underlying3 k2
      simp [cellsI] at e0 e1 e2
      subst e0 e1 e2
      exact ⟨z0, z1, z2, rfl⟩
end Go.Proofs.YtbejbagpdjfgmaaDoor
