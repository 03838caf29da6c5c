/-
  THE FRAME OF A LAW of this seat: it answers true and makes new memory alone; what its row lists of tables, as facts for the walks; a start that meets the row's condition.
-/
import Derived.Test.YtokcbnmpdbbehaaDoorPrintNo
import Derived.Test.YtokcbnmpdbbehaaDoorPostLaw
import Derived.Test.YtokcbnmpdbbehaaDoorTie
import Derived.Test.YtokcbnmpdbbehaaDoorCards
import Derived.WalkKit
import Derived.ProofKit
import Derived.Carry
import Derived.OpenShut
import Derived.ShutString
import Derived.LaidMore
import Derived.Lib.LaidTab
import Derived.Stop.Joined
import Derived.Stop.LaidErr
import Derived.SevenTiedAt
namespace Go.Proofs.YtokcbnmpdbbehaaDoor
open Go Go.RowKit Go.ChangeShapes Go.WideShapes CivM NumM

theorem laidOut : laidOutB Tryd.prog = true := by kernel_rfl
theorem ownK : ownKnob Tryd.prog.godebug = none := by kernel_rfl
abbrev L4 : List (String × DataW Unit) := [("math/bits.deBruijn32tab", Rows.laid_math_bits_deBruijn32tab), ("math/bits.deBruijn64tab", Rows.laid_math_bits_deBruijn64tab), ("internal/strconv.uint64pow10", Rows.laid_internal_strconv_uint64pow10), ("meridian/civil.ahead", Rows.laid_meridian_civil_ahead)]
theorem door_met (os : Os) (args : Array Value) : laidMetH Tryd.prog L4 ((World.doorLaid Tryd.prog 2000 os).forCall (fun _ _ => 0) ⟨#[], args, []⟩).memory :=
  laidMetH_of_parts3 (fuel := 8) (laidMet_of_run' 8 (by kernel_rfl) (by kernel_rfl)) (by kernel_rfl) (by kernel_rfl)
theorem pow_of_laid {W : World} (h : laidMetH Tryd.prog L4 W) : Pow W := by
  rw [MakeChecks.laidMetH_plain _ _ _ (by kernel_rfl)] at h
  exact Lib.tabIs_of_head (g := 1) (t := 83) (by kernel_rfl) (by kernel_rfl) Tryd.underlying83 Tryd.underlying70 (by kernel_rfl) (by kernel_rfl) h.tail.tail
theorem ahead_of_laid {W : World} (h : laidMetH Tryd.prog L4 W) : Ahead W := by
  rw [MakeChecks.laidMetH_plain _ _ _ (by kernel_rfl)] at h
  have := Lib.tabIs_of_head (zs := [0, 31, 59, 90, 120, 151, 181, 212, 243, 273, 304, 334, 365]) (g := 0) (t := 47) (by kernel_rfl) (by kernel_rfl) Tryd.underlying47 Tryd.underlying3 (by kernel_rfl) (by kernel_rfl) h.tail.tail.tail
  intro k hk
  rw [this.cell (by kernel_rfl) k hk]
  have : ∀ k, k < 13 → ([0, 31, 59, 90, 120, 151, 181, 212, 243, 273, 304, 334, 365] : List Int).getD k 0 = ah (k + 1) := by decide
  rw [this k hk]
theorem fits_of {x : Int} (h : (Lit.int .i64 x).wf = true) : Fits x := by
  simp [Lit.wf, IntKind.min, IntKind.max, IntKind.signed, IntKind.bits] at h
  unfold Fits; omega
theorem cellsD : Tryd.prog.cellsOf 23 = 3 := by kernel_rfl
theorem cellsI : Tryd.prog.cellsOf 3 = 1 := by kernel_rfl
/-- an argument that is a date -/
theorem arg_date {H : Type} {enc : TypeId × Value → H} {W : World} {base : Nat} {v : Value} {d : DataW H} {p : List MemPlace} (hv : Value.okWide Tryd.prog W .any base 23 v)
    (h : DataW.Trod enc Tryd.prog W 0 (fun _ => true) true 23 v d p) : ∃ y m x : Int, v = .agg #[.int .i64 y, .int .i64 m, .int .i64 x] ∧ Fits y ∧ Fits m ∧ Fits x := by
  obtain ⟨cs, rfl, hsz⟩ := okWide_struct Tryd.underlying23 hv
  rw [cellsD] at hsz
  obtain ⟨fuel, hf⟩ := h
  obtain ⟨l⟩ := cs
  match l, hsz with
  | [a, b, c], _ =>
    rw [show Value.cells (Value.agg #[a, b, c]) = #[a, b, c] from rfl] at hf
    obtain ⟨xs, n, _, _, _, hl, hel⟩ := DataW.trod_struct Tryd.underlying23 hf
    match xs, hl with
    | [x0, x1, x2], _ =>
      have k0 := hel 0 _ rfl
      have k1 := hel 1 _ rfl
      have k2 := hel 2 _ rfl
      obtain ⟨z0, e0, _, f0⟩ := DataW.trod_int Tryd.underlying3 k0
      obtain ⟨z1, e1, _, f1⟩ := DataW.trod_int Tryd.underlying3 k1
      obtain ⟨z2, e2, _, f2⟩ := DataW.trod_int Tryd.underlying3 k2
      simp [cellsI] at e0 e1 e2
      subst e0 e1 e2
      exact ⟨z0, z1, z2, rfl, fits_of f0, fits_of f1, fits_of f2⟩
end Go.Proofs.YtokcbnmpdbbehaaDoor
