/-
  THE FRAME OF A LAW of this seat: it answers true and makes new memory alone; what its row lists of tables, as facts for the walks; a start that meets the row's condition.
-/
import Derived.Test.YtakpbgjmblbaiaaDoorAwake
import Derived.Test.YtakpbgjmblbaiaaDoorPostLaw
import Derived.Test.YtakpbgjmblbaiaaDoorShapedAnd
import Derived.Test.YtakpbgjmblbaiaaDoorTie
import Derived.Test.YtakpbgjmblbaiaaDoorCards
import Derived.WalkKit
import Derived.ProofKit
import Derived.Carry
import Derived.OpenShut
import Derived.ShutString
import Derived.LaidMore
import Derived.Lib.LaidTab
import Derived.Stop.Joined
import Derived.Stop.LaidErr
import Derived.SevenTiedAt
import Derived.ChangeMaps5
import Derived.Lay
import Derived.MakeChecks
namespace Go.Proofs.YtakpbgjmblbaiaaDoor
open Go Go.RowKit Go.ChangeShapes Go.WideShapes AbbM

theorem laidOut : laidOutB Tryd.prog = true := by kernel_rfl
theorem ownK : ownKnob Tryd.prog.godebug = none := by kernel_rfl
abbrev LL : List (String × DataW Unit) := [("unicode/utf8.acceptRanges", Rows.laid_unicode_utf8_acceptRanges), ("unicode/utf8.first", Rows.laid_unicode_utf8_first)]
theorem door_met (os : Os) (args : Array Value) : laidMetH Tryd.prog LL ((World.laidAll Tryd.prog os LL).forCall (fun _ _ => 0) ⟨#[], args, []⟩).memory := by
  rw [MakeChecks.laidMetH_plain _ _ _ (by kernel_rfl)]
  exact laidMet_laidAll _ (by kernel_rfl) (by kernel_rfl)
theorem big_of_shaped {W : World} (h : W.ShapedOpen Tryd.prog) : Big W := Tryd.laysM144.s1_3 W h
theorem fits_of {x : Int} (h : (Lit.int .i64 x).wf = true) : -9223372036854775808 ≤ x ∧ x ≤ 9223372036854775807 := by
  simp [Lit.wf, IntKind.min, IntKind.max, IntKind.signed, IntKind.bits] at h
  omega
theorem okWide_array {P : Program} {w : World} {r : Reach} {base : Nat} {t e : TypeId} {n : Nat} {v : Value} (ht : P.underlying t = some (.array n e)) (h : Value.okWide P w r base t v) : ∃ cs, v = .agg cs ∧ cs.size = P.cellsOf t := by
  simp only [Value.okWide, ht] at h
  obtain ⟨cs, h1, h2, _⟩ := h
  exact ⟨cs, h1, h2⟩
theorem cellsA : Tryd.prog.cellsOf 29 = 2 := by kernel_rfl
theorem cellsS : Tryd.prog.cellsOf 9 = 1 := by kernel_rfl
/-- an argument that is two strings -/
theorem arg_str2 {H : Type} {enc : TypeId × Value → H} {W : World} {base : Nat} {v : Value} {d : DataW H} {p : List MemPlace} (hv : Value.okWide Tryd.prog W .any base 29 v)
    (h : DataW.Trod enc Tryd.prog W 0 (fun _ => true) true 29 v d p) : ∃ a b : List UInt8, v = .agg #[.string ⟨a.toArray⟩, .string ⟨b.toArray⟩] := by
  obtain ⟨cs, rfl, hsz⟩ := okWide_array Tryd.underlying29 hv
  rw [cellsA] at hsz
  obtain ⟨fuel, hf⟩ := h
  obtain ⟨l⟩ := cs
  match l, hsz with
  | [x, y], _ =>
    rw [show Value.cells (Value.agg #[x, y]) = #[x, y] from rfl] at hf
    obtain ⟨xs, n, _, _, _, hl, hel⟩ := DataW.trod_array Tryd.underlying29 hf
    match xs, hl with
    | [x0, x1], _ =>
      have k0 := hel 0 (by decide)
      have k1 := hel 1 (by decide)
      obtain ⟨s0, e0, _, _⟩ := DataW.trod_string Tryd.underlying9 k0
      obtain ⟨s1, e1, _, _⟩ := DataW.trod_string Tryd.underlying9 k1
      simp [cellsS] at e0 e1
      subst e0 e1
      obtain ⟨⟨a⟩⟩ := s0
      obtain ⟨⟨b⟩⟩ := s1
      exact ⟨a, b, rfl⟩
theorem cellsJ : Tryd.prog.cellsOf 35 = 2 := by kernel_rfl
theorem cellsI : Tryd.prog.cellsOf 3 = 1 := by kernel_rfl
/-- an argument that is two numbers -/
theorem arg_int2 {H : Type} {enc : TypeId × Value → H} {W : World} {base : Nat} {v : Value} {d : DataW H} {p : List MemPlace} (hv : Value.okWide Tryd.prog W .any base 35 v)
    (h : DataW.Trod enc Tryd.prog W 0 (fun _ => true) true 35 v d p) : ∃ a b : Int, v = .agg #[.int .i64 a, .int .i64 b] := by
  obtain ⟨cs, rfl, hsz⟩ := okWide_array Tryd.underlying35 hv
  rw [cellsJ] at hsz
  obtain ⟨fuel, hf⟩ := h
  obtain ⟨l⟩ := cs
  match l, hsz with
  | [x, y], _ =>
    rw [show Value.cells (Value.agg #[x, y]) = #[x, y] from rfl] at hf
    obtain ⟨xs, n, _, _, _, hl, hel⟩ := DataW.trod_array Tryd.underlying35 hf
    match xs, hl with
    | [x0, x1], _ =>
      have k0 := hel 0 (by decide)
      have k1 := hel 1 (by decide)
      obtain ⟨s0, e0, _, _⟩ := DataW.trod_int Tryd.underlying3 k0
      obtain ⟨s1, e1, _, _⟩ := DataW.trod_int Tryd.underlying3 k1
      simp [cellsI] at e0 e1
      subst e0 e1
      exact ⟨s0, s1, rfl⟩
end Go.Proofs.YtakpbgjmblbaiaaDoor
