/-
  An argument that is a time of a day.
-/
import Derived.Test.YtbejbagpdjfgmaaDoorFrame
namespace Go.Proofs.YtbejbagpdjfgmaaDoor
open Go Go.RowKit Go.ChangeShapes Go.WideShapes Go.ChangeMaps
theorem cellsC : Tryd.prog.cellsOf 39 = 2 := by kernel_rfl
set_option maxRecDepth 1000000 in
theorem arg_clock {H : Type} {enc : TypeId × Value → H} {W : World} {base : Nat} {v : Value} {d : DataW H} {p : List MemPlace} (hv : Value.okWide Tryd.prog W .any base 39 v)
    (h : DataW.Trod enc Tryd.prog W 0 (fun _ => true) true 39 v d p) : ∃ s k : Int, v = .agg #[.int .i64 s, .int .i64 k] := by
  obtain ⟨cs, rfl, hsz⟩ := okWide_struct Tryd.underlying39 hv
  rw [cellsC] at hsz
  obtain ⟨fuel, hf⟩ := h
  obtain ⟨l⟩ := cs
  match l, hsz with
  | [a, b], _ =>
    rw [show Value.cells (Value.agg #[a, b]) = #[a, b] from rfl] at hf
    obtain ⟨xs, n, _, _, _, hl, hel⟩ := DataW.trod_struct Tryd.underlying39 hf
    match xs, hl with
    | [x0, x1], _ =>
      have k0 := hel 0 _ rfl
      have k1 := hel 1 _ rfl
      obtain ⟨z0, e0, _, _⟩ := DataW.trod_int Tryd.underlying3 k0
      obtain ⟨z1, e1, _, _⟩ := DataW.trod_int Tryd.underlying3 k1
      simp [cellsI] at e0 e1
      subst e0 e1
      exact ⟨z0, z1, rfl⟩
end Go.Proofs.YtbejbagpdjfgmaaDoor
