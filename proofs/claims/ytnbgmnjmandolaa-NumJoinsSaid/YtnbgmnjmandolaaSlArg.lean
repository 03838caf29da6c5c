/-
  An argument that is a slice of ints: what a walk may know of it.
-/
import Derived.Test.YtnbgmnjmandolaaNumSums
import Derived.ChangeSlices
namespace Go.Proofs.Ytnbgmnjmandolaa
open Go Go.RowKit Go.ChangeShapes Go.WideShapes NumM

theorem fits_of {x : Int} (h : (Lit.int .i64 x).wf = true) : Fits x := by
  simp [Lit.wf, IntKind.min, IntKind.max, IntKind.signed, IntKind.bits] at h
  unfold Fits; omega
theorem cellsInt : Try.prog.cellsOf 3 = 1 := by kernel_rfl
theorem arg_ints {H : Type} {enc : TypeId × Value → H} {W : World} {base : Nat} {v : Value} {d : DataW H} {p : List MemPlace} (hv : Value.okWide Try.prog W .any base 32 v)
    (h : DataW.Trod enc Try.prog W 0 (fun _ => true) true 32 v d p) : ∃ (ad : Option Addr) (n cap : Nat) (z : Nat → Int), v = .slice ad n cap ∧ Sl W ad n z ∧ (∀ k, k < n → Fits (z k)) ∧ n ≤ 9223372036854775807 := by
  obtain ⟨ad, n, cap, rfl⟩ := okWide_slice Try.underlying32 hv
  obtain ⟨fuel, hf⟩ := h
  rcases Go.ChangeShapes.open_ints Try.underlying32 Try.underlying3 cellsInt hf with ⟨hcs, _⟩ | ⟨a, len, cap', zs, hcs, _, hl, hm, hz, _, hcell, hwz⟩
  · simp [Value.cells] at hcs
    obtain ⟨rfl, rfl, rfl⟩ := hcs
    exact ⟨none, 0, 0, fun _ => 0, rfl, .inl rfl, fun k hk => by omega, by omega⟩
  · simp [Value.cells] at hcs
    obtain ⟨rfl, rfl, rfl⟩ := hcs
    simp at hz
    unfold maxLen at hm
    refine ⟨some a, n, cap, fun k => zs.getD k 0, rfl, ?_, fun k hk => ?_, by omega⟩
    · by_cases h0 : n = 0
      · exact .inl h0
      · obtain ⟨b, off, rfl, hc⟩ := ints_at hcell (by omega)
        have h1 := hc 0 (by omega)
        exact .inr ⟨b, off, rfl, block_lt_of_cell h1, fun k hk => hc k (by omega)⟩
    · have hk' : k < zs.length := by omega
      have : zs.getD k 0 = zs[k] := by simp [hk']
      show Fits (zs.getD k 0)
      rw [this]
      exact fits_of (hwz _ (List.getElem_mem hk'))
end Go.Proofs.Ytnbgmnjmandolaa
