/-
  An argument that is a small array of ints.
-/
import Derived.Test.YtnbgmnjmandolaaSlArg
namespace Go.Proofs.Ytnbgmnjmandolaa
open Go Go.RowKit Go.ChangeShapes Go.WideShapes NumM

theorem okWide_array {P : Program} {w : World} {r : Reach} {base : Nat} {t e : TypeId} {n : Nat} {v : Value} (ht : P.underlying t = some (.array n e)) (h : Value.okWide P w r base t v) : ∃ cs, v = .agg cs ∧ cs.size = P.cellsOf t := by
  simp only [Value.okWide, ht] at h
  obtain ⟨cs, h1, h2, _⟩ := h
  exact ⟨cs, h1, h2⟩
theorem arr_cells {H : Type} {enc : TypeId × Value → H} {P : Program} {W : World} {base n : Nat} {t e : TypeId} {v : Value} {d : DataW H} {p : List MemPlace} (ht : P.underlying t = some (.array n e)) (he : P.underlying e = some (.int .i64)) (hce : P.cellsOf e = 1) (hct : P.cellsOf t = n)
    (hv : Value.okWide P W .any base t v) (h : DataW.Trod enc P W 0 (fun _ => true) true t v d p) : ∃ z : Nat → Int, v = .agg ((List.range n).map fun j => Value.int .i64 (z j)).toArray ∧ (∀ j, j < n → Fits (z j)) := by
  obtain ⟨cs, rfl, hsz⟩ := okWide_array ht hv
  obtain ⟨fuel, hf⟩ := h
  obtain ⟨xs, m, _, _, _, hl, hel⟩ := DataW.trod_array ht hf
  rw [hct] at hsz
  have hstep : ∀ j, j < n → ∃ z, cs[j]? = some (.int .i64 z) ∧ Fits z := by
    intro j hj
    have h1 := hel j hj
    rw [hce] at h1
    have h2 : ((cs.toList.drop (j * 1)).take 1) = [cs[j]'(by omega)] := by
      rw [Nat.mul_one, List.drop_eq_getElem_cons (by simp; omega)]
      simp
    rw [show Value.cells (Value.agg cs) = cs from rfl, h2] at h1
    have h4 : xs[j]? = some (xs[j]'(by omega)) := by simp
    rw [h4] at h1
    obtain ⟨z, h5, _, hw⟩ := DataW.trod_int he h1
    refine ⟨z, ?_, fits_of hw⟩
    rw [Array.getElem?_eq_getElem (by omega)]
    simpa using h5
  have : ∀ k, k ≤ n → ∃ z : Nat → Int, ∀ j, j < k → cs[j]? = some (.int .i64 (z j)) ∧ Fits (z j) := by
    intro k hk
    induction k with
    | zero => exact ⟨fun _ => 0, fun j hj => by omega⟩
    | succ k ih =>
      obtain ⟨z, hz⟩ := ih (by omega)
      obtain ⟨y, hy⟩ := hstep k (by omega)
      refine ⟨fun j => if j = k then y else z j, fun j hj => ?_⟩
      by_cases e : j = k
      · subst e; simpa using hy
      · simpa [e] using hz j (by omega)
  obtain ⟨z, hz⟩ := this n (Nat.le_refl _)
  refine ⟨z, ?_, fun j hj => (hz j hj).2⟩
  congr 1
  apply Array.ext_getElem?
  intro j
  by_cases hj : j < n
  · rw [(hz j hj).1]; simp [hj]
  · rw [Array.getElem?_eq_none (by omega)]; simp [hj]
end Go.Proofs.Ytnbgmnjmandolaa
