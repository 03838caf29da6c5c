/-
  PROVED: the law NumParts answers true at every two ints, and leaves its arguments as they were. No condition.
-/
import Derived.Test.YtnbgmnjmandolaaNumParts
namespace Go.Proofs.Ytnbgmnjmandolaa.numParts
open Go Go.RowKit Go.ChangeShapes Go.WideShapes NumM

theorem fits_of {x : Int} (h : (Lit.int .i64 x).wf = true) : Fits x := by
  simp [Lit.wf, IntKind.min, IntKind.max, IntKind.signed, IntKind.bits] at h
  unfold Fits; omega
theorem walk (a b : Int) (ha : Fits a) (hb : Fits b) (w : World) : Calls Try.prog 3 #[.int .i64 a, .int .i64 b] w (One w) := by
  by_cases h0 : b = 0
  · exact parts_zero a b w h0
  · by_cases h1 : b = -1
    · subst h1
      by_cases h2 : a = -9223372036854775808
      · subst h2; exact parts_over w
      · refine parts_plain a (-1) w ha hb h0 ?_ (fun w => div_neg a w ha h2)
        have := (Int.fdiv_fmod_unique' (a := a) (r := 0) (q := -a) (b := -1) (by omega)).2 ⟨by omega, by omega, by omega⟩
        rw [this.1]
        unfold Fits at *; omega
    · refine parts_plain a b w ha hb h0 ?_ (fun w => div_plain a b w ha h0 h1)
      exact fits_fdiv a b ha h0 h1
set_option maxRecDepth 100000 in
theorem lifted (os : Os) (started : os.Started) (H : Type) (enc : TypeId × Value → H) :
    ReturnsInHanded {} Try.checked os 3 .any (Rows.numPartsSpec.pre6 enc Try.prog Try.f3 Rows.numPartsRow.domain false) (Rows.numPartsSpec.post enc Try.prog Try.f3 false true false false) := by
  refine returnsInHanded_of_change (C := Try.checked) ownK started (by kernel_rfl) Try.func3
    (ChangeSpec.witness6 (enc := enc) (C := Try.checked) false ⟨#[], #[.int .i64 0, .int .i64 0], []⟩ 8 (by kernel_rfl) (by kernel_rfl) (by kernel_rfl) (by kernel_rfl)) ?_
  intro W base args ds gs before hval0 hW _ _
  have hval : ∀ (j : Nat) t v, Try.f3.params[j]? = some t → args[j]? = some v → Value.okWide Try.prog W .any base t v := hval0
  have hW' := hW
  obtain ⟨p, q, hA0, hV, rfl, _, _⟩ := hW
  have hA : DataW.TrodAll enc Try.prog W 0 (fun _ => true) true Try.f3.params.toList args.toList ds p := hA0
  rw [Try.params3] at hA hval
  obtain ⟨v0, v1, d0, d1, p0, p1, rfl, rfl, rfl, h0, h1⟩ := trodAll_two hA
  obtain ⟨rfl, rfl⟩ := trodVars_none hV
  obtain ⟨a, rfl, rfl, rfl, wa⟩ := open_int Try.underlying3 (hval 0 3 v0 rfl rfl) h0
  obtain ⟨b, rfl, rfl, rfl, wb⟩ := open_int Try.underlying3 (hval 1 3 v1 rfl rfl) h1
  clear hA0 hval0
  refine (walk a b (fits_of wa) (fits_of wb) W).mono fun e W' ⟨he, hb⟩ => ?_
  subst he
  exact ⟨_, rfl, post_law hW' laidOut rfl rfl Try.underlying4 (by kernel_rfl) rfl hb⟩
/-- THE STATEMENT -/
theorem proved : Rows.NumPartsSaid :=
  OpenClaim.holds_of_wide 3 Try.f3 rfl rfl rfl rfl rfl rfl rfl ⟨rfl, rfl, rfl, rfl, rfl⟩ rfl rfl rfl rfl rfl (by kernel_rfl) Try.func3 (by kernel_rfl)
    (of_decide_eq_true (by kernel_rfl)) (by unfold Func.isWrapper; rw [if_neg (of_decide_eq_false (by kernel_rfl))]; exact ⟨rfl, rfl⟩)
    (fun os started H enc _ => lifted os started H enc)
#print axioms proved
end Go.Proofs.Ytnbgmnjmandolaa.numParts
