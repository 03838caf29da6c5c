/-
  PROVED: the law NumOrder answers true at every pair, every slice of ints and every beginning, and leaves its arguments as they were. No condition.
-/
import Derived.Test.YtnbgmnjmandolaaNumOrder
import Derived.Test.YtnbgmnjmandolaaArrArg
namespace Go.Proofs.Ytnbgmnjmandolaa.numOrder
open Go Go.RowKit Go.ChangeShapes Go.WideShapes NumM

theorem many (x y f : Int) (ad : Option Addr) (n cap : Nat) (w : World) (h63 : n ≤ 9223372036854775807) (hn : 40 < n) :
    Calls Try.prog 5 #[.agg #[.int .i64 x, .int .i64 y], .slice ad n cap, .int .i64 f] w (One w) := by
  go_enter Try.func5, Try.ntmps5
  go_wp2_with fail
  refine (awake_any _).mono ?_
  rintro e w' ⟨rfl, rfl⟩
  go_wp2_with fail
  go_ret
  exact ⟨rfl, (Below.refl _ _).alloc (Nat.le_refl _) _⟩
theorem cells2 : Try.prog.cellsOf 38 = 2 := by kernel_rfl
set_option maxRecDepth 100000 in
theorem lifted (os : Os) (started : os.Started) (H : Type) (enc : TypeId × Value → H) :
    ReturnsInHanded {} Try.checked os 5 .any (Rows.numOrderSpec.pre6 enc Try.prog Try.f5 Rows.numOrderRow.domain false) (Rows.numOrderSpec.post enc Try.prog Try.f5 false true false false) := by
  refine returnsInHanded_of_change (C := Try.checked) ownK started (by kernel_rfl) Try.func5
    (ChangeSpec.witness6 (enc := enc) (C := Try.checked) false ⟨#[], #[.agg #[.int .i64 0, .int .i64 0], .slice none 0 0, .int .i64 0], []⟩ 8 (by kernel_rfl) (by kernel_rfl) (by kernel_rfl) (by kernel_rfl)) ?_
  intro W base args ds gs before hval0 hW _ _
  have hval : ∀ (j : Nat) t v, Try.f5.params[j]? = some t → args[j]? = some v → Value.okWide Try.prog W .any base t v := hval0
  have hW' := hW
  obtain ⟨p, q, hA0, hV, rfl, _, _⟩ := hW
  have hA : DataW.TrodAll enc Try.prog W 0 (fun _ => true) true Try.f5.params.toList args.toList ds p := hA0
  rw [Try.params5] at hA hval
  obtain ⟨v0, v1, v2, d0, d1, d2, p0, p1, p2, rfl, rfl, rfl, h0, h1, h2⟩ := trodAll_three hA
  obtain ⟨rfl, rfl⟩ := trodVars_none hV
  obtain ⟨xy, rfl, hxy⟩ := arr_cells Try.underlying38 Try.underlying3 cellsInt cells2 (hval 0 38 v0 rfl rfl) h0
  obtain ⟨ad, n, cap, z, rfl, hs, hz, h63⟩ := arg_ints (hval 1 32 v1 rfl rfl) h1
  obtain ⟨f, rfl, rfl, rfl, wf⟩ := open_int Try.underlying3 (hval 2 3 v2 rfl rfl) h2
  clear hA0 hval0
  have hend : ∀ e W', One W e W' → ∃ v, e = .returned v ∧ Rows.numOrderSpec.post enc Try.prog Try.f5 false true false false W _ v W' := fun e W' ⟨he, hb⟩ =>
    ⟨_, he, post_law hW' laidOut rfl rfl Try.underlying4 (by kernel_rfl) rfl hb⟩
  by_cases hn : n ≤ 40
  · exact (walk (xy 0) (xy 1) f z ad n cap W (hxy 0 (by omega)) (hxy 1 (by omega)) hn hs hz).mono hend
  · exact (many (xy 0) (xy 1) f ad n cap W h63 (by omega)).mono hend
/-- THE STATEMENT -/
theorem proved : Rows.NumOrderSaid :=
  OpenClaim.holds_of_wide 5 Try.f5 rfl rfl rfl rfl rfl rfl rfl ⟨rfl, rfl, rfl, rfl, rfl⟩ rfl rfl rfl rfl rfl (by kernel_rfl) Try.func5 (by kernel_rfl)
    (of_decide_eq_true (by kernel_rfl)) (by unfold Func.isWrapper; rw [if_neg (of_decide_eq_false (by kernel_rfl))]; exact ⟨rfl, rfl⟩)
    (fun os started H enc _ => lifted os started H enc)
#print axioms proved
end Go.Proofs.Ytnbgmnjmandolaa.numOrder
