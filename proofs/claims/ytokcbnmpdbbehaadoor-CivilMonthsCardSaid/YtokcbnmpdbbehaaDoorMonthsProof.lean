/-
  PROVED: the law CivilMonths answers true at every input, and leaves its arguments as they were. No condition but what the card lists: the tables of the program's own text.
-/
import Derived.Test.YtokcbnmpdbbehaaDoorFrame
import Derived.Test.YtokcbnmpdbbehaaDoorMonths
namespace Go.Proofs.YtokcbnmpdbbehaaDoor.civilMonths
open Go Go.RowKit Go.ChangeShapes Go.WideShapes CivM NumM

set_option maxRecDepth 100000 in
theorem lifted (os : Os) (started : os.Started) (H : Type) (enc : TypeId × Value → H) :
    ReturnsInHanded {} Tryd.checked os 3 .any (fun w args => (Rows.civilMonthsSpec.pre enc Tryd.prog Tryd.f3 [] false w args ∧ laidMetH Tryd.prog L4 w) ∧ sizedMet enc Tryd.prog Tryd.f3 (OpenSpec.ofChange Rows.civilMonthsSpec) false w args)
      (Rows.civilMonthsSpec.post enc Tryd.prog Tryd.f3 false true false false) := by
  refine returnsInHanded_of_change_and (C := Tryd.checked) (X := fun w _ => laidMetH Tryd.prog L4 w) (fun _ _ _ hh h => h.of_heap hh) ownK started (by kernel_rfl) Tryd.func3
    (ChangeSpec.witness_shaped (enc := enc) (C := Tryd.checked) (os := os) (X := fun w _ => laidMetH Tryd.prog L4 w) false (World.doorLaid Tryd.prog 2000 os) #[.int .i64 0, .int .i64 0, .agg #[.int .i64 0, .int .i64 0, .int .i64 0]] 8 rfl (World.shaped_of_RefB (by kernel_rfl) (by kernel_rfl)) (by kernel_rfl) (by kernel_rfl) (by kernel_rfl) (door_met os _)) ?_
  intro W base args ds gs before hval0 hW _ _ hL _
  have hval : ∀ (j : Nat) t v, Tryd.f3.params[j]? = some t → args[j]? = some v → Value.okWide Tryd.prog W .any base t v := hval0
  have hW' := hW
  obtain ⟨p, q, hA0, hV, rfl, _, _⟩ := hW
  have hA : DataW.TrodAll enc Tryd.prog W 0 (fun _ => true) true Tryd.f3.params.toList args.toList ds p := hA0
  rw [Tryd.params3] at hA hval
  obtain ⟨v0, v1, v2, d0, d1, d2, p0, p1, p2, rfl, rfl, rfl, h0, h1, h2⟩ := trodAll_three hA
  obtain ⟨rfl, rfl⟩ := trodVars_none hV
  obtain ⟨a, rfl, rfl, rfl, wa⟩ := open_int Tryd.underlying3 (hval 0 3 v0 rfl rfl) h0
  obtain ⟨b, rfl, rfl, rfl, wb⟩ := open_int Tryd.underlying3 (hval 1 3 v1 rfl rfl) h1
  obtain ⟨y, m, d, rfl, _, _, _⟩ := arg_date (hval 2 23 v2 rfl rfl) h2
  clear hA0 hval0
  have hend : ∀ e W', One W e W' → ∃ v, e = .returned v ∧ Rows.civilMonthsSpec.post enc Tryd.prog Tryd.f3 false true false false W _ v W' := fun e W' ⟨he, hb⟩ =>
    ⟨_, he, post_law hW' laidOut rfl rfl Tryd.underlying4 (by kernel_rfl) rfl hb⟩
  by_cases hr : -100000 ≤ a ∧ a ≤ 100000 ∧ 1 ≤ b ∧ b ≤ 12
  · exact (walk_ok a b y m d W (ahead_of_laid hL) (pow_of_laid hL) hr.1 hr.2.1 hr.2.2.1 hr.2.2.2).mono hend
  · exact (walk_no a b y m d W (ahead_of_laid hL) (pow_of_laid hL) hr).mono hend
/-- the row's statement -/
theorem said : Rows.CivilMonthsSaid :=
  OpenClaim.holds_of_wide 3 Tryd.f3 rfl rfl rfl rfl rfl rfl rfl ⟨rfl, rfl, rfl, rfl, rfl⟩ rfl rfl rfl rfl rfl (by kernel_rfl) Tryd.func3 (by kernel_rfl)
    (of_decide_eq_true (by kernel_rfl)) (by unfold Func.isWrapper; rw [if_neg (of_decide_eq_false (by kernel_rfl))]; exact ⟨rfl, rfl⟩)
    (fun os started H enc _ => lifted os started H enc)
/-- THE STATEMENT -/
theorem proved : Rows.CivilMonthsCardSaid :=
  Claim7.holds_tied_plain_at .later [] [.data, .data, .data, .data] true (true, "9e32138ee3a3aee0e18526154a2034bbcf655649948c17ad9f96567d15ad8b7e") false
    said (fun _ h => by cases h) (by kernel_rfl) (fun _ h => by cases h) civilMonths_row_tie rfl ⟨rfl, rfl⟩ (by kernel_rfl) rfl
    (fun f fn hf hfn => by
      obtain rfl : f = 3 := Option.some.inj ((show Tryd.prog.funcNamed "meridian/meridianlaw02.CivilMonths" = some 3 by kernel_rfl).symm.trans hf) |>.symm
      obtain rfl : fn = Tryd.f3 := (Option.some.inj (Tryd.func3.symm.trans hfn)).symm
      exact ⟨by kernel_rfl, fun j t ht => by
        rw [Tryd.params3] at ht
        have hm : t ∈ [3, 23] := by
          have := Array.mem_of_getElem? ht
          simp at this
          simp
          omega
        have hall : ([3, 23].all fun u => !Tryd.prog.wantsStandIn u) = true := by kernel_rfl
        exact (show Tryd.prog.wantsStandIn t = false by simpa using List.all_eq_true.1 hall t hm)⟩)
    (by kernel_rfl)
#print axioms proved
end Go.Proofs.YtokcbnmpdbbehaaDoor.civilMonths
