/-
  PROVED: the law CivilBack answers true at every input, and leaves its arguments as they were. No condition but what the card lists: the tables of the program's own text.
-/
import Derived.Test.YtokcbnmpdbbehaaDoorFrame
import Derived.Test.YtokcbnmpdbbehaaDoorBack
namespace Go.Proofs.YtokcbnmpdbbehaaDoor.civilBack
open Go Go.RowKit Go.ChangeShapes Go.WideShapes CivM NumM

set_option maxRecDepth 100000 in
theorem lifted (os : Os) (started : os.Started) (H : Type) (enc : TypeId × Value → H) :
    ReturnsInHanded {} Tryd.checked os 6 .any (fun w args => (Rows.civilBackSpec.pre enc Tryd.prog Tryd.f6 [] false w args ∧ laidMetH Tryd.prog L4 w) ∧ sizedMet enc Tryd.prog Tryd.f6 (OpenSpec.ofChange Rows.civilBackSpec) false w args)
      (Rows.civilBackSpec.post enc Tryd.prog Tryd.f6 false true false false) := by
  refine returnsInHanded_of_change_and (C := Tryd.checked) (X := fun w _ => laidMetH Tryd.prog L4 w) (fun _ _ _ hh h => h.of_heap hh) ownK started (by kernel_rfl) Tryd.func6
    (ChangeSpec.witness_shaped (enc := enc) (C := Tryd.checked) (os := os) (X := fun w _ => laidMetH Tryd.prog L4 w) false (World.doorLaid Tryd.prog 2000 os) #[.int .i64 0] 8 rfl (World.shaped_of_RefB (by kernel_rfl) (by kernel_rfl)) (by kernel_rfl) (by kernel_rfl) (by kernel_rfl) (door_met os _)) ?_
  intro W base args ds gs before hval0 hW _ _ hL _
  have hval : ∀ (j : Nat) t v, Tryd.f6.params[j]? = some t → args[j]? = some v → Value.okWide Tryd.prog W .any base t v := hval0
  have hW' := hW
  obtain ⟨p, q, hA0, hV, rfl, _, _⟩ := hW
  have hA : DataW.TrodAll enc Tryd.prog W 0 (fun _ => true) true Tryd.f6.params.toList args.toList ds p := hA0
  rw [Tryd.params6] at hA hval
  obtain ⟨rfl, rfl⟩ := trodVars_none hV
  obtain ⟨v0, d0, rfl, rfl, h0⟩ := trodAll_one hA
  obtain ⟨n, rfl, rfl, rfl, wn⟩ := open_int Tryd.underlying3 (hval 0 3 v0 rfl rfl) h0
  clear hA0 hval0
  have hend : ∀ e W', One W e W' → ∃ v, e = .returned v ∧ Rows.civilBackSpec.post enc Tryd.prog Tryd.f6 false true false false W _ v W' := fun e W' ⟨he, hb⟩ =>
    ⟨_, he, post_law hW' laidOut rfl rfl Tryd.underlying4 (by kernel_rfl) rfl hb⟩
  have HA := ahead_of_laid hL
  have HP := pow_of_laid hL
  by_cases hr : -37243778 ≤ n ∧ n ≤ 35805087
  · obtain ⟨y, m, d, hv, rfl⟩ := date_ex n hr
    by_cases hd : d < dim y m
    · by_cases f1 : y = 100000
      · by_cases f2 : m = 12
        · exact (walk_a3 y m d W HA HP hv hd (by subst f2; have : dim y 12 = 31 := by simp [dim]
                                                 simp; omega)).mono hend
        · exact (walk_a2 y m d W HA HP hv hd (by simpa using f2)).mono hend
      · exact (walk_a1 y m d W HA HP hv hd (by simpa using f1)).mono hend
    · have hd2 : d = dim y m := by have := hv.d2; omega
      by_cases hm : m < 12
      · exact (walk_b y m d W HA HP hv hd2 hm).mono hend
      · obtain rfl : m = 12 := by have := hv.m2; omega
        by_cases hy : y < 100000
        · exact (walk_c y d W HA HP hv hd2 hy).mono hend
        · exact (walk_last y 12 d W HA HP hv (by have := hv.y2; omega) rfl (by rw [hd2]; simp [dim])).mono hend
  · exact (walk_no n W HA HP (fits_of wn) hr).mono hend
/-- the row's statement -/
theorem said : Rows.CivilBackSaid :=
  OpenClaim.holds_of_wide 6 Tryd.f6 rfl rfl rfl rfl rfl rfl rfl ⟨rfl, rfl, rfl, rfl, rfl⟩ rfl rfl rfl rfl rfl (by kernel_rfl) Tryd.func6 (by kernel_rfl)
    (of_decide_eq_true (by kernel_rfl)) (by unfold Func.isWrapper; rw [if_neg (of_decide_eq_false (by kernel_rfl))]; exact ⟨rfl, rfl⟩)
    (fun os started H enc _ => lifted os started H enc)
/-- THE STATEMENT -/
theorem proved : Rows.CivilBackCardSaid :=
  Claim7.holds_tied_plain_at .later [] [.data, .data, .data, .data] true (true, "9e32138ee3a3aee0e18526154a2034bbcf655649948c17ad9f96567d15ad8b7e") false
    said (fun _ h => by cases h) (by kernel_rfl) (fun _ h => by cases h) civilBack_row_tie rfl ⟨rfl, rfl⟩ (by kernel_rfl) rfl
    (fun f fn hf hfn => by
      obtain rfl : f = 6 := Option.some.inj ((show Tryd.prog.funcNamed "meridian/meridianlaw02.CivilBack" = some 6 by kernel_rfl).symm.trans hf) |>.symm
      obtain rfl : fn = Tryd.f6 := (Option.some.inj (Tryd.func6.symm.trans hfn)).symm
      exact ⟨by kernel_rfl, fun j t ht => by
        rw [Tryd.params6] at ht
        have hm : t ∈ [3] := by
          have := Array.mem_of_getElem? ht
          simp at this
          simp
          omega
        have hall : ([3].all fun u => !Tryd.prog.wantsStandIn u) = true := by kernel_rfl
        exact (show Tryd.prog.wantsStandIn t = false by simpa using List.all_eq_true.1 hall t hm)⟩)
    (by kernel_rfl)
#print axioms proved
end Go.Proofs.YtokcbnmpdbbehaaDoor.civilBack
