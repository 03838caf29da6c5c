/-
  PROVED: the law WordsYears answers true at every input, and leaves its arguments as they were. No condition but what the card lists: tables and errors of the program's own text and of Go's own library.
-/
import Derived.Test.YtcfcfoiphadmkaaDoorFrame6
import Derived.Test.YtcfcfoiphadmkaaDoorYearsLaw
namespace Go.Proofs.YtcfcfoiphadmkaaDoor.wordsYears
open Go Go.RowKit Go.ChangeShapes Go.WideShapes Go.ChangeMaps

theorem star : ("*errors.errorString" : String) = "*" ++ "errors.errorString" := by decide
theorem row_err (u : TypeId) (h : Tryd.prog.typeName? 3 u = some "*errors.errorString") : u = 81 :=
  typeName_ptr_named (nm := "errors.errorString") (by rw [← star]; kernel_rfl) (by kernel_rfl) (by decide) u (by rw [← star]; exact h)
theorem txt_of_laid {W : World} (h : laidMetH Tryd.prog LL W) : Txt W := by
  rw [MakeChecks.laidMetH_plain _ _ _ (by kernel_rfl)] at h
  refine ⟨?_, ?_, Lib.tabIs_of_head (g := 4) (t := 86) (by kernel_rfl) (by kernel_rfl) Tryd.underlying86 Tryd.underlying67 (by kernel_rfl) (by kernel_rfl) h.tail.tail⟩
  · obtain ⟨a1, s1, e1, _⟩ := laid_sentinel (g := 2) (ts := 9) h.tail.tail.tail.tail (by kernel_rfl) (by kernel_rfl) Tryd.underlying45 row_err Tryd.underlying81 Tryd.underlying83 rfl rfl Tryd.underlying9 (by kernel_rfl) (by kernel_rfl)
    exact ⟨_, World.var?_cell (by kernel_rfl) e1 0, .inr ⟨_, _, rfl⟩⟩
  · obtain ⟨a1, s1, e1, _⟩ := laid_sentinel (g := 3) (ts := 9) h.tail.tail.tail (by kernel_rfl) (by kernel_rfl) Tryd.underlying45 row_err Tryd.underlying81 Tryd.underlying83 rfl rfl Tryd.underlying9 (by kernel_rfl) (by kernel_rfl)
    exact ⟨_, World.var?_cell (by kernel_rfl) e1 0, .inr ⟨_, _, rfl⟩⟩
set_option maxRecDepth 100000 in
theorem lifted (os : Os) (started : os.Started) (H : Type) (enc : TypeId × Value → H) :
    ReturnsInHanded {} Tryd.checked os 3 .any (fun w args => (Rows.wordsYearsSpec.pre enc Tryd.prog Tryd.f3 [] false w args ∧ laidMetH Tryd.prog LL w) ∧ sizedMet enc Tryd.prog Tryd.f3 (OpenSpec.ofChange Rows.wordsYearsSpec) false w args)
      (Rows.wordsYearsSpec.post enc Tryd.prog Tryd.f3 false true false false) := by
  refine returnsInHanded_and_shaped (C := Tryd.checked) (X := fun w _ => laidMetH Tryd.prog LL w) (fun _ _ _ hh h => h.of_heap hh) ownK started (by kernel_rfl) Tryd.func3
    (ChangeSpec.witness_shaped (enc := enc) (C := Tryd.checked) (os := os) (X := fun w _ => laidMetH Tryd.prog LL w) false (World.laidAll Tryd.prog os LL) #[.string ⟨#[]⟩, .int .i64 0] 8 (World.laidAll_os _ _ _) (World.shaped_of_ZipB (by kernel_rfl) (by kernel_rfl)) (by kernel_rfl) (by kernel_rfl) (by kernel_rfl) (door_met os _)) ?_
  intro W base args ds gs before hval0 hW hL hsh
  have hval : ∀ (j : Nat) t v, Tryd.f3.params[j]? = some t → args[j]? = some v → Value.okWide Tryd.prog W .any base t v := hval0
  have hW' := hW
  obtain ⟨p, q, hA0, hV, rfl, _, _⟩ := hW
  have hA : DataW.TrodAll enc Tryd.prog W 0 (fun _ => true) true Tryd.f3.params.toList args.toList ds p := hA0
  rw [Tryd.params3] at hA hval
  obtain ⟨rfl, rfl⟩ := trodVars_none hV
  obtain ⟨v0, v1, d0, d1, p0, p1, rfl, rfl, rfl, h0, h1⟩ := trodAll_two hA
  obtain ⟨s, rfl, rfl, rfl, ws⟩ := open_string Tryd.underlying9 (hval 0 9 v0 rfl rfl) h0
  obtain ⟨n, rfl, rfl, rfl, wn⟩ := open_int Tryd.underlying3 (hval 1 3 v1 rfl rfl) h1
  clear hA0 hval0
  have hend : ∀ e W', One W e W' → ∃ v, e = .returned v ∧ Rows.wordsYearsSpec.post enc Tryd.prog Tryd.f3 false true false false W _ v W' := fun e W' ⟨he, hb⟩ =>
    ⟨_, he, post_law hW' laidOut rfl rfl Tryd.underlying4 (by kernel_rfl) rfl hb⟩
  obtain ⟨⟨l⟩⟩ := s
  exact (walk l n W (mon_of_laid hL) (txt_of_laid hL)).mono hend
/-- the row's statement -/
theorem said : Rows.WordsYearsSaid :=
  OpenClaim.holds_of_wide 3 Tryd.f3 rfl rfl rfl rfl rfl rfl rfl ⟨rfl, rfl, rfl, rfl, rfl⟩ rfl rfl rfl rfl rfl (by kernel_rfl) Tryd.func3 (by kernel_rfl)
    (of_decide_eq_true (by kernel_rfl)) (by unfold Func.isWrapper; rw [if_neg (of_decide_eq_false (by kernel_rfl))]; exact ⟨rfl, rfl⟩)
    (fun os started H enc _ => lifted os started H enc)
/-- THE STATEMENT -/
theorem proved : Rows.WordsYearsCardSaid :=
  Claim7.holds_tied_plain_at .later [] [.data, .data, .data, .sentinel, .sentinel, .widerDeep] true (true, "4e7d49af079328704f4e736b9f981035f765a53e75ae764e4153161375287f29") true
    said (fun _ h => by cases h) (by kernel_rfl) (fun _ h => by cases h) wordsYears_row_tie rfl ⟨rfl, rfl⟩ (by kernel_rfl) rfl
    (fun f fn hf hfn => by
      obtain rfl : f = 3 := Option.some.inj ((show Tryd.prog.funcNamed "meridian/meridianlaw04.WordsYears" = some 3 by kernel_rfl).symm.trans hf) |>.symm
      obtain rfl : fn = Tryd.f3 := (Option.some.inj (Tryd.func3.symm.trans hfn)).symm
      exact ⟨by kernel_rfl, fun j t ht => by
        rw [Tryd.params3] at ht
        have hm : t ∈ [9, 3] := by
          have := Array.mem_of_getElem? ht
          simp at this
          simp
          omega
        have hall : ([9, 3].all fun u => !Tryd.prog.wantsStandIn u) = true := by kernel_rfl
        exact (show Tryd.prog.wantsStandIn t = false by simpa using List.all_eq_true.1 hall t hm)⟩)
    (by kernel_rfl)
#print axioms proved
end Go.Proofs.YtcfcfoiphadmkaaDoor.wordsYears
