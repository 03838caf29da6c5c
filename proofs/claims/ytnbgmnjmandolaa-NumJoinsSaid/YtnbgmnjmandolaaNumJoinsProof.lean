/-
  PROVED: the law NumJoins answers true at every two slices of ints and every three ints, and leaves its arguments as they were. No condition.
-/
import Derived.Test.YtnbgmnjmandolaaNumJoins
import Derived.Test.YtnbgmnjmandolaaArrArg
namespace Go.Proofs.Ytnbgmnjmandolaa.numJoins
open Go Go.RowKit Go.ChangeShapes Go.WideShapes NumM

theorem many_a (x y z : Int) (ad bd : Option Addr) (n m cap cbp : Nat) (w : World) (h63 : n ≤ 9223372036854775807) (hn : 20 < n) :
    Calls Try.prog 7 #[.slice ad n cap, .slice bd m cbp, .agg #[.int .i64 x, .int .i64 y, .int .i64 z]] w (One w) := by
  go_enter Try.func7, Try.ntmps7
  go_wp2_with fail
  refine (awake_any _).mono ?_
  rintro e w' ⟨rfl, rfl⟩
  go_wp2_with fail
  go_ret
  exact ⟨rfl, (Below.refl _ _).alloc (Nat.le_refl _) _⟩
theorem many_b (x y z : Int) (ad bd : Option Addr) (n m cap cbp : Nat) (w : World) (h63 : m ≤ 9223372036854775807) (hn : n ≤ 20) (hm : 20 < m) :
    Calls Try.prog 7 #[.slice ad n cap, .slice bd m cbp, .agg #[.int .i64 x, .int .i64 y, .int .i64 z]] w (One w) := by
  go_enter Try.func7, Try.ntmps7
  go_wp2_with fail
  refine (awake_any _).mono ?_
  rintro e w' ⟨rfl, rfl⟩
  go_wp2_with fail
  go_ret
  exact ⟨rfl, (Below.refl _ _).alloc (Nat.le_refl _) _⟩
/-- an argument that is a slice of ints: a nil one has no room -/
theorem arg_nil {W : World} {n cap : Nat} {ad : Option Addr} {H : Type} {enc : TypeId × Value → H} {d : DataW H} {p : List MemPlace}
    (h : DataW.Trod enc Try.prog W 0 (fun _ => true) true 32 (.slice ad n cap) d p) : ad = none → n = 0 ∧ cap = 0 := by
  obtain ⟨fuel, hf⟩ := h
  rcases Go.ChangeShapes.open_ints Try.underlying32 Try.underlying3 cellsInt hf with ⟨hcs, _⟩ | ⟨a, len, cap', zs, hcs, _, hl, hm, hz, _, hcell, hwz⟩
  · simp [Value.cells] at hcs
    exact fun _ => ⟨hcs.2.1, hcs.2.2⟩
  · simp [Value.cells] at hcs
    obtain ⟨rfl, rfl, rfl⟩ := hcs
    intro h; cases h
theorem cells3 : Try.prog.cellsOf 40 = 3 := by kernel_rfl
set_option maxRecDepth 100000 in
theorem lifted (os : Os) (started : os.Started) (H : Type) (enc : TypeId × Value → H) :
    ReturnsInHanded {} Try.checked os 7 .any (Rows.numJoinsSpec.pre6 enc Try.prog Try.f7 Rows.numJoinsRow.domain false) (Rows.numJoinsSpec.post enc Try.prog Try.f7 false true false false) := by
  refine returnsInHanded_of_change (C := Try.checked) ownK started (by kernel_rfl) Try.func7
    (ChangeSpec.witness6 (enc := enc) (C := Try.checked) false ⟨#[], #[.slice none 0 0, .slice none 0 0, .agg #[.int .i64 0, .int .i64 0, .int .i64 0]], []⟩ 8 (by kernel_rfl) (by kernel_rfl) (by kernel_rfl) (by kernel_rfl)) ?_
  intro W base args ds gs before hval0 hW _ _
  have hval : ∀ (j : Nat) t v, Try.f7.params[j]? = some t → args[j]? = some v → Value.okWide Try.prog W .any base t v := hval0
  have hW' := hW
  obtain ⟨p, q, hA0, hV, rfl, _, _⟩ := hW
  have hA : DataW.TrodAll enc Try.prog W 0 (fun _ => true) true Try.f7.params.toList args.toList ds p := hA0
  rw [Try.params7] at hA hval
  obtain ⟨v0, v1, v2, d0, d1, d2, p0, p1, p2, rfl, rfl, rfl, h0, h1, h2⟩ := trodAll_three hA
  obtain ⟨rfl, rfl⟩ := trodVars_none hV
  obtain ⟨ad, n, cap, a, rfl, hsa, hza, h63⟩ := arg_ints (hval 0 32 v0 rfl rfl) h0
  obtain ⟨bd, m, cbp, b, rfl, hsb, hzb, h63b⟩ := arg_ints (hval 1 32 v1 rfl rfl) h1
  obtain ⟨xy, rfl, hxy⟩ := arr_cells Try.underlying40 Try.underlying3 cellsInt cells3 (hval 2 40 v2 rfl rfl) h2
  clear hA0 hval0
  have hend : ∀ e W', One W e W' → ∃ v, e = .returned v ∧ Rows.numJoinsSpec.post enc Try.prog Try.f7 false true false false W _ v W' := fun e W' ⟨he, hb⟩ =>
    ⟨_, he, post_law hW' laidOut rfl rfl Try.underlying4 (by kernel_rfl) rfl hb⟩
  by_cases hn : n ≤ 20
  · by_cases hm : m ≤ 20
    · exact (walk a b ad bd n m cap cbp (xy 0) (xy 1) (xy 2) W (hxy 0 (by omega)) (hxy 1 (by omega)) (hxy 2 (by omega)) hn hm hsa hsb (arg_nil h0) (arg_nil h1) hza hzb).mono hend
    · exact (many_b (xy 0) (xy 1) (xy 2) ad bd n m cap cbp W h63b hn (by omega)).mono hend
  · exact (many_a (xy 0) (xy 1) (xy 2) ad bd n m cap cbp W h63 (by omega)).mono hend
/-- THE STATEMENT -/
theorem proved : Rows.NumJoinsSaid :=
  OpenClaim.holds_of_wide 7 Try.f7 rfl rfl rfl rfl rfl rfl rfl ⟨rfl, rfl, rfl, rfl, rfl⟩ rfl rfl rfl rfl rfl (by kernel_rfl) Try.func7 (by kernel_rfl)
    (of_decide_eq_true (by kernel_rfl)) (by unfold Func.isWrapper; rw [if_neg (of_decide_eq_false (by kernel_rfl))]; exact ⟨rfl, rfl⟩)
    (fun os started H enc _ => lifted os started H enc)
#print axioms proved
end Go.Proofs.Ytnbgmnjmandolaa.numJoins
