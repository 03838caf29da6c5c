/-
  THE FRAME OF A LAW of this seat: it answers true and makes new memory alone; what its row lists of tables, as facts for the walks; a start that meets the row's condition.
-/
import Derived.Test.YtmkbfjklhejdnaaDoorInAny
import Derived.Test.YtmkbfjklhejdnaaDoorPostLaw
import Derived.Test.YtmkbfjklhejdnaaDoorShapedAnd
import Derived.Test.YtmkbfjklhejdnaaDoorStrTab
import Derived.Test.YtmkbfjklhejdnaaDoorTie
import Derived.Test.YtmkbfjklhejdnaaDoorCards
import Derived.WalkKit
import Derived.ProofKit
import Derived.Carry
import Derived.OpenShut
import Derived.ShutString
import Derived.LaidMore
import Derived.Lib.LaidTab
import Derived.Stop.Joined
import Derived.Stop.LaidErr
import Derived.SevenTiedAt
import Derived.ChangeMaps5
import Derived.Lay
import Derived.MakeChecks
namespace Go.Proofs.YtmkbfjklhejdnaaDoor
open Go Go.RowKit Go.ChangeShapes Go.WideShapes CivM

theorem laidOut : laidOutB Tryd.prog = true := by kernel_rfl
theorem ownK : ownKnob Tryd.prog.godebug = none := by kernel_rfl
abbrev LL : List (String × DataW Unit) := [("math/bits.deBruijn32tab", Rows.laid_math_bits_deBruijn32tab), ("math/bits.deBruijn64tab", Rows.laid_math_bits_deBruijn64tab), ("internal/strconv.uint64pow10", Rows.laid_internal_strconv_uint64pow10), ("unicode/utf8.acceptRanges", Rows.laid_unicode_utf8_acceptRanges), ("strconv.ErrRange", Rows.laid_strconv_ErrRange), ("strconv.ErrSyntax", Rows.laid_strconv_ErrSyntax), ("unicode.asciiFold", Rows.laid_unicode_asciiFold), ("unicode.caseOrbit", Rows.laid_unicode_caseOrbit), ("meridian/civil.ahead", Rows.laid_meridian_civil_ahead), ("meridian/words.weekdays", Rows.laid_meridian_words_weekdays), ("meridian/dayform.signs", Rows.laid_meridian_dayform_signs), ("unicode.CaseRanges", Rows.laid_unicode_CaseRanges), ("unicode/utf8.first", Rows.laid_unicode_utf8_first)]
theorem door_met (os : Os) (args : Array Value) : laidMetH Tryd.prog LL ((World.laidAll Tryd.prog os LL).forCall (fun _ _ => 0) ⟨#[], args, []⟩).memory := by
  rw [MakeChecks.laidMetH_plain _ _ _ (by kernel_rfl)]
  exact laidMet_laidAll _ (by kernel_rfl) (by kernel_rfl)
theorem ahead_of_laid {W : World} (h : laidMetH Tryd.prog LL W) : Ahead W := by
  rw [MakeChecks.laidMetH_plain _ _ _ (by kernel_rfl)] at h
  have := Lib.tabIs_of_head (zs := [0, 31, 59, 90, 120, 151, 181, 212, 243, 273, 304, 334, 365]) (g := 1) (t := 65) (by kernel_rfl) (by kernel_rfl) Tryd.underlying65 Tryd.underlying3 (by kernel_rfl) (by kernel_rfl) h.tail.tail.tail.tail.tail.tail.tail.tail
  intro k hk
  rw [this.cell (by kernel_rfl) k hk]
  have : ∀ k, k < 13 → ([0, 31, 59, 90, 120, 151, 181, 212, 243, 273, 304, 334, 365] : List Int).getD k 0 = ah (k + 1) := by decide
  rw [this k hk]
theorem wek_of_laid {W : World} (h : laidMetH Tryd.prog LL W) : Wek W := fun j hj => by
  rw [MakeChecks.laidMetH_plain _ _ _ (by kernel_rfl)] at h
  rw [Nat.zero_add]
  exact strs_of_head (ls := weekdaysL) (g := 2) (t := 72) (by kernel_rfl) (by kernel_rfl) Tryd.underlying72 Tryd.underlying9 (by kernel_rfl) (by kernel_rfl) h.tail.tail.tail.tail.tail.tail.tail.tail.tail j hj
theorem sgn_of_laid {W : World} (h : laidMetH Tryd.prog LL W) : Sgn W := by
  rw [MakeChecks.laidMetH_plain _ _ _ (by kernel_rfl)] at h
  have hS : ∀ j, j < 4 → _ := fun j hj => strs_of_head (ls := [[], [], [62, 61], [60, 61]]) (g := 0) (t := 52) (by kernel_rfl) (by kernel_rfl) Tryd.underlying52 Tryd.underlying9 (by kernel_rfl) (by kernel_rfl) h.tail.tail.tail.tail.tail.tail.tail.tail.tail.tail j hj
  exact ⟨hS 0 (by decide), hS 1 (by decide), hS 2 (by decide), hS 3 (by decide)⟩
theorem star : ("*errors.errorString" : String) = "*" ++ "errors.errorString" := by decide
theorem row_err (u : TypeId) (h : Tryd.prog.typeName? 3 u = some "*errors.errorString") : u = 133 :=
  typeName_ptr_named (nm := "errors.errorString") (by rw [← star]; kernel_rfl) (by kernel_rfl) (by decide) u (by rw [← star]; exact h)
theorem txt_of_laid {W : World} (h : laidMetH Tryd.prog LL W) : Txt W := by
  rw [MakeChecks.laidMetH_plain _ _ _ (by kernel_rfl)] at h
  refine ⟨?_, ?_⟩
  · obtain ⟨a1, s1, e1, _⟩ := laid_sentinel (g := 9) (ts := 9) h.tail.tail.tail.tail.tail (by kernel_rfl) (by kernel_rfl) Tryd.underlying74 row_err Tryd.underlying133 Tryd.underlying135 rfl rfl Tryd.underlying9 (by kernel_rfl) (by kernel_rfl)
    exact ⟨_, World.var?_cell (by kernel_rfl) e1 0, .inr ⟨_, _, rfl⟩⟩
  · obtain ⟨a1, s1, e1, _⟩ := laid_sentinel (g := 10) (ts := 9) h.tail.tail.tail.tail (by kernel_rfl) (by kernel_rfl) Tryd.underlying74 row_err Tryd.underlying133 Tryd.underlying135 rfl rfl Tryd.underlying9 (by kernel_rfl) (by kernel_rfl)
    exact ⟨_, World.var?_cell (by kernel_rfl) e1 0, .inr ⟨_, _, rfl⟩⟩
theorem reads_of {W : World} (h : laidMetH Tryd.prog LL W) (hsh : W.ShapedOpen Tryd.prog) : Reads W :=
  ⟨ahead_of_laid h, sgn_of_laid h, Tryd.laysM143.s1_3 W hsh, wek_of_laid h, txt_of_laid h⟩
theorem fits_of {x : Int} (h : (Lit.int .i64 x).wf = true) : -9223372036854775808 ≤ x ∧ x ≤ 9223372036854775807 := by
  simp [Lit.wf, IntKind.min, IntKind.max, IntKind.signed, IntKind.bits] at h
  omega
theorem cellsY : Tryd.prog.cellsOf 24 = 3 := by kernel_rfl
theorem cellsI : Tryd.prog.cellsOf 3 = 1 := by kernel_rfl
set_option maxRecDepth 1000000 in
/-- an argument that is a day of a month -/
theorem arg_day {H : Type} {enc : TypeId × Value → H} {W : World} {base : Nat} {v : Value} {d : DataW H} {p : List MemPlace} (hv : Value.okWide Tryd.prog W .any base 24 v)
    (h : DataW.Trod enc Tryd.prog W 0 (fun _ => true) true 24 v d p) : ∃ y m x : Int, v = .agg #[.int .i64 y, .int .i64 m, .int .i64 x] := by
  obtain ⟨cs, rfl, hsz⟩ := okWide_struct Tryd.underlying24 hv
  rw [cellsY] at hsz
  obtain ⟨fuel, hf⟩ := h
  obtain ⟨l⟩ := cs
  match l, hsz with
  | [a, b, c], _ =>
    rw [show Value.cells (Value.agg #[a, b, c]) = #[a, b, c] from rfl] at hf
    obtain ⟨xs, n, _, _, _, hl, hel⟩ := DataW.trod_struct Tryd.underlying24 hf
    match xs, hl with
    | [x0, x1, x2], _ =>
      have k0 := hel 0 _ rfl
      have k1 := hel 1 _ rfl
      have k2 := hel 2 _ rfl
      obtain ⟨z0, e0, _, _⟩ := DataW.trod_int Tryd.underlying3 k0
      obtain ⟨z1, e1, _, _⟩ := DataW.trod_int Tryd.underlying3 k1
      obtain ⟨z2, e2, _, _⟩ := DataW.trod_int Tryd.underlying3 k2
      simp [cellsI] at e0 e1 e2
      subst e0 e1 e2
      exact ⟨z0, z1, z2, rfl⟩
theorem okWide_array {P : Program} {w : World} {r : Reach} {base : Nat} {t e : TypeId} {n : Nat} {v : Value} (ht : P.underlying t = some (.array n e)) (h : Value.okWide P w r base t v) : ∃ cs, v = .agg cs ∧ cs.size = P.cellsOf t := by
  simp only [Value.okWide, ht] at h
  obtain ⟨cs, h1, h2, _⟩ := h
  exact ⟨cs, h1, h2⟩
theorem cellsJ : Tryd.prog.cellsOf 43 = 2 := by kernel_rfl
set_option maxRecDepth 1000000 in
/-- an argument that is two numbers -/
theorem arg_int2 {H : Type} {enc : TypeId × Value → H} {W : World} {base : Nat} {v : Value} {d : DataW H} {p : List MemPlace} (hv : Value.okWide Tryd.prog W .any base 43 v)
    (h : DataW.Trod enc Tryd.prog W 0 (fun _ => true) true 43 v d p) : ∃ a b : Int, v = .agg #[.int .i64 a, .int .i64 b] := by
  obtain ⟨cs, rfl, hsz⟩ := okWide_array Tryd.underlying43 hv
  rw [cellsJ] at hsz
  obtain ⟨fuel, hf⟩ := h
  obtain ⟨l⟩ := cs
  match l, hsz with
  | [x, y], _ =>
    rw [show Value.cells (Value.agg #[x, y]) = #[x, y] from rfl] at hf
    obtain ⟨xs, n, _, _, _, hl, hel⟩ := DataW.trod_array Tryd.underlying43 hf
    match xs, hl with
    | [x0, x1], _ =>
      have k0 := hel 0 (by decide)
      have k1 := hel 1 (by decide)
      obtain ⟨s0, e0, _, _⟩ := DataW.trod_int Tryd.underlying3 k0
      obtain ⟨s1, e1, _, _⟩ := DataW.trod_int Tryd.underlying3 k1
      simp [cellsI] at e0 e1
      subst e0 e1
      exact ⟨s0, s1, rfl⟩
end Go.Proofs.YtmkbfjklhejdnaaDoor
