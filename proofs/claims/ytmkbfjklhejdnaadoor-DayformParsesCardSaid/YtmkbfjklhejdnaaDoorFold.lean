/-
  THE TABLES that unicode.SimpleFold reads, and THE WALK of SimpleFold at the letters that a text 'last' asks.
-/
import Derived.Test.YtmkbfjklhejdnaaDoorQuiet
import Derived.Test.YtmkbfjklhejdnaaDoorFrame
import Derived.Lib.LaidU8
import Derived.Lib.LaidTab
namespace Go.Proofs.YtmkbfjklhejdnaaDoor
open Go Go.RowKit Go.Shelf Go.Lib
/-- asciiFold's cell at x holds y -/
def AFo (w : World) (x : Nat) (y : Int) : Prop := w.cell? ⟨3, x, none⟩ = some (.int .u16 y)
/-- caseOrbit holds a slice of 94 pairs, these among them -/
def ORow (w : World) (R o : Nat) (i : Nat) (a b : Int) : Prop := w.cell? ⟨R, o + i * 2, none⟩ = some (.int .u16 a) ∧ w.cell? ⟨R, o + i * 2 + 1, none⟩ = some (.int .u16 b)
def Orb (w : World) : Prop := ∃ R o cap, w.cell? ⟨4, 0, none⟩ = some (.slice (some ⟨R, o, none⟩) 94 cap) ∧ ORow w R o 47 966 981 ∧ ORow w R o 23 837 921 ∧ ORow w R o 11 452 453 ∧ ORow w R o 5 197 229 ∧ ORow w R o 8 304 304 ∧ ORow w R o 10 383 83 ∧ ORow w R o 9 305 305
structure Fold (w : World) : Prop where
  l0 : AFo w 108 76
  l1 : AFo w 76 108
  a0 : AFo w 97 65
  a1 : AFo w 65 97
  t0 : AFo w 116 84
  t1 : AFo w 84 116
  s0 : AFo w 115 383
  s1 : AFo w 83 115
  o : Orb w
def litZ (d : DataW Unit) : Int := match d with
  | .lit (.int _ z) => z
  | _ => 0
def aggL (d : DataW Unit) : List (DataW Unit) := match d with
  | .agg l => l
  | .slice l _ => l
  | _ => []
def orbP : List (List Int) := (aggL Rows.laid_unicode_caseOrbit).map fun d => (aggL d).map litZ
theorem orbP_is : (Rows.laid_unicode_caseOrbit : DataW Unit) = .slice (orbP.map fun zs => .agg (zs.map fun z => .lit (.int .u16 z))) [] := by kernel_rfl
theorem orb_of {W : World} (h : VarReads Tryd.prog W "unicode.caseOrbit" Rows.laid_unicode_caseOrbit) : Orb W := by
  obtain ⟨g, t, cs, fuel, p, hg, hty, hvar, hd⟩ := h
  have hg' : Tryd.prog.globalNamed "unicode.caseOrbit" = some 4 := by kernel_rfl
  obtain rfl := Option.some.inj (hg'.symm.trans hg)
  have hy' : (Tryd.prog.globals[4]?).map (·.type) = some 88 := by kernel_rfl
  obtain rfl := Option.some.inj (hy'.symm.trans hty)
  rw [orbP_is] at hd
  rcases DataW.trod_slice Tryd.underlying88 hd with ⟨_, hx'⟩ | ⟨a', len, cap, el, rs, m, rfl, hc0, hx', _, hlc, _, hel, helem, hsp, _⟩
  · cases hx'
  have e0 := congrArg Prod.fst hx'
  simp only [DataW.slice.injEq] at e0
  obtain ⟨eE, eR⟩ := e0
  have hlen : len = 94 := by
    have := congrArg List.length eE
    rw [List.length_map, List.length_map, hel, show orbP.length = 94 by kernel_rfl] at this
    omega
  have c2 : Tryd.prog.cellsOf 91 = 2 := by kernel_rfl
  have hrow : ∀ i (a b : Int), i < 94 → orbP[i]? = some [a, b] → ∀ j, j < 2 → W.cell? ((a'.add (i * 2)).add j) = ([.int .u16 a, .int .u16 b] : List Value)[j]? := by
    intro i a b hi ho j hj
    have h1 := helem i (by omega)
    rw [c2] at h1
    have hb1 := congrArg (·[i]?) eE
    simp only [List.getElem?_map, ho, Option.map_some] at hb1
    obtain ⟨bb, hb, hbe⟩ := Option.map_eq_some_iff.1 hb1.symm
    rw [hb] at h1
    obtain ⟨ce, hce, hte⟩ := Option.bind_eq_some_iff.1 h1
    obtain ⟨b1, b2⟩ := bb
    simp only at hbe
    subst hbe
    have hcs := ints_of_struct (zs := [a, b]) Tryd.underlying91 (fun j f hj => by
      match j, hj with
      | 0, hj => simp at hj; subst hj; exact ⟨Tryd.underlying86, rfl, by kernel_rfl⟩
      | 1, hj => simp at hj; subst hj; exact ⟨Tryd.underlying86, rfl, by kernel_rfl⟩
      | j + 2, hj => simp at hj) (by rw [c2]; rfl) hte
    obtain ⟨_, _, hcc⟩ := World.cells?_some hce
    rw [hcc j hj, hcs]
    rfl
  obtain ⟨R, oR, sR⟩ := a'
  obtain rfl : sR = none := by
    have h00 := hrow 0 75 107 (by omega) (by kernel_rfl) 0 (by omega)
    have e : ((⟨R, oR, sR⟩ : Addr).add (0 * 2)).add 0 = ⟨R, oR, sR⟩ := by simp [Addr.add]
    rw [e] at h00
    exact cell_spot (v := .int .u16 75) h00
  have hr : ∀ i (a b : Int), i < 94 → orbP[i]? = some [a, b] → ORow W R oR i a b := fun i a b hi ho => by
    have k0 := hrow i a b hi ho 0 (by omega)
    have k1 := hrow i a b hi ho 1 (by omega)
    rw [Addr.add_lit, Addr.add_lit] at k0 k1
    exact ⟨by simpa using k0, by simpa using k1⟩
  refine ⟨R, oR, cap, ?_, hr 47 _ _ (by omega) (by kernel_rfl), hr 23 _ _ (by omega) (by kernel_rfl), hr 11 _ _ (by omega) (by kernel_rfl), hr 5 _ _ (by omega) (by kernel_rfl), hr 8 _ _ (by omega) (by kernel_rfl), hr 10 _ _ (by omega) (by kernel_rfl), hr 9 _ _ (by omega) (by kernel_rfl)⟩
  rw [World.var?_cell hg hvar 0, ← Array.getElem?_toList, hc0, hlen]
  rfl
def asciiZ : List Int := (aggL Rows.laid_unicode_asciiFold).map litZ
theorem fold_of_laid {W : World} (h : laidMetH Tryd.prog LL W) : Fold W := by
  rw [MakeChecks.laidMetH_plain _ _ _ (by kernel_rfl)] at h
  have ho := orb_of (laidMet.reads h (n := "unicode.caseOrbit") (d := Rows.laid_unicode_caseOrbit) (by simp [LL]))
  have h7 := h.tail.tail.tail.tail.tail.tail
  have := Lib.tabIs_of_head (k := .u16) (zs := asciiZ) (g := 3) (t := 87) (by kernel_rfl) (by kernel_rfl) Tryd.underlying87 Tryd.underlying86 (by kernel_rfl) (by kernel_rfl) h7
  have hk : ∀ k z, k < 128 → asciiZ.getD k 0 = z → AFo W k z := fun k z hk hz => by
    have := this.cell (g := 3) (by kernel_rfl) k (by rw [show asciiZ.length = 128 by kernel_rfl]; exact hk)
    rw [hz] at this
    exact this
  exact ⟨hk _ _ (by omega) (by kernel_rfl), hk _ _ (by omega) (by kernel_rfl), hk _ _ (by omega) (by kernel_rfl), hk _ _ (by omega) (by kernel_rfl), hk _ _ (by omega) (by kernel_rfl), hk _ _ (by omega) (by kernel_rfl), hk _ _ (by omega) (by kernel_rfl), hk _ _ (by omega) (by kernel_rfl), ho⟩
set_option maxRecDepth 100000 in
set_option maxHeartbeats 2000000 in
theorem sf_ascii (r : Nat) (z : Int) (w : World) (h : AFo w r z) (hr : r < 128) (z0 : 0 ≤ z) (z1 : z ≤ 65535) :
    Calls Tryd.prog 47 #[.int .i32 r] w fun e w' => e = .returned (.int .i32 z) ∧ w = w' := by
  unfold AFo at h
  go_enter Tryd.func47, Tryd.ntmps47
  go_wp2_with fail
  go_ret
  exact ⟨rfl, rfl⟩
set_option maxRecDepth 100000 in
set_option maxHeartbeats 2000000 in
theorem sf_long (w : World) (h : Orb w) :
    Calls Tryd.prog 47 #[.int .i32 383] w fun e w' => e = .returned (.int .i32 83) ∧ w = w' := by
  obtain ⟨R, o, cap, hv, ⟨a1, b1⟩, ⟨a2, b2⟩, ⟨a3, b3⟩, ⟨a4, b4⟩, ⟨a5, b5⟩, ⟨a6, b6⟩, ⟨a7, b7⟩⟩ := h
  go_enter Tryd.func47, Tryd.ntmps47
  go_wp2_with fail
  go_loopw [3, 4] (fun v3 v4 wr => wr = w ∧ ((v3 = .int .i64 0 ∧ v4 = .int .i64 94) ∨ (v3 = .int .i64 0 ∧ v4 = .int .i64 47) ∨ (v3 = .int .i64 0 ∧ v4 = .int .i64 23) ∨ (v3 = .int .i64 0 ∧ v4 = .int .i64 11) ∨ (v3 = .int .i64 6 ∧ v4 = .int .i64 11) ∨ (v3 = .int .i64 9 ∧ v4 = .int .i64 11) ∨ (v3 = .int .i64 9 ∧ v4 = .int .i64 10) ∨ (v3 = .int .i64 10 ∧ v4 = .int .i64 10))) (fun v3 v4 _ => match v3, v4 with | .int _ a, .int _ b => (b - a).toNat | _, _ => 0)
  case atStart => exact ⟨rfl, Or.inl ⟨rfl, rfl⟩⟩
  case round =>
    obtain ⟨rfl, hrel⟩ := hrel
    rcases hrel with ⟨rfl, rfl⟩ | ⟨rfl, rfl⟩ | ⟨rfl, rfl⟩ | ⟨rfl, rfl⟩ | ⟨rfl, rfl⟩ | ⟨rfl, rfl⟩ | ⟨rfl, rfl⟩ | ⟨rfl, rfl⟩
    all_goals go_wp2_with fail
    rotate_right 1
    · go_ret
      exact ⟨rfl, rfl⟩
    all_goals
      go_roundw
      case rel => simp
      case measure => first | decide | simp
end Go.Proofs.YtmkbfjklhejdnaaDoor
