/-
  THE WALKS of the layer civil, first part: leap years, months, which dates there are.
-/
import Derived.Test.YtmkbfjklhejdnaaDoorNumDiv
import Derived.Test.YtmkbfjklhejdnaaDoorCivMath
import Derived.Test.YtmkbfjklhejdnaaDoorMem
import Derived.Below
import Derived.Handy
import Derived.RegionTactic
import Derived.ChangeAlike
import Derived.Laws.ResultCell
import Derived.IntWalk
import Derived.Deep.QuietTactic
import Derived.BigQuiet
namespace Go.Proofs.YtmkbfjklhejdnaaDoor
open Go Go.RowKit CivM NumM

theorem ret_int {a b : Int} (h : a = b) : Ending.returned (.int .i64 a) = .returned (.int .i64 b) := by rw [h]
theorem ret_row_tmp {P : Program} {fn : Func} {p u : Tmp} {ty t : TypeId} {cs : Array Value} {R : Ending → World → Prop} {a : Act} {w : World} {B : Nat} (fs : TypeDesc) (hr : fn.results = #[.cell p ty, .tmp u]) (hd : a.defers = []) (hp : a.tmps.getD p undef = .pointer (some ⟨B, 0, none⟩))
    (h : w.heap[B]? = some (.cells cs t (0, 0))) (hu : P.underlying ty = some fs) (hf : (match fs with | .struct _ | .array _ _ => true | _ => false) = true) (hi : (P.info? ty).map (·.size) = some cs.size) (hR : R (.returned (.tuple #[.agg cs, a.tmps.getD u undef])) w) : bodyPost P fn R .ret a w := by
  refine bodyPost_ret ?_ hd hR
  rw [results_cell_tmp hr, hp]
  show ((loadVar ty ⟨B, 0, none⟩).run P w).andThen _ = _
  rw [run_loadVar_row w B t ty cs (0, 0) fs h hu hf hi]
  rfl
theorem ret_row {P : Program} {fn : Func} {p : Tmp} {ty t : TypeId} {cs : Array Value} {R : Ending → World → Prop} {a : Act} {w : World} {B : Nat} (fs : TypeDesc) (hr : fn.results = #[.cell p ty]) (hd : a.defers = []) (hp : a.tmps.getD p undef = .pointer (some ⟨B, 0, none⟩))
    (h : w.heap[B]? = some (.cells cs t (0, 0))) (hu : P.underlying ty = some fs) (hf : (match fs with | .struct _ | .array _ _ => true | _ => false) = true) (hi : (P.info? ty).map (·.size) = some cs.size) (hR : R (.returned (.agg cs)) w) : bodyPost P fn R .ret a w :=
  bodyPost_ret (results_cell_row hr a.tmps w B t cs (0, 0) fs hp h hu hf hi) hd hR
/-- the table of the days ahead of a month -/
def Ahead (w : World) : Prop := ∀ k : Nat, k < 13 → w.cell? ⟨1, k, none⟩ = some (.int .i64 (ah (k + 1)))
theorem Ahead.at {w : World} (h : Ahead w) (m : Int) (h1 : 1 ≤ m) (h2 : m ≤ 13) : w.cell? ⟨1, m.toNat - 1, none⟩ = some (.int .i64 (ah m)) := by
  have := h (m.toNat - 1) (by omega)
  rwa [show ((m.toNat - 1 : Nat) : Int) + 1 = m by omega] at this
theorem Ahead.lt {w : World} (h : Ahead w) : 1 < w.heap.size := by
  have := h 0 (by omega)
  refine Classical.byContradiction fun hn => ?_
  simp only [World.cell?] at this
  rw [Array.getElem?_eq_none (by omega)] at this
  cases this
theorem Ahead.below {w w' : World} (h : Ahead w) (hb : Below w.heap.size w w') : Ahead w' := fun k hk => (hb.cell h.lt).trans (h k hk)
theorem Ahead.drewN {w : World} (h : Ahead w) (n : Nat) : Ahead (w.drewN n) := h
/-- a callee that leaves the world as it is, in a region that only reads -/
theorem q_same {P : Program} {f : FuncId} {args : Array Value} {w : World} {n : Nat} {v : Value} (h : Calls P f args (w.drewN n) fun e w' => e = .returned v ∧ w.drewN n = w') :
    Calls P f args (w.drewN n) fun e w'' => e = .returned v ∧ ∃ m, w'' = w.drewN m := h.mono fun _ _ ⟨he, hm⟩ => ⟨he, n, hm.symm⟩
/-- block B is a date -/
def Dt (w : World) (B : Nat) (y m d : Int) : Prop := w.heap[B]? = some (.cells #[.int .i64 y, .int .i64 m, .int .i64 d] 31 (0, 0))
theorem Dt.new (w : World) (y m d : Int) : Dt (w.alloc (.cells #[.int .i64 y, .int .i64 m, .int .i64 d] 31)) w.heap.size y m d := heap_alloc_new w _
theorem Dt.lt {w : World} {B : Nat} {y m d : Int} (h : Dt w B y m d) : B < w.heap.size := by
  refine Classical.byContradiction fun hn => ?_
  unfold Dt at h
  rw [Array.getElem?_eq_none (by omega)] at h
  cases h
theorem Dt.cells {w : World} {B : Nat} {y m d : Int} (h : Dt w B y m d) : w.cell? ⟨B, 0, none⟩ = some (.int .i64 y) ∧ w.cell? ⟨B, 1, none⟩ = some (.int .i64 m) ∧ w.cell? ⟨B, 2, none⟩ = some (.int .i64 d) :=
  ⟨cell_of_row w B 0 _ _ _ h, cell_of_row w B 1 _ _ _ h, cell_of_row w B 2 _ _ _ h⟩
theorem Dt.below {w w' : World} {B D : Nat} {y m d : Int} (h : Dt w B y m d) (hb : Below D w w') (hB : B < D) : Dt w' B y m d := (hb.block B hB).trans h
theorem Dt.set0 {w : World} {B : Nat} {y m d : Int} (h : Dt w B y m d) (v : Int) : Dt (w.setCell ⟨B, 0, none⟩ (.int .i64 v)) B v m d := heap_setCell_same w B 0 _ _ _ h
theorem Dt.set1 {w : World} {B : Nat} {y m d : Int} (h : Dt w B y m d) (v : Int) : Dt (w.setCell ⟨B, 1, none⟩ (.int .i64 v)) B y v d := heap_setCell_same w B 1 _ _ _ h
theorem Dt.set2 {w : World} {B : Nat} {y m d : Int} (h : Dt w B y m d) (v : Int) : Dt (w.setCell ⟨B, 2, none⟩ (.int .i64 v)) B y m v := heap_setCell_same w B 2 _ _ _ h
theorem Dt.far {w : World} {B : Nat} {y m d : Int} (h : Dt w B y m d) {p : Addr} (hp : B ≠ p.block) (v : Value) : Dt (w.setCell p v) B y m d := (heap_setCell_other w p B v hp).trans h
theorem Dt.free {w : World} {B : Nat} {y m d : Int} (h : Dt w B y m d) (k : Nat) : w.frozen? ⟨B, k, none⟩ = false := frozen_of_row w B k _ _ h
theorem Dt.alloc {w : World} {B : Nat} {y m d : Int} (h : Dt w B y m d) (o : Obj) : Dt (w.alloc o) B y m d := (Below.heap_alloc w o B h.lt).trans h
theorem Dt.drewN {w : World} {B : Nat} {y m d : Int} (h : Dt w B y m d) (n : Nat) : Dt (w.drewN n) B y m d := h
theorem szD : (Tryd.prog.info? 31).map (·.size) = some 3 := by kernel_rfl
theorem wpList_load_dt {ops : Array Oper} {rest : List Oper} {o : Oper} {a : Act} {w : World} {Q : Exit → Act → World → Prop} (hgd : o.guard = none) (x : Operand) (ho : o.op = .load 31 x)
    (B : Nat) (hx : a.eval x = .pointer (some ⟨B, 0, none⟩)) {y m d : Int} (h : Dt w B y m d)
    (hk : wpList Tryd.prog ops Q rest (a.put o.dst (.agg #[.int .i64 y, .int .i64 m, .int .i64 d])) w) : wpList Tryd.prog ops Q (o :: rest) a w :=
  wpList_load_row hgd _ x ho B hx _ _ (0, 0) _ h Tryd.underlying31 rfl szD hk
/-- a whole date stored: the world behind it is a letter -/
theorem wpList_store_dt {ops : Array Oper} {rest : List Oper} {o : Oper} {a : Act} {w w0 : World} {D : Nat} {Q : Exit → Act → World → Prop} (hgd : o.guard = none) (x z : Operand) (ho : o.op = .store 31 x z)
    (B : Nat) (y m d : Int) (hx : a.eval x = .pointer (some ⟨B, 0, none⟩)) (hy : a.eval z = .agg #[.int .i64 y, .int .i64 m, .int .i64 d]) {y' m' d' : Int} (h : Dt w B y' m' d') (hb : Below D w0 w) (hD : D ≤ B)
    (hk : ∀ W, Dt W B y m d → (∀ C y1 m1 d1, C ≠ B → Dt w C y1 m1 d1 → Dt W C y1 m1 d1) → W.heap.size = w.heap.size → Below D w0 W → wpList Tryd.prog ops Q rest (a.put o.dst undef) W) : wpList Tryd.prog ops Q (o :: rest) a w :=
  wpList_store_row hgd _ x z ho B #[.int .i64 y, .int .i64 m, .int .i64 d] hx hy _ #[.int .i64 y', .int .i64 m', .int .i64 d'] h szD rfl (by simp [Value.oneCell'])
    (hk _ (setRow_heap w B _ _ _ _ h) (fun C y1 m1 d1 hC hA => (setRow_other w B C _ hC).trans hA) (by simp) (below_setRow hb hD _))
theorem leap_any (y : Int) (w : World) : Calls Tryd.prog 53 #[.int .i64 y] w fun e w' => e = .returned (.bool (lpB y)) ∧ w = w' := by
  have g4 := tm0 y 4
  have g1 := tm0 y 100
  have g2 := tm0 y 400
  by_cases h4 : y % 4 = 0
  · have f4 : (y.tmod 4 == 0) = true := by simpa using g4.2 h4
    by_cases h1 : y % 100 = 0
    · have f1 : (y.tmod 100 != 0) = false := by simpa using g1.2 h1
      by_cases h2 : y % 400 = 0
      · have f2 : (y.tmod 400 == 0) = true := by simpa using g2.2 h2
        have E := Lib.hid (show lpB y = true from decide_eq_true ⟨h4, .inr h2⟩)
        clear g4 g1 g2 h4 h1 h2
        go_enter Tryd.func53, Tryd.ntmps53
        go_wp2
        go_ret
        exact ⟨by first | (rw [E.out]; done) | (rw [E.out]; rfl), rfl⟩
      · have f2 : (y.tmod 400 == 0) = false := by simpa using (not_congr g2).2 h2
        have E := Lib.hid (show lpB y = false from decide_eq_false (by omega))
        clear g4 g1 g2 h4 h1 h2
        go_enter Tryd.func53, Tryd.ntmps53
        go_wp2
        go_ret
        exact ⟨by first | (rw [E.out]; done) | (rw [E.out]; rfl), rfl⟩
    · have f1 : (y.tmod 100 != 0) = true := by simpa using (not_congr g1).2 h1
      have E := Lib.hid (show lpB y = true from decide_eq_true ⟨h4, .inl h1⟩)
      clear g4 g1 g2 h4 h1
      go_enter Tryd.func53, Tryd.ntmps53
      go_wp2
      go_ret
      exact ⟨by first | (rw [E.out]; done) | (rw [E.out]; rfl), rfl⟩
  · have f4 : (y.tmod 4 == 0) = false := by simpa using (not_congr g4).2 h4
    by_cases h2 : y % 400 = 0
    · omega
    · have f2 : (y.tmod 400 == 0) = false := by simpa using (not_congr g2).2 h2
      have E := Lib.hid (show lpB y = false from decide_eq_false (by omega))
      clear g4 g1 g2 h4 h2
      go_enter Tryd.func53, Tryd.ntmps53
      go_wp2
      go_ret
      exact ⟨by first | (rw [E.out]; done) | (rw [E.out]; rfl), rfl⟩
theorem leaps_any (y : Int) (w : World) : Calls Tryd.prog 38 #[.int .i64 y] w fun e w' => e = .returned (.int .i64 (lp y)) ∧ w = w' := by
  cases h : lpB y with
  | true =>
    have E := Lib.hid (lp_t h)
    have H := Lib.hid h
    clear h
    go_enter Tryd.func38, Tryd.ntmps38
    go_wp2_with fail
    refine (leap_any y _).mono ?_
    rintro e w' ⟨rfl, rfl⟩
    rw [H.out]
    go_wp2_with fail
    go_ret
    exact ⟨by first | (rw [E.out]; done) | (rw [E.out]; rfl), rfl⟩
  | false =>
    have E := Lib.hid (lp_f h)
    have H := Lib.hid h
    clear h
    go_enter Tryd.func38, Tryd.ntmps38
    go_wp2_with fail
    refine (leap_any y _).mono ?_
    rintro e w' ⟨rfl, rfl⟩
    rw [H.out]
    go_wp2_with fail
    go_ret
    exact ⟨by first | (rw [E.out]; done) | (rw [E.out]; rfl), rfl⟩
theorem start_any (y m : Int) (w : World) (hA : Ahead w) (h1 : 1 ≤ m) (h2 : m ≤ 12) :
    Calls Tryd.prog 37 #[.int .i64 y, .int .i64 m] w fun e w' => e = .returned (.int .i64 (cum y m)) ∧ w = w' := by
  have c0 := hA.at m h1 (by omega)
  have b := ah_bd m
  have b2 := lp_01 y
  obtain ⟨b3, b4⟩ := b
  obtain ⟨b5, b6⟩ := b2
  clear hA
  by_cases h3 : 2 < m
  · have E := Lib.hid (show cum y m = ah m + lp y by unfold cum; rw [if_pos h3])
    go_enter Tryd.func37, Tryd.ntmps37
    go_wp2_with fail
    refine (leaps_any y _).mono ?_
    rintro e w' ⟨rfl, rfl⟩
    go_wp2_with fail
    go_ret
    exact ⟨by first | (rw [E.out]; done) | (rw [E.out]; rfl), rfl⟩
  · have E := Lib.hid (show cum y m = ah m by unfold cum; rw [if_neg h3]; omega)
    go_enter Tryd.func37, Tryd.ntmps37
    go_wp2_with fail
    go_ret
    exact ⟨by first | (rw [E.out]; done) | (rw [E.out]; rfl), rfl⟩
theorem long_ok (y m : Int) (w : World) (hA : Ahead w) (y1 : -100000 ≤ y) (y2 : y ≤ 100000) (h1 : 1 ≤ m) (h2 : m ≤ 12) :
    Calls Tryd.prog 17 #[.int .i64 y, .int .i64 m] w fun e w' => e = .returned (.tuple #[.int .i64 (dim y m), .int .i64 0]) ∧ Below w.heap.size w w' := by
  have c0 := hA.at m h1 (by omega)
  have c1 := hA m.toNat (by omega)
  rw [show (m.toNat : Int) + 1 = m + 1 by omega] at c1
  obtain ⟨b3, b4⟩ := ah_bd m
  obtain ⟨b7, b8⟩ := ah_bd (m + 1)
  obtain ⟨b5, b6⟩ := lp_01 y
  clear hA
  by_cases h3 : m = 2
  · subst h3
    have E := Lib.hid (dim_two y)
    clear b3 b4 b7 b8
    rw [show ah 2 = 31 from by decide] at c0
    rw [show ah (2 + 1) = 59 from by decide] at c1
    rw [show (2 : Int).toNat - 1 = 1 from rfl] at c0
    rw [show (2 : Int).toNat = 2 from rfl] at c1
    go_enter Tryd.func17, Tryd.ntmps17
    go_wp2_with fail
    go_region
    go_wp2_with fail
    refine (leaps_any y _).mono ?_
    rintro e w' ⟨rfl, rfl⟩
    go_wp2_with fail
    go_ret2
    exact ⟨by first | (rw [E.out]; done) | (rw [E.out]; rfl), (Below.refl _ _).drew⟩
  · have E := Lib.hid (dim_ah y h1 h2 h3)
    have h3' : (m == 2) = false := by simpa using h3
    clear h3
    go_enter Tryd.func17, Tryd.ntmps17
    go_wp2_with fail
    go_region
    go_wp2_with fail
    go_ret2
    exact ⟨by first | (rw [← E.out]; done) | (rw [← E.out]; rfl), (Below.refl _ _).drew⟩
theorem long_no (y m : Int) (w : World) (h : ¬ (-100000 ≤ y ∧ y ≤ 100000 ∧ 1 ≤ m ∧ m ≤ 12)) :
    Calls Tryd.prog 17 #[.int .i64 y, .int .i64 m] w fun e w' => e = .returned (.tuple #[.int .i64 0, .int .i64 10]) ∧ w = w' := by
  by_cases a : y < -100000
  · clear h
    go_enter Tryd.func17, Tryd.ntmps17
    go_wp2_with fail
    go_ret2
    exact ⟨rfl, rfl⟩
  · by_cases b : 100000 < y
    · clear h
      go_enter Tryd.func17, Tryd.ntmps17
      go_wp2_with fail
      go_ret2
      exact ⟨rfl, rfl⟩
    · by_cases c : m < 1
      · clear h
        go_enter Tryd.func17, Tryd.ntmps17
        go_wp2_with fail
        go_ret2
        exact ⟨rfl, rfl⟩
      · have d : 12 < m := by omega
        clear h
        go_enter Tryd.func17, Tryd.ntmps17
        go_wp2_with fail
        go_ret2
        exact ⟨rfl, rfl⟩
end Go.Proofs.YtmkbfjklhejdnaaDoor
