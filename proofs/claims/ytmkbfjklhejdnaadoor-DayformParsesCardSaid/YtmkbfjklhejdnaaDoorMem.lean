/-
  SMALL LAWS on arrays of ints that lie in one block.
-/
import Derived.WalkKit
import Derived.Laws.Rows
import Derived.Laws.Tables
import Derived.Laws.CopyOwn
import Derived.Below
import Derived.Deep.Draws
import Derived.Lib.Hide
namespace Go.Proofs.YtmkbfjklhejdnaaDoor
open Go Go.RowKit

/-- the cells of an array of n ints -/
def ints (n : Nat) (f : Nat → Int) : Array Value := ((List.range n).map fun j => Value.int .i64 (f j)).toArray
theorem ints_get {n k : Nat} (f : Nat → Int) (h : k < n) : (ints n f)[k]? = some (.int .i64 (f k)) := by
  simp [ints, h]
theorem ints_size (n : Nat) (f : Nat → Int) : (ints n f).size = n := by simp [ints]
theorem ints_congr {n : Nat} {f g : Nat → Int} (h : ∀ j, j < n → f j = g j) : ints n f = ints n g := by
  unfold ints
  congr 1
  refine List.map_congr_left fun j hj => ?_
  rw [h j (List.mem_range.1 hj)]
def upd (f : Nat → Int) (k : Nat) (v : Int) : Nat → Int := fun j => if j = k then v else f j
theorem ints_set {n k : Nat} (f : Nat → Int) (v : Int) : (ints n f).setIfInBounds k (.int .i64 v) = ints n (upd f k v) := by
  apply Array.ext_getElem?
  intro i
  rw [Array.getElem?_setIfInBounds, ints_size]
  by_cases e : k = i
  · subst e
    rw [if_pos rfl]
    by_cases hk : k < n
    · rw [if_pos hk, ints_get _ hk]; simp [upd]
    · rw [if_neg hk, Array.getElem?_eq_none (by rw [ints_size]; omega)]
  · rw [if_neg e]
    by_cases hi : i < n
    · rw [ints_get _ hi, ints_get _ hi, upd, if_neg (fun x => e x.symm)]
    · rw [Array.getElem?_eq_none (by rw [ints_size]; omega), Array.getElem?_eq_none (by rw [ints_size]; omega)]

/-- block B is an array of n ints -/
def Arr (w : World) (B : Nat) (t : TypeId) (n : Nat) (f : Nat → Int) : Prop := w.heap[B]? = some (.cells (ints n f) t (0, 0))
section
variable {w w' : World} {B : Nat} {t : TypeId} {n : Nat} {f g : Nat → Int}
theorem Arr.cell (h : Arr w B t n f) {k : Nat} (hk : k < n) : w.cell? ⟨B, k, none⟩ = some (.int .i64 (f k)) := (cell_of_row w B k _ t _ h).trans (ints_get f hk)
theorem Arr.free (h : Arr w B t n f) (k : Nat) : w.frozen? ⟨B, k, none⟩ = false := frozen_of_row w B k _ t h
theorem Arr.lt (h : Arr w B t n f) : B < w.heap.size := by
  refine Classical.byContradiction fun hn => ?_
  unfold Arr at h
  rw [Array.getElem?_eq_none (by omega)] at h
  cases h
theorem Arr.set (h : Arr w B t n f) (k : Nat) (v : Int) : Arr (w.setCell ⟨B, k, none⟩ (.int .i64 v)) B t n (upd f k v) := by
  have := heap_setCell_same w B k _ t (.int .i64 v) h
  rwa [ints_set] at this
theorem Arr.far (h : Arr w B t n f) {p : Addr} (hp : B ≠ p.block) (v : Value) : Arr (w.setCell p v) B t n f := (heap_setCell_other w p B v hp).trans h
theorem Arr.drew (h : Arr w B t n f) : Arr w.drew B t n f := h
theorem Arr.drewN (h : Arr w B t n f) (k : Nat) : Arr (w.drewN k) B t n f := h
theorem Arr.alloc (h : Arr w B t n f) (o : Obj) : Arr (w.alloc o) B t n f := (Below.heap_alloc w o B h.lt).trans h
theorem Arr.new (w : World) (t : TypeId) (n : Nat) (f : Nat → Int) : Arr (w.alloc (.cells (ints n f) t)) w.heap.size t n f := heap_alloc_new w _
theorem Arr.congr (h : Arr w B t n f) (e : ∀ j, j < n → f j = g j) : Arr w B t n g := by
  unfold Arr at *; rw [h, ints_congr e]
theorem Arr.below {D : Nat} (h : Arr w B t n f) (hb : Below D w w') (hB : B < D) : Arr w' B t n f := (hb.block B hB).trans h
end
theorem below_drewN {B : Nat} {a w : World} (h : Below B a w) (n : Nat) : Below B a (w.drewN n) := ⟨h.os, h.tape, h.output, h.size, h.block⟩
theorem Arr.setRow {w : World} {B : Nat} {t : TypeId} {n : Nat} {f : Nat → Int} (h : Arr w B t n f) (g : Nat → Int) : Arr (w.setRow B (ints n g)) B t n g := setRow_heap w B _ _ t _ h
theorem Arr.farRow {w : World} {B C : Nat} {t : TypeId} {n : Nat} {f : Nat → Int} (h : Arr w B t n f) (hC : B ≠ C) (cs : Array Value) : Arr (w.setRow C cs) B t n f := (setRow_other w C B cs hC).trans h
section
variable {P : Program}
theorem ints_one (n : Nat) (f : Nat → Int) : (ints n f).all (·.oneCell') = true := by
  rw [Array.all_eq_true_iff_forall_mem]
  intro v hv
  simp only [ints, List.mem_toArray, List.mem_map] at hv
  obtain ⟨j, _, rfl⟩ := hv
  rfl
theorem wpList_load_arr {ops : Array Oper} {rest : List Oper} {o : Oper} {a : Act} {w : World} {Q : Exit → Act → World → Prop} (hgd : o.guard = none) (ty : TypeId) (x : Operand) (ho : o.op = .load ty x)
    (B : Nat) (hx : a.eval x = .pointer (some ⟨B, 0, none⟩)) {t e : TypeId} {n : Nat} {f : Nat → Int} (h : Arr w B t n f) (hu : P.underlying ty = some (.array n e)) (hi : (P.info? ty).map (·.size) = some n)
    (hk : wpList P ops Q rest (a.put o.dst (.agg (ints n f))) w) : wpList P ops Q (o :: rest) a w :=
  wpList_load_row hgd ty x ho B hx t (ints n f) (0, 0) _ h hu rfl (by rw [ints_size]; exact hi) hk
theorem wpList_store_arr {ops : Array Oper} {rest : List Oper} {o : Oper} {a : Act} {w : World} {Q : Exit → Act → World → Prop} (hgd : o.guard = none) (ty : TypeId) (x y : Operand) (ho : o.op = .store ty x y)
    (B : Nat) (n : Nat) (g : Nat → Int) (hx : a.eval x = .pointer (some ⟨B, 0, none⟩)) (hy : a.eval y = .agg (ints n g)) {t : TypeId} {f : Nat → Int} (h : Arr w B t n f) (hi : (P.info? ty).map (·.size) = some n)
    (hk : wpList P ops Q rest (a.put o.dst undef) (w.setRow B (ints n g))) : wpList P ops Q (o :: rest) a w :=
  wpList_store_row hgd ty x y ho B (ints n g) hx hy t (ints n f) h (by rw [ints_size]; exact hi) (by rw [ints_size, ints_size]) (ints_one n g) hk
theorem ret_arr {fn : Func} {p : Tmp} {ty e : TypeId} {n : Nat} {f : Nat → Int} {t : TypeId} {R : Ending → World → Prop} {a : Act} {w : World} {B : Nat} (hr : fn.results = #[.cell p ty]) (hd : a.defers = []) (hp : a.tmps.getD p undef = .pointer (some ⟨B, 0, none⟩))
    (h : Arr w B t n f) (hu : P.underlying ty = some (.array n e)) (hi : (P.info? ty).map (·.size) = some n) (hR : R (.returned (.agg (ints n f))) w) : bodyPost P fn R .ret a w :=
  bodyPost_ret (results_cell_row hr a.tmps w B t (ints n f) (0, 0) _ hp h hu rfl (by rw [ints_size]; exact hi)) hd hR
/-- a whole array stored: the world behind it is a letter -/
theorem wpList_store_abs {ops : Array Oper} {rest : List Oper} {o : Oper} {a : Act} {w w0 : World} {D : Nat} {Q : Exit → Act → World → Prop} (hgd : o.guard = none) (ty : TypeId) (x y : Operand) (ho : o.op = .store ty x y)
    (B : Nat) (n : Nat) (g : Nat → Int) (hx : a.eval x = .pointer (some ⟨B, 0, none⟩)) (hy : a.eval y = .agg (ints n g)) {t : TypeId} {f : Nat → Int} (h : Arr w B t n f) (hi : (P.info? ty).map (·.size) = some n) (hb : Below D w0 w) (hD : D ≤ B)
    (hk : ∀ W, Arr W B t n g → (∀ C t' n' f', C ≠ B → Arr w C t' n' f' → Arr W C t' n' f') → W.heap.size = w.heap.size → Below D w0 W → wpList P ops Q rest (a.put o.dst undef) W) : wpList P ops Q (o :: rest) a w :=
  wpList_store_arr hgd ty x y ho B n g hx hy h hi
    (hk _ (h.setRow g) (fun C t' n' f' hC hA => hA.farRow hC _) (by simp) (below_setRow hb hD _))
end
end Go.Proofs.YtmkbfjklhejdnaaDoor
