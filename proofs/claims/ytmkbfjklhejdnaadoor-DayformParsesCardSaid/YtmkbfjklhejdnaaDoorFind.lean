/-
  THE WALK of words.find.
-/
import Derived.Test.YtmkbfjklhejdnaaDoorBegun
import Derived.Scope
import Derived.WalkMore
namespace Go.Proofs.YtmkbfjklhejdnaaDoor
open Go Go.RowKit
attribute [local go_sem] Oper.semAt_some

theorem wpIn_scope_wide {n : Nat} {P : Program} {c : Code} {Q : Exit → Act → World → Prop} {a : Act} {w : World} (h : c.wpIn Fence.wide n P (Exit.noGoto Q) a w) : (Code.scope c).wpIn Fence.wide n P Q a w :=
  wpIn_wide.2 (wp_scope_straight (wpIn_wide.1 h))
/-- which one of words a word is -/
def fd (s : List UInt8) (ws : List (List UInt8)) : Option Nat :=
  match (hits s ws ws.length).find? (·.2) with
  | some x => some x.1
  | none => match hits s ws ws.length with
    | [x] => some x.1
    | _ => none
def fdV (s : List UInt8) (ws : List (List UInt8)) : Value := .tuple (match fd s ws with | some i => #[.int .i64 i, .int .i64 0] | none => #[.int .i64 0, .int .i64 13])
theorem row_lt {w : World} {B : Nat} {o : Obj} (h : w.heap[B]? = some o) : B < w.heap.size := (Array.getElem?_eq_some_iff.1 h).1
/-- where the loop stands: no word is the same yet -/
def lastOf (pre : List (Nat × Bool)) : Nat := (pre.getLast?.map (·.1)).getD 0
theorem find_none {ys : List (Nat × Bool)} (h : ∀ x ∈ ys, x.2 = false) : ys.find? (·.2) = none := List.find?_eq_none.2 fun x hx => by rw [h x hx]; simp
theorem fd_many {s : List UInt8} {ws : List (List UInt8)} (h : (hits s ws ws.length).find? (·.2) = none) (h1 : ¬ (hits s ws ws.length).length = 1) : fdV s ws = .tuple #[.int .i64 0, .int .i64 13] := by
  unfold fdV fd
  rw [h]
  generalize hits s ws ws.length = ys at *
  match ys, h1 with
  | [], _ => rfl
  | [_], h1 => exact absurd rfl h1
  | _ :: _ :: _, _ => rfl
theorem hits_prefix (s : List UInt8) (ws : List (List UInt8)) (k : Nat) : ∀ m, ∃ r, hits s ws (k + m) = hits s ws k ++ r
  | 0 => ⟨[], by simp⟩
  | m + 1 => by
    obtain ⟨r, hr⟩ := hits_prefix s ws k m
    exact ⟨r ++ hitAt s ws (k + m), by rw [← Nat.add_assoc, hits_succ, hr, List.append_assoc]⟩
theorem find_some {s : List UInt8} {ws : List (List UInt8)} {k i : Nat} {pre' : List (Nat × Bool)} (hk : k ≤ ws.length) (h : hits s ws k = pre' ++ [(i, true)]) (hp : ∀ x ∈ pre', x.2 = false) : (hits s ws ws.length).find? (·.2) = some (i, true) := by
  obtain ⟨r, hr⟩ := hits_prefix s ws k (ws.length - k)
  rw [show k + (ws.length - k) = ws.length by omega] at hr
  rw [hr, h, List.append_assoc, List.find?_append, find_none hp]
  simp
set_option maxRecDepth 100000 in
set_option maxHeartbeats 4000000 in
theorem find_any (l : List UInt8) (b off cap : Nat) (ws : List (List UInt8)) (w : World) (hl : l.length ≤ 1000) (hw : ∀ j, j < ws.length → (ws.getD j []).length ≤ 1000) (hn : ws.length ≤ 1000) (hb : b < w.heap.size) (hc : WL w b off ws) :
    Calls Tryd.prog 44 #[.string ⟨l.toArray⟩, .slice (some ⟨b, off, none⟩) ws.length cap] w fun e w' => e = .returned (fdV (l.map low) ws) ∧ Below w.heap.size w w' := by
  refine (callsIn_wide (n := 9)).1 ?_
  refine callsIn_of_wp_marks Tryd.func44 rfl trivial ?_ rfl
  simp only [Tryd.ntmps44, List.size_toArray, List.length_cons, List.length_nil, Nat.reduceAdd, Nat.reduceSub, Array.replicate_succ, Array.replicate_zero, List.push_toArray, List.append_toArray, List.nil_append, List.cons_append]
  gi_wp2
  refine wpIn_scope_wide ?_
  gi_wp2
  refine wpIn_label ?_
  gi_wp2
  refine ⟨trivial, ?_⟩
  refine (callsIn_wide.2 (begun_any l b off ws.length cap _ hl)).mono ?_
  rintro e W1 ⟨rfl, q0, q1, hB1⟩
  gi_wp2
  simp only [World.size_alloc] at q0 q1
  have hsz : w.heap.size + 1 + 1 ≤ W1.heap.size := by have := hB1.size; simpa using this
  have lt0 : w.heap.size + 1 + 1 < W1.heap.size := block_lt_of_cell q0
  have kN : W1.heap[w.heap.size]? = some (.cells #[.int .i64 0] 3 (0, 0)) := (hB1.block w.heap.size (by simp only [World.size_alloc]; omega)).trans ((Below.heap_alloc (w.alloc (.cells #[.int .i64 0] 3)) _ w.heap.size (by simp)).trans (heap_alloc_new w _))
  have kA : W1.heap[w.heap.size + 1]? = some (.cells #[.int .i64 0] 3 (0, 0)) := (hB1.block (w.heap.size + 1) (by simp only [World.size_alloc]; omega)).trans (by
    have := heap_alloc_new (w.alloc (.cells #[.int .i64 0] 3)) (.cells #[.int .i64 0] 3)
    simpa using this)
  have cN := cell_of_row W1 w.heap.size 0 _ _ _ kN
  have cA := cell_of_row W1 (w.heap.size + 1) 0 _ _ _ kA
  have fN := frozen_of_row W1 w.heap.size 0 _ _ kN
  have fA := frozen_of_row W1 (w.heap.size + 1) 0 _ _ kA
  have hBw : Below w.heap.size w W1 := (((Below.refl _ _).alloc (Nat.le_refl _) (.cells #[.int .i64 0] 3)).alloc (by simp) (.cells #[.int .i64 0] 3)).trans (hB1.mono (by simp only [World.size_alloc]; omega))
  refine wpIn_rangeFunc_ownF rfl (by decide) (gf := 70) (lb := #[.pointer (some ⟨w.heap.size + 1 + 1 + 1, 0, none⟩), .pointer (some ⟨w.heap.size + 1 + 1, 0, none⟩)]) rfl trivial (enters_of Tryd.func70 (by kernel_rfl) rfl)
    (begun_stops (9 - 1) (w.heap.size + 1 + 1 + 1) (w.heap.size + 1 + 1) w.heap.size b off cap (l.map low) ws hw hn hb W1 (by omega) q1 q0 (hc.below hBw hb)) kept_t
    (fun W l o o' hle h1 h2 h3 => ⟨belowK_b (by omega) W l o o' hle h1 h2 h3, World.putObj_heap_other (by omega)⟩) (Below.refl _ _) (fun _ => rfl)
    (fun pre W => ((∀ x ∈ pre, x.2 = false) ∧ W.cell? ⟨w.heap.size, 0, none⟩ = some (.int .i64 pre.length) ∧ W.frozen? ⟨w.heap.size, 0, none⟩ = false ∧ W.cell? ⟨w.heap.size + 1, 0, none⟩ = some (.int .i64 (lastOf pre)) ∧ W.frozen? ⟨w.heap.size + 1, 0, none⟩ = false) ∧ Below w.heap.size w W)
    (fun c pre W => (c = .exit 0 ∧ W.cell? ⟨w.heap.size, 0, none⟩ = some (.int .i64 1) ∧ ∃ pre' i, pre = pre' ++ [(i, true)] ∧ (∀ x ∈ pre', x.2 = false) ∧ W.cell? ⟨w.heap.size + 1, 0, none⟩ = some (.int .i64 (i : Nat))) ∧ Below w.heap.size w W)
    (OwnFrom.and (Own.from (fun s A B row hs hg hr => ⟨hs.1, cell_kept hs.2.1 hg hr, (frozen_kept hs.2.1 hg hr).trans hs.2.2.1, cell_kept hs.2.2.2.1 hg hr, (frozen_kept hs.2.2.2.1 hg hr).trans hs.2.2.2.2⟩) _) (ownFrom_below (Nat.le_refl _) (by omega)))
    (fun c => OwnFrom.and (Own.from (fun s A B row hs hg hr => by
      obtain ⟨h1, h2, pre', i, h3, h4, h5⟩ := hs
      exact ⟨h1, cell_kept h2 hg hr, pre', i, h3, h4, cell_kept h5 hg hr⟩) _) (ownFrom_below (Nat.le_refl _) (by omega)))
    ⟨⟨fun x h => by simp at h, cN, fN, cA, fA⟩, hBw⟩
    (fun x => { tmps := #[.string ⟨l.toArray⟩, .slice (some ⟨b, off, none⟩) ws.length cap, undef, undef, .int .i64 0, .int .i64 0, .pointer (some ⟨w.heap.size, 0, none⟩), .pointer (some ⟨w.heap.size + 1, 0, none⟩), .int .i64 x.1, .bool x.2, .string ⟨l.toArray⟩, .slice (some ⟨b, off, none⟩) ws.length cap, .func (.func 70) #[] #[.pointer (some ⟨w.heap.size + 1 + 1 + 1, 0, none⟩), .pointer (some ⟨w.heap.size + 1 + 1, 0, none⟩)], .int .i64 x.1, .bool x.2, undef, undef, undef, undef, undef, undef, undef], defers := [] }) ?assign ?body ?done ?stop
  case assign =>
    intro l' x W K hK
    gi_wp2
    exact hK
  case body =>
    rintro l' pre ⟨i, sm⟩ W ⟨⟨hp, c1, f1, c2, f2⟩, hB⟩ hlen
    have d1 : (W.setCell ⟨w.heap.size + 1, 0, none⟩ (.int .i64 i)).cell? ⟨w.heap.size, 0, none⟩ = some (.int .i64 pre.length) := (World.cell?_setCell_other _ _ _ _ (by intro h; have := congrArg Addr.block h; simp at this)).trans c1
    have d2 : (W.setCell ⟨w.heap.size + 1, 0, none⟩ (.int .i64 i)).cell? ⟨w.heap.size + 1, 0, none⟩ = some (.int .i64 i) := World.cell?_setCell_same _ _ _ c2
    have e1 : ((W.setCell ⟨w.heap.size + 1, 0, none⟩ (.int .i64 i)).setCell ⟨w.heap.size, 0, none⟩ (.int .i64 (pre.length + 1))).cell? ⟨w.heap.size, 0, none⟩ = some (.int .i64 (pre.length + 1)) := World.cell?_setCell_same _ _ _ d1
    have e2 : ((W.setCell ⟨w.heap.size + 1, 0, none⟩ (.int .i64 i)).setCell ⟨w.heap.size, 0, none⟩ (.int .i64 (pre.length + 1))).cell? ⟨w.heap.size + 1, 0, none⟩ = some (.int .i64 i) := (World.cell?_setCell_other _ _ _ _ (by intro h; have := congrArg Addr.block h; simp at this)).trans d2
    have hB2 := (hB.setCell (p := ⟨w.heap.size + 1, 0, none⟩) (by simp) (.int .i64 i)).setCell (p := ⟨w.heap.size, 0, none⟩) (Nat.le_refl _) (.int .i64 (pre.length + 1))
    cases sm with
    | true =>
      gi_wp2
      exact ⟨((KeepsOthers.setCell _ _ _).trans (KeepsOthers.setCell _ _ _)).trans (KeepsOthers.setCell _ _ _), ⟨rfl, World.cell?_setCell_same _ _ _ e1, pre, i, rfl, hp, (World.cell?_setCell_other _ _ _ _ (by intro h; have := congrArg Addr.block h; simp at this)).trans e2⟩, hB2.setCell (p := ⟨w.heap.size, 0, none⟩) (Nat.le_refl _) _⟩
    | false =>
      gi_wp2
      refine ⟨(KeepsOthers.setCell _ _ _).trans (KeepsOthers.setCell _ _ _), ⟨((Below.refl _ _).setCell (p := ⟨w.heap.size + 1, 0, none⟩) (by simp) _).setCell (p := ⟨w.heap.size, 0, none⟩) (Nat.le_refl _) _, (heap_setCell_other _ _ _ _ (by simp; omega)).trans (heap_setCell_other _ _ _ _ (by simp))⟩, ⟨?_, ?_, ?_, ?_, ?_⟩, hB2⟩
      · intro x hx
        rcases List.mem_append.1 hx with hx | hx
        · exact hp x hx
        · simp at hx; rw [hx]
      · rw [e1]; simp
      · rw [World.frozen?_setCell, World.frozen?_setCell]; exact f1
      · rw [e2]; simp [lastOf]
      · rw [World.frozen?_setCell, World.frozen?_setCell]; exact f2
  case done =>
    rintro D ys W hD rfl ⟨⟨hp, c1, f1, c2, f2⟩, hB⟩ hK
    have hf := find_none hp
    by_cases h1 : (hits (l.map low) ws ws.length).length = 1
    · obtain ⟨x, hx⟩ := List.length_eq_one_iff.1 h1
      have EV : fdV (l.map low) ws = .tuple #[.int .i64 x.1, .int .i64 0] := by unfold fdV fd; rw [hf, hx]
      rw [h1] at c1
      rw [hx, show lastOf [x] = x.1 from rfl] at c2
      clear hf hx hp h1
      gi_wp2
      refine ⟨by simp, .inl ⟨_, _, rfl, run_takeDeferred hK, ?_⟩⟩
      refine ⟨.tuple #[.int .i64 x.1, .int .i64 0], ?_, by rw [EV], hB.trans (belowK_b (w := w) (Nat.le_refl _) W D _ _ (by omega) hK rfl rfl)⟩
      simp [results, Tryd.f44, go_sem]
    · have EV := fd_many hf h1
      have n1 : (((hits (l.map low) ws ws.length).length : Int) != 1) = true := by rw [bne_iff_ne]; omega
      generalize (hits (l.map low) ws ws.length).length = m at *
      clear hf hp h1
      gi_wp2
      refine ⟨by simp, .inl ⟨_, _, rfl, run_takeDeferred hK, ?_⟩⟩
      refine ⟨.tuple #[.int .i64 0, .int .i64 13], ?_, by rw [EV], hB.trans (belowK_b (w := w) (Nat.le_refl _) W D _ _ (by omega) hK rfl rfl)⟩
      simp [results, Tryd.f44, go_sem]
  case stop =>
    rintro D c pre W hD ⟨k, hk, hpre⟩ ⟨⟨rfl, c1, pre', i, h3, h4, c2⟩, hB⟩ hK
    have EV : fdV (l.map low) ws = .tuple #[.int .i64 (i : Nat), .int .i64 0] := by
      unfold fdV fd
      rw [find_some hk (hpre.symm.trans h3) h4]
    clear h4 h3 hpre
    gi_wp2
    refine ⟨by simp, .inl ⟨_, _, rfl, run_takeDeferred hK, ?_⟩⟩
    refine ⟨.tuple #[.int .i64 (i : Nat), .int .i64 0], ?_, by rw [EV], hB.trans (belowK_b (w := w) (Nat.le_refl _) W D _ _ (by omega) hK rfl rfl)⟩
    simp [results, Tryd.f44, go_sem]
end Go.Proofs.YtmkbfjklhejdnaaDoor
