/-
  THE WALK of abbr.All, and its iterator's contract.
-/
import Derived.RangeFuncNested
import Derived.RangeFuncBound
import Derived.RangeFuncCalls
import Derived.RangeFuncLeaves
import Derived.RangeFuncFrom
import Derived.Shelf.Abstract
import Derived.Shelf.RegionOpen
import Derived.WalkKit
import Derived.OwnWalkIn
import Derived.TacticsInMore
import Derived.LoopNIn
import Derived.LoopIn
import Derived.BigFrameIn
import Derived.Test.YtakpbgjmblbaiaaDoorAwake
namespace Go.Proofs.YtakpbgjmblbaiaaDoor
open Go Go.RowKit AbbM
attribute [local go_sem] Oper.semAt_some

theorem grown_below {w w' : World} (h : Below w.heap.size w w') (row : Option Nat) : w.grownBy w' row := ⟨h.os, h.tape, h.output, h.size, fun k hk _ => h.block k hk⟩
/-- texts lie in memory -/
def TL (w : World) (b off : Nat) (ws : List (List UInt8)) : Prop := ∀ j, j < ws.length → w.cell? ⟨b, off + j, none⟩ = some (.string ⟨(ws.getD j []).toArray⟩)
/-- what a round keeps: what lies below n₀, and what cells were made behind it -/
def K2 (n₀ : Nat) (W W' : World) : Prop := Below n₀ W W' ∧ ∀ k o, n₀ < k → W.heap[k]? = some o → o.isCells = true → W'.heap[k]? = some o
theorem k2_t {n₀ : Nat} {A B C : World} (h : K2 n₀ A B) (h' : K2 n₀ B C) : K2 n₀ A C := ⟨h.1.trans h'.1, fun k o hk h1 h2 => h'.2 k o hk (h.2 k o hk h1 h2) h2⟩
theorem k2_below {n₀ : Nat} {A B : World} (h : Below A.heap.size A B) (hn : n₀ ≤ A.heap.size) : K2 n₀ A B := ⟨h.mono hn, fun k _ _ h1 _ => (h.block k (Array.getElem?_eq_some_iff.1 h1).1).trans h1⟩
/-- what comes of the first k letters -/
def gl (f : Bool → List UInt8 → List UInt8) (ws : List (List UInt8)) : Nat → List (Bool × List UInt8)
  | 0 => []
  | k + 1 => gl f ws k ++ [(false, f false (ws.getD k [])), (true, f true (ws.getD k []))]
theorem gl_succ (f : Bool → List UInt8 → List UInt8) (ws : List (List UInt8)) (k : Nat) : gl f ws (k + 1) = gl f ws k ++ [(false, f false (ws.getD k [])), (true, f true (ws.getD k []))] := rfl
theorem gl_len (f : Bool → List UInt8 → List UInt8) (ws : List (List UInt8)) : ∀ k, (gl f ws k).length = 2 * k
  | 0 => rfl
  | k + 1 => by unfold gl; rw [List.length_append, gl_len f ws k]; simp; omega
theorem gl_pre (f : Bool → List UInt8 → List UInt8) (ws : List (List UInt8)) (k : Nat) : ∀ m, gl f ws k <+: gl f ws (k + m)
  | 0 => List.prefix_refl _
  | m + 1 => (gl_pre f ws k m).trans (List.prefix_append _ _)
abbrev encb (x : Bool × List UInt8) : Array Value := #[.bool x.1, .string ⟨x.2.toArray⟩]
theorem all_any (l : List UInt8) (off : Int) (p : Option Addr) (m cap : Nat) (w : World) :
    Calls Tryd.prog 16 #[.string ⟨l.toArray⟩, .int .i64 off, .slice p m cap] w fun e w' => e = .returned (.func (.func 26) #[] #[.pointer (some ⟨w.heap.size + 2, 0, none⟩), .pointer (some ⟨w.heap.size, 0, none⟩), .pointer (some ⟨w.heap.size + 1, 0, none⟩)]) ∧
      w' = ((w.alloc (.cells #[.string ⟨l.toArray⟩] 9)).alloc (.cells #[.int .i64 off] 3)).alloc (.cells #[.slice p m cap] 39) := by
  go_enter Tryd.func16, Tryd.ntmps16
  go_wp2_with fail
  go_ret
  exact ⟨rfl, rfl⟩
theorem showV_ok {l : List UInt8} {off : Int} (dst : Bool) (t : List UInt8) (h : showE l off = 0) : showV l off dst t = .tuple #[.string ⟨(showS l off dst t).toArray⟩, .int .i64 0] := by unfold showV; rw [h]
set_option maxRecDepth 100000 in
set_option maxHeartbeats 4000000 in
theorem all1_ok (n : Nat) (l Bl Bf Bo n₀ b off cap : Nat) (p : Option Addr) (F : List UInt8) (o : Int) (ws : List (List UInt8)) (hE : showE F o = 0) (hF : F.length ≤ 1000) (hw : ∀ j, j < ws.length → (ws.getD j []).length ≤ 1000) (hn : ws.length ≤ 1000) (hb : b < n₀) (hff : Bf < n₀) (hof : Bo < n₀)
    (hp : 0 < ws.length → p = some ⟨b, off, none⟩) (J Jx : List (Bool × List UInt8) → World → Prop) (W : World)
    (hJ : AbidesFrom W.heap.size J) (hW : n₀ < W.heap.size)
    (hY : ∀ pre x W, J pre W → pre.length < 2 * ws.length → YieldAt Fence.wide (n - 1) Tryd.prog l (encb x) W fun e W' =>
      (e = .returned (.bool true) ∧ J (pre ++ [x]) W' ∧ K2 n₀ W W') ∨ (e = .returned (.bool false) ∧ Jx (pre ++ [x]) W'))
    (h1 : W.cell? ⟨Bl, 0, none⟩ = some (.slice p ws.length cap)) (h2 : W.cell? ⟨Bf, 0, none⟩ = some (.string ⟨F.toArray⟩)) (h3 : W.cell? ⟨Bo, 0, none⟩ = some (.int .i64 o)) (hc : 0 < ws.length → TL W b off ws) (hB : ∀ W', Below n₀ W W' → Big W') (h0 : J [] W) :
    CallsIn Fence.wide n Tryd.prog 26 #[.func (.yield l) #[] #[], .pointer (some ⟨Bl, 0, none⟩), .pointer (some ⟨Bf, 0, none⟩), .pointer (some ⟨Bo, 0, none⟩)] W fun e W' => (∃ v, e = .returned v) ∧
      ((∃ ys, ys = gl (showS F o) ws ws.length ∧ J ys W') ∨ (∃ pre, pre <+: gl (showS F o) ws ws.length ∧ Jx pre W')) := by
  have HF := Lib.hid hF
  refine callsIn_of_wp Tryd.func26 rfl trivial ?_ rfl
  simp only [Tryd.ntmps26, List.size_toArray, List.length_cons, List.length_nil, Nat.reduceAdd, Nat.reduceSub, Array.replicate_succ, Array.replicate_zero, List.push_toArray, List.append_toArray, List.nil_append, List.cons_append]
  gi_wp2
  gi_loopw [13] (fun i wr => ∃ k : Nat, k ≤ ws.length ∧ i = .int .i64 k ∧ J (gl (showS F o) ws k) wr ∧ Below n₀ W wr) (fun i _ => ws.length - (intOf i).toNat)
  case atStart => exact ⟨0, Nat.zero_le _, rfl, h0, Below.refl _ _⟩
  case round =>
    obtain ⟨k, hk, rfl, hJs, hnx⟩ := hrel
    by_cases hlt : k < ws.length
    · obtain rfl := hp (by omega)
      have cx : wr.cell? ⟨b, off + k, none⟩ = some (.string ⟨(ws.getD k []).toArray⟩) := (hnx.cell (p := ⟨b, off + k, none⟩) hb).trans (hc (by omega) k hlt)
      have hlen := hw k hlt
      obtain ⟨x, hx⟩ : ∃ x, ws.getD k [] = x := ⟨_, rfl⟩
      rw [hx] at cx hlen
      have hlt2 : (k : Int) < (ws.length : Int) := by omega
      obtain ⟨w0, rfl⟩ : ∃ w0, w0 = wr := ⟨_, rfl⟩
      have HX := Lib.hid hx
      have HLx := Lib.hid hlen
      have HC := Lib.hid hc
      have HYY := Lib.hid hY
      have HBB := Lib.hid hB
      have HW := Lib.hid hw
      have hszr : n₀ < w0.heap.size := by have := hnx.size; omega
      have hJ1 : J (gl (showS F o) ws k) (w0.alloc (.cells #[.bool false, .bool true] 4)) := hJ _ _ _ none hJs (grown_below ((Below.refl _ _).alloc (Nat.le_refl _) _) none) (fun r e => by cases e)
      have hB1 : Below n₀ W (w0.alloc (.cells #[.bool false, .bool true] 4)) := hnx.alloc (by have := hnx.size; omega) _
      have hrow : (w0.alloc (.cells #[.bool false, .bool true] 4)).heap[w0.heap.size]? = some (.cells #[.bool false, .bool true] 4 (0, 0)) := heap_alloc_new w0 _
      clear hx hlen hp hc hY hB hw
      gi_wp2
      gi_loopw [19] (fun i wr => ∃ j : Nat, j ≤ 2 ∧ i = .int .i64 j ∧ J (gl (showS F o) ws k ++ List.take j [(false, showS F o false x), (true, showS F o true x)]) wr ∧ Below n₀ W wr ∧ n₀ < wr.heap.size ∧ wr.heap[w0.heap.size]? = some (.cells #[.bool false, .bool true] 4 (0, 0))) (fun i _ => 2 - (intOf i).toNat)
      case atStart => exact ⟨0, by omega, rfl, by simpa using hJ1, hB1, by have := hB1.size; omega, hrow⟩
      case round =>
        obtain ⟨j, hj, rfl, hJ2, hB2, hs2, hr2⟩ := hrel
        by_cases hjl : j < 2
        · have cF : wr.cell? ⟨Bf, 0, none⟩ = some (.string ⟨F.toArray⟩) := (hB2.cell (p := ⟨Bf, 0, none⟩) hff).trans h2
          have cO : wr.cell? ⟨Bo, 0, none⟩ = some (.int .i64 o) := (hB2.cell (p := ⟨Bo, 0, none⟩) hof).trans h3
          have c0 := cell_of_row wr w0.heap.size 0 _ _ _ hr2
          have c1 := cell_of_row wr w0.heap.size 1 _ _ _ hr2
          have hjj : j = 0 ∨ j = 1 := by omega
          rcases hjj with rfl | rfl
          ·
            have EV := Lib.hid (showV_ok false x hE)
            gi_wp2
            refine ⟨trivial, (fun h => by cases h), ?_⟩
            refine (callsIn_wide.2 (show_any F o false x _ (HBB.out _ hB2) HF.out HLx.out)).mono ?_
            rintro e W2 ⟨rfl, hb2⟩
            have hJ3 := hJ _ _ _ none hJ2 (grown_below hb2 none) (fun r e => by cases e)
            have hB3 : Below n₀ W W2 := hB2.trans (hb2.mono (by omega))
            have hr3 := (hb2.block w0.heap.size (Array.getElem?_eq_some_iff.1 hr2).1).trans hr2
            have hs3 : n₀ < W2.heap.size := by have := hb2.size; omega
            obtain ⟨fn, tmps, assign, body, hy2, hR⟩ := HYY.out _ (false, showS F o false x) W2 hJ3 (by rw [List.length_append, gl_len]; simp; omega)
            dsimp only [encb] at hy2
            rw [EV.out]
            generalize hS : showS F o false x = S at *
            have HS := Lib.hid hS
            clear c0 c1 hr2 hJ2 hB2 hs2 hS
            gi_wp2
            refine ⟨fun h => (by cases h), ?_⟩
            refine hR.mono ?_
            rintro e W4 (⟨rfl, hJ4, hk4⟩ | ⟨rfl, hJx4⟩)
            · gi_wp2
              go_roundw
              case rel =>
                refine ⟨0 + 1, by omega, by simp, ?_, hB3.trans hk4.1, by have := hk4.1.size; omega, hk4.2 w0.heap.size _ (by omega) hr3 rfl⟩
                rw [List.append_assoc] at hJ4
                simpa [HS.out] using hJ4
              case measure => simp [intOf]
            · gi_wp2
              refine bodyPost_ret (results_none rfl _ _ _) rfl ?_
              refine ⟨⟨_, rfl⟩, .inr ⟨_, ?_, hJx4⟩⟩
              refine List.IsPrefix.trans ?_ (show gl (showS F o) ws (k + 1) <+: gl (showS F o) ws ws.length by
                have := gl_pre (showS F o) ws (k + 1) (ws.length - (k + 1))
                rwa [show k + 1 + (ws.length - (k + 1)) = ws.length by omega] at this)
              rw [gl_succ, HX.out, List.append_assoc, List.prefix_append_right_inj, ← HS.out]
              simp
          ·
            have EV := Lib.hid (showV_ok true x hE)
            gi_wp2
            refine ⟨trivial, (fun h => by cases h), ?_⟩
            refine (callsIn_wide.2 (show_any F o true x _ (HBB.out _ hB2) HF.out HLx.out)).mono ?_
            rintro e W2 ⟨rfl, hb2⟩
            have hJ3 := hJ _ _ _ none hJ2 (grown_below hb2 none) (fun r e => by cases e)
            have hB3 : Below n₀ W W2 := hB2.trans (hb2.mono (by omega))
            have hr3 := (hb2.block w0.heap.size (Array.getElem?_eq_some_iff.1 hr2).1).trans hr2
            have hs3 : n₀ < W2.heap.size := by have := hb2.size; omega
            obtain ⟨fn, tmps, assign, body, hy2, hR⟩ := HYY.out _ (true, showS F o true x) W2 hJ3 (by rw [List.length_append, gl_len]; simp; omega)
            dsimp only [encb] at hy2
            rw [EV.out]
            generalize hS : showS F o true x = S at *
            have HS := Lib.hid hS
            clear c0 c1 hr2 hJ2 hB2 hs2 hS
            gi_wp2
            refine ⟨fun h => (by cases h), ?_⟩
            refine hR.mono ?_
            rintro e W4 (⟨rfl, hJ4, hk4⟩ | ⟨rfl, hJx4⟩)
            · gi_wp2
              go_roundw
              case rel =>
                refine ⟨1 + 1, by omega, by simp, ?_, hB3.trans hk4.1, by have := hk4.1.size; omega, hk4.2 w0.heap.size _ (by omega) hr3 rfl⟩
                rw [List.append_assoc] at hJ4
                simpa [HS.out] using hJ4
              case measure => simp [intOf]
            · gi_wp2
              refine bodyPost_ret (results_none rfl _ _ _) rfl ?_
              refine ⟨⟨_, rfl⟩, .inr ⟨_, ?_, hJx4⟩⟩
              refine List.IsPrefix.trans ?_ (show gl (showS F o) ws (k + 1) <+: gl (showS F o) ws ws.length by
                have := gl_pre (showS F o) ws (k + 1) (ws.length - (k + 1))
                rwa [show k + 1 + (ws.length - (k + 1)) = ws.length by omega] at this)
              rw [gl_succ, HX.out, List.append_assoc, List.prefix_append_right_inj, ← HS.out]
              simp
        · obtain rfl : j = 2 := by omega
          gi_wp2
          go_roundw
          case rel => exact ⟨k + 1, by omega, by simp, by rw [gl_succ, HX.out]; simpa using hJ2, hB2⟩
          case measure => simp [intOf]; omega
    · obtain rfl : k = ws.length := by omega
      gi_wp2
      go_end0
      exact ⟨⟨_, rfl⟩, .inl ⟨_, rfl, hJs⟩⟩
theorem showV_bad {l : List UInt8} {off : Int} (dst : Bool) (t : List UInt8) : showV l off dst t = .tuple #[.string ⟨(showS l off dst t).toArray⟩, .int .i64 (showE l off)] := rfl
set_option maxRecDepth 100000 in
set_option maxHeartbeats 4000000 in
theorem all1_no (n : Nat) (l Bl Bf Bo n₀ b off cap : Nat) (p : Option Addr) (F : List UInt8) (o : Int) (ws : List (List UInt8)) (hE : showE F o ≠ 0) (hF : F.length ≤ 1000) (hw : ∀ j, j < ws.length → (ws.getD j []).length ≤ 1000) (hn : ws.length ≤ 1000) (hb : b < n₀) (hff : Bf < n₀) (hof : Bo < n₀)
    (hp : 0 < ws.length → p = some ⟨b, off, none⟩) (J : List (Bool × List UInt8) → World → Prop) (W : World)
    (hJ : AbidesFrom W.heap.size J) (hW : n₀ < W.heap.size)
    (h1 : W.cell? ⟨Bl, 0, none⟩ = some (.slice p ws.length cap)) (h2 : W.cell? ⟨Bf, 0, none⟩ = some (.string ⟨F.toArray⟩)) (h3 : W.cell? ⟨Bo, 0, none⟩ = some (.int .i64 o)) (hc : 0 < ws.length → TL W b off ws) (hB : ∀ W', Below n₀ W W' → Big W') (h0 : J [] W) :
    CallsIn Fence.wide n Tryd.prog 26 #[.func (.yield l) #[] #[], .pointer (some ⟨Bl, 0, none⟩), .pointer (some ⟨Bf, 0, none⟩), .pointer (some ⟨Bo, 0, none⟩)] W fun e W' => (∃ v, e = .returned v) ∧ J [] W' := by
  have HF := Lib.hid hF
  refine callsIn_of_wp Tryd.func26 rfl trivial ?_ rfl
  simp only [Tryd.ntmps26, List.size_toArray, List.length_cons, List.length_nil, Nat.reduceAdd, Nat.reduceSub, Array.replicate_succ, Array.replicate_zero, List.push_toArray, List.append_toArray, List.nil_append, List.cons_append]
  gi_wp2
  gi_loopw [13] (fun i wr => ∃ k : Nat, k ≤ ws.length ∧ i = .int .i64 k ∧ J [] wr ∧ Below n₀ W wr) (fun i _ => ws.length - (intOf i).toNat)
  case atStart => exact ⟨0, Nat.zero_le _, rfl, h0, Below.refl _ _⟩
  case round =>
    obtain ⟨k, hk, rfl, hJs, hnx⟩ := hrel
    by_cases hlt : k < ws.length
    · obtain rfl := hp (by omega)
      have cx : wr.cell? ⟨b, off + k, none⟩ = some (.string ⟨(ws.getD k []).toArray⟩) := (hnx.cell (p := ⟨b, off + k, none⟩) hb).trans (hc (by omega) k hlt)
      have hlen := hw k hlt
      obtain ⟨x, hx⟩ : ∃ x, ws.getD k [] = x := ⟨_, rfl⟩
      rw [hx] at cx hlen
      have hlt2 : (k : Int) < (ws.length : Int) := by omega
      obtain ⟨w0, rfl⟩ : ∃ w0, w0 = wr := ⟨_, rfl⟩
      have HLx := Lib.hid hlen
      have HC := Lib.hid hc
      have HBB := Lib.hid hB
      have HW := Lib.hid hw
      have hJ1 : J [] (w0.alloc (.cells #[.bool false, .bool true] 4)) := hJ _ _ _ none hJs (grown_below ((Below.refl _ _).alloc (Nat.le_refl _) _) none) (fun r e => by cases e)
      have hB1 : Below n₀ W (w0.alloc (.cells #[.bool false, .bool true] 4)) := hnx.alloc (by have := hnx.size; omega) _
      have hrow : (w0.alloc (.cells #[.bool false, .bool true] 4)).heap[w0.heap.size]? = some (.cells #[.bool false, .bool true] 4 (0, 0)) := heap_alloc_new w0 _
      clear hx hlen hp hc hB hw
      gi_wp2
      gi_loopw [19] (fun i wr => ∃ j : Nat, j ≤ 2 ∧ i = .int .i64 j ∧ J [] wr ∧ Below n₀ W wr ∧ n₀ < wr.heap.size ∧ wr.heap[w0.heap.size]? = some (.cells #[.bool false, .bool true] 4 (0, 0))) (fun i _ => 2 - (intOf i).toNat)
      case atStart => exact ⟨0, by omega, rfl, hJ1, hB1, by have := hB1.size; omega, hrow⟩
      case round =>
        obtain ⟨j, hj, rfl, hJ2, hB2, hs2, hr2⟩ := hrel
        by_cases hjl : j < 2
        · have cF : wr.cell? ⟨Bf, 0, none⟩ = some (.string ⟨F.toArray⟩) := (hB2.cell (p := ⟨Bf, 0, none⟩) hff).trans h2
          have cO : wr.cell? ⟨Bo, 0, none⟩ = some (.int .i64 o) := (hB2.cell (p := ⟨Bo, 0, none⟩) hof).trans h3
          have c0 := cell_of_row wr w0.heap.size 0 _ _ _ hr2
          have c1 := cell_of_row wr w0.heap.size 1 _ _ _ hr2
          have hjj : j = 0 ∨ j = 1 := by omega
          rcases hjj with rfl | rfl
          ·
            have EV := Lib.hid (showV_bad (l := F) (off := o) false x)
            gi_wp2
            refine ⟨trivial, (fun h => by cases h), ?_⟩
            refine (callsIn_wide.2 (show_any F o false x _ (HBB.out _ hB2) HF.out HLx.out)).mono ?_
            rintro e W2 ⟨rfl, hb2⟩
            have hJ3 := hJ _ _ _ none hJ2 (grown_below hb2 none) (fun r e => by cases e)
            have hB3 : Below n₀ W W2 := hB2.trans (hb2.mono (by omega))
            have hr3 := (hb2.block w0.heap.size (Array.getElem?_eq_some_iff.1 hr2).1).trans hr2
            have hs3 : n₀ < W2.heap.size := by have := hb2.size; omega
            rw [EV.out]
            generalize showS F o false x = S at *
            generalize showE F o = E at *
            have q : (E == 0) = false := beq_eq_false_iff_ne.2 hE
            clear c0 c1 hr2 hJ2 hB2 hs2
            gi_wp2
            refine ⟨fun _ h => (by cases h), ?_⟩
            gi_wp2
            go_roundw
            case rel => exact ⟨0 + 1, by omega, by simp, hJ3, hB3, hs3, hr3⟩
            case measure => simp [intOf]
          ·
            have EV := Lib.hid (showV_bad (l := F) (off := o) true x)
            gi_wp2
            refine ⟨trivial, (fun h => by cases h), ?_⟩
            refine (callsIn_wide.2 (show_any F o true x _ (HBB.out _ hB2) HF.out HLx.out)).mono ?_
            rintro e W2 ⟨rfl, hb2⟩
            have hJ3 := hJ _ _ _ none hJ2 (grown_below hb2 none) (fun r e => by cases e)
            have hB3 : Below n₀ W W2 := hB2.trans (hb2.mono (by omega))
            have hr3 := (hb2.block w0.heap.size (Array.getElem?_eq_some_iff.1 hr2).1).trans hr2
            have hs3 : n₀ < W2.heap.size := by have := hb2.size; omega
            rw [EV.out]
            generalize showS F o true x = S at *
            generalize showE F o = E at *
            have q : (E == 0) = false := beq_eq_false_iff_ne.2 hE
            clear c0 c1 hr2 hJ2 hB2 hs2
            gi_wp2
            refine ⟨fun _ h => (by cases h), ?_⟩
            gi_wp2
            go_roundw
            case rel => exact ⟨1 + 1, by omega, by simp, hJ3, hB3, hs3, hr3⟩
            case measure => simp [intOf]
        · obtain rfl : j = 2 := by omega
          gi_wp2
          go_roundw
          case rel => exact ⟨k + 1, by omega, by simp, hJ2, hB2⟩
          case measure => simp [intOf]; omega
    · obtain rfl : k = ws.length := by omega
      gi_wp2
      go_end0
      exact ⟨⟨_, rfl⟩, hJs⟩
/-- the iterator's contract -/
theorem all_stops (n Bl Bf Bo n₀ b off cap : Nat) (p : Option Addr) (F : List UInt8) (o : Int) (ws : List (List UInt8)) (hF : F.length ≤ 1000) (hw : ∀ j, j < ws.length → (ws.getD j []).length ≤ 1000) (hn : ws.length ≤ 1000) (hb : b < n₀) (hff : Bf < n₀) (hof : Bo < n₀)
    (hp : 0 < ws.length → p = some ⟨b, off, none⟩) (w : World) (hW : n₀ < w.heap.size)
    (h1 : w.cell? ⟨Bl, 0, none⟩ = some (.slice p ws.length cap)) (h2 : w.cell? ⟨Bf, 0, none⟩ = some (.string ⟨F.toArray⟩)) (h3 : w.cell? ⟨Bo, 0, none⟩ = some (.int .i64 o)) (hc : 0 < ws.length → TL w b off ws) (hB : ∀ W', Below n₀ w W' → Big W') :
    SeqStopsK Fence.wide n Tryd.prog 26 #[.pointer (some ⟨Bl, 0, none⟩), .pointer (some ⟨Bf, 0, none⟩), .pointer (some ⟨Bo, 0, none⟩)] encb (K2 n₀) (fun ys => ys = if showE F o = 0 then gl (showS F o) ws ws.length else []) (fun pre => pre <+: if showE F o = 0 then gl (showS F o) ws ws.length else []) (2 * ws.length) w :=
  fun l J Jx W hWb hJ _ hY h0 => by
    have e1 := (hWb.cell (p := ⟨Bl, 0, none⟩) (block_lt_of_cell h1)).trans h1
    have e2 := (hWb.cell (p := ⟨Bf, 0, none⟩) (block_lt_of_cell h2)).trans h2
    have e3 := (hWb.cell (p := ⟨Bo, 0, none⟩) (block_lt_of_cell h3)).trans h3
    have ec : 0 < ws.length → TL W b off ws := fun h j hj => (hWb.cell (p := ⟨b, off + j, none⟩) (by show b < w.heap.size; omega)).trans (hc h j hj)
    have hs := hWb.size
    have eB : ∀ W', Below n₀ W W' → Big W' := fun W' hb' => hB W' ((hWb.mono (by omega)).trans hb')
    by_cases hE : showE F o = 0
    · rw [if_pos hE]
      exact all1_ok n l Bl Bf Bo n₀ b off cap p F o ws hE hF hw hn hb hff hof hp J Jx W hJ (by omega) hY e1 e2 e3 ec eB h0
    · rw [if_neg hE]
      exact (all1_no n l Bl Bf Bo n₀ b off cap p F o ws hE hF hw hn hb hff hof hp J W hJ (by omega) e1 e2 e3 ec eB h0).mono fun _ _ h => ⟨h.1, .inl ⟨_, rfl, h.2⟩⟩
end Go.Proofs.YtakpbgjmblbaiaaDoor
