/-
  THE WALK of words.begun, and its iterator's contract.
-/
import Derived.RangeFuncNested
import Derived.RangeFuncBound
import Derived.RangeFuncCalls
import Derived.RangeFuncLeaves
import Derived.RangeFuncFrom
import Derived.Shelf.Abstract
import Derived.Shelf.RegionOpen
import Derived.WalkKit
import Derived.OwnWalkIn
import Derived.TacticsInMore
import Derived.LoopNIn
import Derived.LoopIn
import Derived.BigFrameIn
import Derived.Test.YtmkbfjklhejdnaaDoorLower
import Derived.Test.YtmkbfjklhejdnaaDoorShelf
namespace Go.Proofs.YtmkbfjklhejdnaaDoor
open Go Go.RowKit
attribute [local go_sem] Oper.semAt_some

theorem grown_below {w w' : World} (h : Below w.heap.size w w') (row : Option Nat) : w.grownBy w' row := ⟨h.os, h.tape, h.output, h.size, fun k hk _ => h.block k hk⟩
/-- which words a word is, or begins -/
def hitAt (s : List UInt8) (ws : List (List UInt8)) (i : Nat) : List (Nat × Bool) :=
  if s ≠ [] ∧ Lib.hasPrefix ((ws.getD i []).map low) s = true then [(i, (ws.getD i []).map low == s)] else []
def hits (s : List UInt8) (ws : List (List UInt8)) : Nat → List (Nat × Bool)
  | 0 => []
  | k + 1 => hits s ws k ++ hitAt s ws k
/-- the words lie in memory -/
def WL (w : World) (b off : Nat) (ws : List (List UInt8)) : Prop := ∀ j, j < ws.length → w.cell? ⟨b, off + j, none⟩ = some (.string ⟨(ws.getD j []).toArray⟩)
theorem WL.below {w w' : World} {b off n : Nat} {ws : List (List UInt8)} (h : WL w b off ws) (hb : Below n w w') (hn : b < n) : WL w' b off ws := fun j hj => (hb.cell (p := ⟨b, off + j, none⟩) hn).trans (h j hj)
theorem hasprefix_any (s p : List UInt8) (w : World) :
    Calls Tryd.prog 71 #[.string ⟨s.toArray⟩, .string ⟨p.toArray⟩] w fun e w' => e = .returned (.bool (Lib.hasPrefix s p)) ∧ w = w' :=
  (Tryd.strings_HasPrefix ⟨s.toArray⟩ ⟨p.toArray⟩ w).mono fun _ _ ⟨h1, h2⟩ => ⟨h1, h2.symm⟩
theorem begun_any (l : List UInt8) (b off n cap : Nat) (w : World) (hl : l.length ≤ 1000) :
    Calls Tryd.prog 57 #[.string ⟨l.toArray⟩, .slice (some ⟨b, off, none⟩) n cap] w fun e w' => e = .returned (.func (.func 70) #[] #[.pointer (some ⟨w.heap.size + 1, 0, none⟩), .pointer (some ⟨w.heap.size, 0, none⟩)]) ∧
      w'.cell? ⟨w.heap.size, 0, none⟩ = some (.string ⟨(l.map low).toArray⟩) ∧ w'.cell? ⟨w.heap.size + 1, 0, none⟩ = some (.slice (some ⟨b, off, none⟩) n cap) ∧ Below w.heap.size w w' := by
  go_enter Tryd.func57, Tryd.ntmps57
  go_wp2_with fail
  refine (lower_any l _ hl).mono ?_
  rintro e w2 ⟨rfl, hb⟩
  have k0 : w2.heap[w.heap.size]? = some (.cells #[.string ⟨l.toArray⟩] 9 (0, 0)) := (hb.block w.heap.size (by simp only [World.size_alloc]; omega)).trans ((Below.heap_alloc (w.alloc (.cells #[.string ⟨l.toArray⟩] 9)) _ w.heap.size (by simp)).trans (heap_alloc_new w _))
  have k1 : w2.heap[w.heap.size + 1]? = some (.cells #[.slice (some ⟨b, off, none⟩) n cap] 55 (0, 0)) := (hb.block (w.heap.size + 1) (by simp only [World.size_alloc]; omega)).trans (by
    have := heap_alloc_new (w.alloc (.cells #[.string ⟨l.toArray⟩] 9)) (.cells #[.slice (some ⟨b, off, none⟩) n cap] 55)
    simpa using this)
  have c0 := cell_of_row w2 w.heap.size 0 _ _ _ k0
  have c1 := cell_of_row w2 (w.heap.size + 1) 0 _ _ _ k1
  have f0 := frozen_of_row w2 w.heap.size 0 _ _ k0
  have HB := Lib.hid ((((Below.refl _ _).alloc (Nat.le_refl _) (.cells #[.string ⟨l.toArray⟩] 9)).alloc (by simp) (.cells #[.slice (some ⟨b, off, none⟩) n cap] 55)).trans (hb.mono (by simp only [World.size_alloc]; omega)))
  have C0 := Lib.hid c0
  have C1 := Lib.hid c1
  clear hb k0 k1
  go_wp2_with fail
  go_ret
  exact ⟨rfl, World.cell?_setCell_same _ _ _ C0.out, (World.cell?_setCell_other _ _ _ _ (by simp)).trans C1.out, HB.out.setCell (by simp) _⟩
theorem hits_succ (s : List UInt8) (ws : List (List UInt8)) (k : Nat) : hits s ws (k + 1) = hits s ws k ++ hitAt s ws k := rfl
/-- what a round keeps: what lies below n₀, and block Bs -/
def Kept (n₀ Bs : Nat) (W W' : World) : Prop := Below n₀ W W' ∧ W'.heap[Bs]? = W.heap[Bs]?
theorem kept_t {n₀ Bs : Nat} {A B C : World} (h : Kept n₀ Bs A B) (h' : Kept n₀ Bs B C) : Kept n₀ Bs A C := ⟨h.1.trans h'.1, h'.2.trans h.2⟩
theorem Kept.cell {n₀ Bs : Nat} {W W' : World} (h : Kept n₀ Bs W W') : W'.cell? ⟨Bs, 0, none⟩ = W.cell? ⟨Bs, 0, none⟩ := by unfold World.cell?; rw [h.2]
theorem hits_len (s : List UInt8) (ws : List (List UInt8)) : ∀ k, (hits s ws k).length ≤ k
  | 0 => Nat.le_refl _
  | k + 1 => by
    have := hits_len s ws k
    unfold hits hitAt
    split <;> simp <;> omega
abbrev encs (x : Nat × Bool) : Array Value := #[.int .i64 x.1, .bool x.2]
set_option maxRecDepth 100000 in
set_option maxHeartbeats 2000000 in
theorem begun1_in (n : Nat) (l Bl Bs n₀ b off cap : Nat) (s : List UInt8) (ws : List (List UInt8)) (hw : ∀ j, j < ws.length → (ws.getD j []).length ≤ 1000) (hn : ws.length ≤ 1000) (hb : b < n₀) (J Jx : List (Nat × Bool) → World → Prop) (W : World)
    (hJ : AbidesFrom W.heap.size J) (hW : n₀ ≤ W.heap.size)
    (hY : ∀ pre x W, J pre W → pre.length < ws.length → YieldAt Fence.wide (n - 1) Tryd.prog l (encs x) W fun e W' =>
      (e = .returned (.bool true) ∧ J (pre ++ [x]) W' ∧ Kept n₀ Bs W W') ∨ (e = .returned (.bool false) ∧ Jx (pre ++ [x]) W'))
    (h1 : W.cell? ⟨Bl, 0, none⟩ = some (.slice (some ⟨b, off, none⟩) ws.length cap)) (h2 : W.cell? ⟨Bs, 0, none⟩ = some (.string ⟨s.toArray⟩)) (hc : WL W b off ws) (h0 : J [] W) :
    CallsIn Fence.wide n Tryd.prog 70 #[.func (.yield l) #[] #[], .pointer (some ⟨Bl, 0, none⟩), .pointer (some ⟨Bs, 0, none⟩)] W fun e W' => (∃ v, e = .returned v) ∧
      ((∃ ys, ys = hits s ws ws.length ∧ J ys W') ∨ (∃ pre, (∃ k, k ≤ ws.length ∧ pre = hits s ws k) ∧ Jx pre W')) := by
  refine callsIn_of_wp Tryd.func70 rfl trivial ?_ rfl
  simp only [Tryd.ntmps70, List.size_toArray, List.length_cons, List.length_nil, Nat.reduceAdd, Nat.reduceSub, Array.replicate_succ, Array.replicate_zero, List.push_toArray, List.append_toArray, List.nil_append, List.cons_append]
  gi_wp2
  gi_loopw [8] (fun i wr => ∃ k : Nat, k ≤ ws.length ∧ i = .int .i64 k ∧ J (hits s ws k) wr ∧ wr.cell? ⟨Bs, 0, none⟩ = some (.string ⟨s.toArray⟩) ∧ Below n₀ W wr) (fun i _ => ws.length - (intOf i).toNat)
  case atStart => exact ⟨0, Nat.zero_le _, rfl, h0, h2, Below.refl _ _⟩
  case round =>
    obtain ⟨k, hk, rfl, hJs, hcs, hnx⟩ := hrel
    by_cases hlt : k < ws.length
    · have cx : wr.cell? ⟨b, off + k, none⟩ = some (.string ⟨(ws.getD k []).toArray⟩) := (hnx.cell (p := ⟨b, off + k, none⟩) hb).trans (hc k hlt)
      have hlen := hw k hlt
      obtain ⟨x, hx⟩ : ∃ x, ws.getD k [] = x := ⟨_, rfl⟩
      rw [hx] at cx hlen
      have hlt2 : (k : Int) < (ws.length : Int) := by omega
      gi_wp2
      refine ⟨trivial, (fun h => by cases h), ?_⟩
      refine (callsIn_wide.2 (lower_any x _ hlen)).mono ?_
      rintro e W2 ⟨rfl, hb2⟩
      have hJ2 : J (hits s ws k) W2 := hJ _ _ _ none hJs (grown_below hb2 none) (fun r e => by cases e)
      have hn2 : Below n₀ W W2 := hnx.trans (hb2.mono (by have := hnx.size; omega))
      have cs : W2.cell? ⟨Bs, 0, none⟩ = some (.string ⟨s.toArray⟩) := (hb2.cell (p := ⟨Bs, 0, none⟩) (block_lt_of_cell hcs)).trans hcs
      obtain ⟨y, hy⟩ : ∃ y, x.map low = y := ⟨_, rfl⟩
      have hat : hitAt s ws k = if s ≠ [] ∧ Lib.hasPrefix y s = true then [(k, y == s)] else [] := by unfold hitAt; rw [hx, hy]
      rw [hy]
      clear cx hJs hnx hcs
      by_cases z : s = []
      · subst z
        rw [if_neg (by simp)] at hat
        gi_wp2
        refine ⟨trivial, ?_⟩
        gi_wp2
        refine ⟨fun _ h => (by cases h), ?_⟩
        gi_wp2
        go_roundw
        case rel => exact ⟨k + 1, by omega, by simp, by rw [hits_succ, hat, List.append_nil]; exact hJ2, cs, hn2⟩
        case measure => simp [intOf]; omega
      · have ze : s.isEmpty = false := by cases s with | nil => exact absurd rfl z | cons _ _ => rfl
        gi_wp2
        refine ⟨trivial, (fun h => by cases h), ?_⟩
        refine (callsIn_wide.2 (hasprefix_any y s _)).mono ?_
        rintro e W3 ⟨rfl, rfl⟩
        cases hp : Lib.hasPrefix y s with
        | false =>
          rw [hp, if_neg (by simp)] at hat
          gi_wp2
          refine ⟨fun _ h => (by cases h), ?_⟩
          gi_wp2
          go_roundw
          case rel => exact ⟨k + 1, by omega, by simp, by rw [hits_succ, hat, List.append_nil]; exact hJ2, cs, hn2⟩
          case measure => simp [intOf]; omega
        | true =>
          rw [hp, if_pos ⟨z, rfl⟩] at hat
          obtain ⟨fn, tmps, assign, body, hy2, hR⟩ := hY _ (k, y == s) W2 hJ2 (Nat.lt_of_le_of_lt (hits_len s ws k) hlt)
          dsimp only [encs] at hy2
          gi_wp2
          refine ⟨fun h => (by cases h), ?_⟩
          refine hR.mono ?_
          rintro e W4 (⟨rfl, hJ4, hk4⟩ | ⟨rfl, hJx4⟩)
          · gi_wp2
            go_roundw
            case rel => exact ⟨k + 1, by omega, by simp, by rw [hits_succ, hat]; exact hJ4, hk4.cell.trans cs, hn2.trans hk4.1⟩
            case measure => simp [intOf]; omega
          · gi_wp2
            refine bodyPost_ret (results_none rfl _ _ _) rfl ?_
            exact ⟨⟨_, rfl⟩, .inr ⟨_, ⟨k + 1, by omega, by rw [hits_succ, hat]⟩, hJx4⟩⟩
    · obtain rfl : k = ws.length := by omega
      gi_wp2
      go_end0
      exact ⟨⟨_, rfl⟩, .inl ⟨_, rfl, hJs⟩⟩
theorem begun_stops (n Bl Bs n₀ b off cap : Nat) (s : List UInt8) (ws : List (List UInt8)) (hw : ∀ j, j < ws.length → (ws.getD j []).length ≤ 1000) (hn : ws.length ≤ 1000) (hb : b < n₀) (w : World) (hW : n₀ ≤ w.heap.size)
    (h1 : w.cell? ⟨Bl, 0, none⟩ = some (.slice (some ⟨b, off, none⟩) ws.length cap)) (h2 : w.cell? ⟨Bs, 0, none⟩ = some (.string ⟨s.toArray⟩)) (hc : WL w b off ws) :
    SeqStopsK Fence.wide n Tryd.prog 70 #[.pointer (some ⟨Bl, 0, none⟩), .pointer (some ⟨Bs, 0, none⟩)] encs (Kept n₀ Bs) (fun ys => ys = hits s ws ws.length) (fun pre => ∃ k, k ≤ ws.length ∧ pre = hits s ws k) ws.length w :=
  fun l J Jx W hWb hJ _ hY h0 => begun1_in n l Bl Bs n₀ b off cap s ws hw hn hb J Jx W hJ (Nat.le_trans hW hWb.size) hY ((hWb.cell (p := ⟨Bl, 0, none⟩) (block_lt_of_cell h1)).trans h1) ((hWb.cell (p := ⟨Bs, 0, none⟩) (block_lt_of_cell h2)).trans h2) (hc.below hWb (by omega)) h0
end Go.Proofs.YtmkbfjklhejdnaaDoor
