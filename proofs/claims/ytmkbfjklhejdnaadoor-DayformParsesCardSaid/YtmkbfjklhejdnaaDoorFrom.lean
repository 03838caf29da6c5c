/-
  THE WALK of dayform.from, and its iterator's contract.
-/
import Derived.Test.YtmkbfjklhejdnaaDoorOwnSeq
import Derived.Test.YtmkbfjklhejdnaaDoorBegun
import Derived.Test.YtmkbfjklhejdnaaDoorCivDays
namespace Go.Proofs.YtmkbfjklhejdnaaDoor
open Go Go.RowKit
attribute [local go_sem] Oper.semAt_some

/-- days from one on -/
def ups (d s : Int) (k : Nat) : List Int := (List.range k).map fun (j : Nat) => d + (j : Int) * s
theorem ups_succ (d s : Int) (k : Nat) : ups d s (k + 1) = ups d s k ++ [d + (k : Int) * s] := by simp [ups, List.range_succ]
theorem ups_len (d s : Int) (k : Nat) : (ups d s k).length = k := by simp [ups]
abbrev boxI (v : Int) : Obj := .cells #[.int .i64 v] 3 (0, 0)
theorem from_any (d s : Int) (w : World) :
    Calls Tryd.prog 29 #[.int .i64 d, .int .i64 s] w fun e w' => e = .returned (.func (.func 49) #[] #[.pointer (some ⟨w.heap.size, 0, none⟩), .pointer (some ⟨w.heap.size + 1, 0, none⟩)]) ∧
      w' = (w.alloc (boxI d)).alloc (boxI s) := by
  go_enter Tryd.func29, Tryd.ntmps29
  go_wp2_with fail
  go_ret
  exact ⟨rfl, rfl⟩
/-- what a round keeps: the two boxes -/
def KeptB (Bd Bs : Nat) (W W' : World) : Prop := W'.heap[Bd]? = W.heap[Bd]? ∧ W'.heap[Bs]? = W.heap[Bs]?
theorem keptB_t {Bd Bs : Nat} {A B C : World} (h : KeptB Bd Bs A B) (h' : KeptB Bd Bs B C) : KeptB Bd Bs A C := ⟨h'.1.trans h.1, h'.2.trans h.2⟩
abbrev enci (x : Int) : Array Value := #[.int .i64 x]
set_option maxRecDepth 100000 in
set_option maxHeartbeats 2000000 in
theorem from1_in (n : Nat) (l Bd Bs : Nat) (d s : Int) (hd : -100000000 ≤ d ∧ d ≤ 100000000) (hs : -1 ≤ s ∧ s ≤ 1) (hne : Bs ≠ Bd) (J Jx : List Int → World → Prop) (W : World)
    (hJ : ∀ s A B, J s A → A.grownBy B (some Bd) → J s B)
    (hY : ∀ pre x W, J pre W → pre.length < 7 → x = d + (pre.length : Int) * s → YieldAt Fence.wide (n - 1) Tryd.prog l (enci x) W fun e W' =>
      (e = .returned (.bool true) ∧ J (pre ++ [x]) W' ∧ KeptB Bd Bs W W') ∨ (e = .returned (.bool false) ∧ Jx (pre ++ [x]) W'))
    (h1 : W.heap[Bd]? = some (boxI d)) (h2 : W.heap[Bs]? = some (boxI s)) (h0 : J [] W) :
    CallsIn Fence.wide n Tryd.prog 49 #[.func (.yield l) #[] #[], .pointer (some ⟨Bd, 0, none⟩), .pointer (some ⟨Bs, 0, none⟩)] W fun e W' => (∃ v, e = .returned v) ∧
      ((∃ ys, ys = ups d s 7 ∧ J ys W') ∨ (∃ pre, (∃ k, k ≤ 7 ∧ pre = ups d s k) ∧ Jx pre W')) := by
  refine callsIn_of_wp Tryd.func49 rfl trivial ?_ rfl
  simp only [Tryd.ntmps49, List.size_toArray, List.length_cons, List.length_nil, Nat.reduceAdd, Nat.reduceSub, Array.replicate_succ, Array.replicate_zero, List.push_toArray, List.append_toArray, List.nil_append, List.cons_append]
  obtain ⟨d1, d2⟩ := hd
  obtain ⟨s1, s2⟩ := hs
  gi_wp2
  gi_loopw [4] (fun i wr => ∃ (k : Nat) (c : Int), k ≤ 7 ∧ i = .int .i64 k ∧ J (ups d s k) wr ∧ c = d + (k : Int) * s ∧ d - k ≤ c ∧ c ≤ d + k ∧ wr.heap[Bd]? = some (boxI c) ∧ wr.heap[Bs]? = some (boxI s)) (fun i _ => 7 - (intOf i).toNat)
  case atStart => exact ⟨0, d, by omega, rfl, h0, by simp, by omega, by omega, h1, h2⟩
  case round =>
    obtain ⟨k, c, hk, rfl, hJs, hc, c1, c2, hd, hs⟩ := hrel
    by_cases hlt : k < 7
    · have cd := cell_of_row wr Bd 0 _ _ _ hd
      obtain ⟨fn, tmps, assign, body, hy2, hR⟩ := hY _ c wr hJs (by rw [ups_len]; exact hlt) (by rw [ups_len]; exact hc)
      dsimp only [enci] at hy2
      have hlt2 : (k : Int) < 7 := by omega
      have HC := Lib.hid hc
      clear hc
      gi_wp2
      refine ⟨fun h => (by cases h), hR.mono ?_⟩
      rintro e W4 (⟨rfl, hJ4, hk4⟩ | ⟨rfl, hJx4⟩)
      · have hd4 := hk4.1.trans hd
        have hs4 := hk4.2.trans hs
        have cd4 := cell_of_row W4 Bd 0 _ _ _ hd4
        have cs4 := cell_of_row W4 Bs 0 _ _ _ hs4
        have fd4 := frozen_of_row W4 Bd 0 _ _ hd4
        have hB4 := (Array.getElem?_eq_some_iff.1 hd4).1
        clear cd hd hs hk4
        gi_wp2
        go_roundw
        case rel =>
          refine ⟨k + 1, c + s, by omega, by simp, ?_, ?_, by omega, by omega, ?_, ?_⟩
          · rw [ups_succ, ← HC.out]
            exact hJ _ _ _ hJ4 (grownBy_setCell' W4 Bd _)
          · rw [HC.out, Int.natCast_succ, Int.add_mul, Int.one_mul, Int.add_assoc]
          · exact heap_setCell_same W4 Bd 0 _ _ _ hd4
          · exact (heap_setCell_other _ _ _ _ (by simpa using hne)).trans hs4
        case measure => simp [intOf]; omega
      · gi_wp2
        refine bodyPost_ret (results_none rfl _ _ _) rfl ?_
        exact ⟨⟨_, rfl⟩, .inr ⟨_, ⟨k + 1, by omega, by rw [ups_succ, ← HC.out]⟩, hJx4⟩⟩
    · obtain rfl : k = 7 := by omega
      gi_wp2
      go_end0
      exact ⟨⟨_, rfl⟩, .inl ⟨_, rfl, hJs⟩⟩
theorem from_stops (n Bd Bs : Nat) (d s : Int) (hd : -100000000 ≤ d ∧ d ≤ 100000000) (hs : -1 ≤ s ∧ s ≤ 1) (hne : Bs ≠ Bd) (w : World)
    (h1 : w.heap[Bd]? = some (boxI d)) (h2 : w.heap[Bs]? = some (boxI s)) :
    SeqBox Fence.wide n Tryd.prog 49 #[.pointer (some ⟨Bd, 0, none⟩), .pointer (some ⟨Bs, 0, none⟩)] enci (KeptB Bd Bs) Bd (fun ys => ys = ups d s 7) (fun pre => ∃ k, k ≤ 7 ∧ pre = ups d s k) 7 (fun pre x => x = d + (pre.length : Int) * s) w :=
  fun l J Jx W hWb hJ _ hY h0 => from1_in n l Bd Bs d s hd hs hne J Jx W hJ hY ((hWb.block Bd (Array.getElem?_eq_some_iff.1 h1).1).trans h1) ((hWb.block Bs (Array.getElem?_eq_some_iff.1 h2).1).trans h2) h0
end Go.Proofs.YtmkbfjklhejdnaaDoor
