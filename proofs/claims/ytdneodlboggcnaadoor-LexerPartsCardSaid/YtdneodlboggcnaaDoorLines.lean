/-
  THE WALK of strings.Lines, and its iterator's contract.
-/
import Derived.Test.YtdneodlboggcnaaDoorDirtSeq
import Derived.Test.YtdneodlboggcnaaDoorLexLines
import Derived.Test.YtdneodlboggcnaaDoorShelf
import Derived.Lib.Bytealg
import Derived.WalkKit
import Derived.OwnWalkIn
import Derived.TacticsInMore
import Derived.LoopNIn
import Derived.LoopIn
namespace Go.Proofs.YtdneodlboggcnaaDoor
open Go Go.RowKit
attribute [local go_sem] Oper.semAt_some
abbrev boxS (l : List UInt8) : Obj := .cells #[.string ⟨l.toArray⟩] 9 (0, 0)
abbrev boxI (v : Int) : Obj := .cells #[.int .i64 v] 3 (0, 0)
theorem lines_any (l : List UInt8) (w : World) :
    Calls Tryd.prog 20 #[.string ⟨l.toArray⟩] w fun e w' => e = .returned (.func (.func 34) #[] #[.pointer (some ⟨w.heap.size, 0, none⟩)]) ∧ w' = w.alloc (boxS l) := by
  go_enter Tryd.func20, Tryd.ntmps20
  go_wp2_with fail
  go_ret
  exact ⟨rfl, rfl⟩
abbrev encs (x : List UInt8) : Array Value := #[.string ⟨x.toArray⟩]
theorem ixb_any (l : List UInt8) (w : World) : Calls Tryd.prog 35 #[.string ⟨l.toArray⟩, .int .u8 10] w fun e w' => e = .returned (.int .i64 (Lib.indexByte l 10)) ∧ w = w' :=
  (Tryd.strings_IndexByte ⟨l.toArray⟩ 10 w).mono fun _ _ ⟨h1, h2⟩ => ⟨by simpa using h1, h2.symm⟩
theorem ba_take (l : List UInt8) (p : Nat) : (⟨l.toArray⟩ : ByteArray).extract 0 p = ⟨(l.take p).toArray⟩ := by
  rw [ByteArray.extract_mk]
  rfl
theorem ba_drop (l : List UInt8) (p : Nat) : (⟨l.toArray⟩ : ByteArray).extract p l.length = ⟨(l.drop p).toArray⟩ := by
  rw [ByteArray.extract_mk]
  show ByteArray.mk (List.take (l.length - p) (List.drop p l)).toArray = _
  rw [List.take_of_length_le (by simp)]
set_option maxRecDepth 100000 in
set_option maxHeartbeats 2000000 in
theorem lines1_in (n l Bs H : Nat) (s : List UInt8) (hs : s.length ≤ 1000) (J Jx : List (List UInt8) → World → Prop) (W : World)
    (hJ : ∀ s A B, J s A → Dirt (· = Bs) A B → J s B)
    (hY : ∀ pre x W, J pre W → pre.length < (prn s).length → (prn s)[pre.length]? = some x → YieldAt Fence.wide (n - 1) Tryd.prog l (encs x) W fun e W' =>
      (e = .returned (.bool true) ∧ J (pre ++ [x]) W' ∧ W'.heap[Bs]? = W.heap[Bs]?) ∨ (e = .returned (.bool false) ∧ Jx (pre ++ [x]) W' ∧ KF H W W'))
    (h1 : W.heap[Bs]? = some (boxS s)) (h0 : J [] W) :
    CallsIn Fence.wide n Tryd.prog 34 #[.func (.yield l) #[] #[], .pointer (some ⟨Bs, 0, none⟩)] W fun e W' => (∃ v, e = .returned v) ∧
      ((∃ ys, ys = prn s ∧ J ys W') ∨ (∃ pre, pre <+: prn s ∧ Jx pre W')) := by
  refine callsIn_of_wp Tryd.func34 rfl trivial ?_ rfl
  simp only [Tryd.ntmps34, List.size_toArray, List.length_cons, List.length_nil, Nat.reduceAdd, Nat.reduceSub, Array.replicate_succ, Array.replicate_zero, List.push_toArray, List.append_toArray, List.nil_append, List.cons_append]
  have c1 := cell_of_row W Bs 0 _ _ _ h1
  gi_wp2
  gi_loopw [3, 4] (fun _ _ wr => ∃ (pre : List (List UInt8)) (r : List UInt8), prn s = pre ++ prn r ∧ r.length ≤ 1000 ∧ J pre wr ∧ wr.heap[Bs]? = some (boxS r)) (fun _ _ wr => match wr.cell? ⟨Bs, 0, none⟩ with | some (.string t) => t.size | _ => 0)
  case atStart => exact ⟨[], s, rfl, hs, h0, h1⟩
  case round =>
    clear c1 h1 h0
    obtain ⟨pre, r, hp, hr, hJs, h1⟩ := hrel
    have c1 := cell_of_row wr Bs 0 _ _ _ h1
    have f1 := frozen_of_row wr Bs 0 _ _ h1
    have HC1 := Lib.hid (show wr.cell? ⟨Bs, 0, none⟩ = some (.string ⟨r.toArray⟩) from c1)
    have HJ := Lib.hid hJ
    have HY := Lib.hid hY
    have HJs0 := hJs
    clear hJ hY hJs
    by_cases hn : r = []
    · subst hn
      have hp2 : prn s = pre := by rw [hp]; simp [prn]
      have HP := Lib.hid hp2
      clear hp hp2
      gi_wp2
      go_end0
      exact ⟨⟨_, rfl⟩, .inl ⟨_, HP.out.symm, HJs0⟩⟩
    · have hpos : 0 < (r.length : Int) := by have := List.length_pos_iff.2 hn; omega
      have HN := Lib.hid hn
      clear hn
      gi_wp2
      refine ⟨trivial, (fun h => by cases h), ?_⟩
      refine (callsIn_wide.2 (ixb_any r _)).mono ?_
      rintro e w9 ⟨rfl, rfl⟩
      have hg := Lib.indexByte_ge r 10
      by_cases hi : Lib.indexByte r 10 = -1
      · have HI := Lib.hid hi
        have hpc := prn_none hi HN.out
        rw [hpc] at hp
        rw [HI.out]
        have HP := Lib.hid hp
        clear hi hg hp hpc
        have hx4 : (wr.setCell ⟨Bs, 0, none⟩ (.string ⟨#[]⟩)).heap[Bs]? = some (boxS []) := heap_setCell_same wr Bs 0 _ _ (.string ⟨#[]⟩) h1
        have hj4 := HJ.out _ _ _ HJs0 (Dirt.setCell wr ⟨Bs, 0, none⟩ (.string ⟨#[]⟩) rfl)
        obtain ⟨fn, tmps, assign, body, hy2, hR⟩ := HY.out pre r _ hj4 (by rw [HP.out]; simp) (by rw [HP.out]; simp)
        dsimp only [encs] at hy2
        have HX4 := Lib.hid hx4
        clear h1 hj4 hx4
        gi_wp2
        have hx4 := HX4.out
        refine ⟨fun h => (by cases h), hR.mono ?_⟩
        rintro e W5 (⟨rfl, hJ5, hk5⟩ | ⟨rfl, hJx5, _⟩)
        · have h15 := hk5.trans hx4
          clear hx4 hk5
          gi_wp2
          go_roundw
          case rel => exact ⟨pre ++ [r], [], by rw [HP.out]; simp [prn], by simp, hJ5, h15⟩
          case measure =>
            rw [show W5.cell? ⟨Bs, 0, none⟩ = some (.string ⟨([] : List UInt8).toArray⟩) from cell_of_row W5 Bs 0 _ _ _ h15, HC1.out]
            show ([] : List UInt8).toArray.size < r.toArray.size
            simp
            omega
        · gi_wp2
          refine bodyPost_ret (results_none rfl _ _ _) rfl ?_
          exact ⟨⟨_, rfl⟩, .inr ⟨_, by rw [HP.out]; exact List.prefix_refl _, hJx5⟩⟩
      · obtain ⟨i, hii⟩ : ∃ i : Nat, Lib.indexByte r 10 = (i : Int) := ⟨(Lib.indexByte r 10).toNat, by omega⟩
        have HI := Lib.hid hii
        obtain ⟨hpc, hlt⟩ := prn_some hii
        rw [hpc] at hp
        rw [HI.out]
        have hi1 : (i : Int) < (r.length : Int) := by omega
        have hi2 : (r.length : Int) ≤ 1000 := by omega
        have HP := Lib.hid hp
        have HPc := Lib.hid hpc
        clear hi hg hii hpc hp
        gi_wp2
        gi_region
        all_goals
          rw [ba_take, ba_drop]
          have hx4 : (wr.setCell ⟨Bs, 0, none⟩ (.string ⟨(r.drop (i + 1)).toArray⟩)).drew.heap[Bs]? = some (boxS (r.drop (i + 1))) := heap_setCell_same wr Bs 0 _ _ (.string ⟨(r.drop (i + 1)).toArray⟩) h1
          have hj4 := HJ.out _ _ _ HJs0 ((Dirt.setCell (D := (· = Bs)) wr ⟨Bs, 0, none⟩ (.string ⟨(r.drop (i + 1)).toArray⟩) rfl).trans (Dirt.drew _))
          generalize (wr.setCell ⟨Bs, 0, none⟩ (.string ⟨(r.drop (i + 1)).toArray⟩)).drew = W4 at hx4 hj4 ⊢
          obtain ⟨fn, tmps, assign, body, hy2, hR⟩ := HY.out pre (r.take (i + 1)) W4 hj4 (by rw [HP.out]; simp) (by rw [HP.out]; simp)
          dsimp only [encs] at hy2
          clear c1 f1 h1 hj4
          gi_wp2
          refine ⟨fun h => (by cases h), hR.mono ?_⟩
          rintro e W5 (⟨rfl, hJ5, hk5⟩ | ⟨rfl, hJx5, _⟩)
          · have h15 := hk5.trans hx4
            clear hx4 hk5
            gi_wp2
            go_roundw
            case rel => exact ⟨pre ++ [r.take (i + 1)], r.drop (i + 1), by rw [HP.out]; simp, by simp; omega, hJ5, h15⟩
            case measure =>
              rw [show W5.cell? ⟨Bs, 0, none⟩ = some (.string ⟨(r.drop (i + 1)).toArray⟩) from cell_of_row W5 Bs 0 _ _ _ h15, HC1.out]
              show (r.drop (i + 1)).toArray.size < r.toArray.size
              simp
              omega
          · gi_wp2
            refine bodyPost_ret (results_none rfl _ _ _) rfl ?_
            exact ⟨⟨_, rfl⟩, .inr ⟨_, by rw [HP.out]; exact ⟨prn (r.drop (i + 1)), by simp⟩, hJx5⟩⟩
theorem lines_stops (n Bs : Nat) (s : List UInt8) (hs : s.length ≤ 1000) (w : World) (h1 : w.heap[Bs]? = some (boxS s)) (H : Nat) :
    SeqDirt Fence.wide n Tryd.prog 34 #[.pointer (some ⟨Bs, 0, none⟩)] encs (fun W W' => W'.heap[Bs]? = W.heap[Bs]?) H (· = Bs) (fun ys => ys = prn s) (fun pre => pre <+: prn s) (prn s).length (fun pre x _ => (prn s)[pre.length]? = some x) w :=
  fun l J Jx W hWb _ hJ _ hY h0 => lines1_in n l Bs H s hs J Jx W hJ hY ((hWb.block Bs (Array.getElem?_eq_some_iff.1 h1).1).trans h1) h0
end Go.Proofs.YtdneodlboggcnaaDoor
