/-
  THE WALK of strings.SplitSeq at a colon, and its iterator's contract.
-/
import Derived.Test.YtbejbagpdjfgmaaDoorOwnSeqA
import Derived.Test.YtbejbagpdjfgmaaDoorFarSeq
import Derived.Test.YtbejbagpdjfgmaaDoorCivDays
import Derived.Test.YtbejbagpdjfgmaaDoorShelf
import Derived.Lib.Bytealg
import Derived.WalkKit
import Derived.OwnWalkIn
import Derived.TacticsInMore
import Derived.LoopNIn
import Derived.LoopIn
namespace Go.Proofs.YtbejbagpdjfgmaaDoor
open Go Go.RowKit
attribute [local go_sem] Oper.semAt_some
/-- the pieces of a text between colons -/
def pcs : List UInt8 → List (List UInt8)
  | [] => [[]]
  | c :: t => if c = 58 then [] :: pcs t else match pcs t with | [] => [[c]] | p :: ps => (c :: p) :: ps
theorem pcs_none : ∀ {l : List UInt8}, Lib.indexByte l 58 = -1 → pcs l = [l]
  | [], _ => rfl
  | b :: l, h => by
    unfold Lib.indexByte at h
    have hg := Lib.indexByte_ge l 58
    by_cases hb : b = 58
    · rw [hb] at h; simp at h
    · have hb2 : (b == 58) = false := beq_eq_false_iff_ne.2 hb
      rw [hb2] at h
      by_cases h1 : Lib.indexByte l 58 = -1
      · unfold pcs
        rw [if_neg hb, pcs_none h1]
      · have h2 : (Lib.indexByte l 58 == -1) = false := beq_eq_false_iff_ne.2 h1
        rw [h2] at h
        simp at h
        omega
theorem pcs_some : ∀ {l : List UInt8} {i : Nat}, Lib.indexByte l 58 = (i : Int) → pcs l = l.take i :: pcs (l.drop (i + 1)) ∧ i < l.length
  | [], i, h => by unfold Lib.indexByte at h; omega
  | b :: l, i, h => by
    unfold Lib.indexByte at h
    have hg := Lib.indexByte_ge l 58
    by_cases hb : b = 58
    · rw [hb] at h
      simp at h
      obtain rfl : i = 0 := by omega
      refine ⟨?_, by simp⟩
      show (if b = 58 then [] :: pcs l else _) = _
      rw [if_pos hb]
      rfl
    · have hb2 : (b == 58) = false := beq_eq_false_iff_ne.2 hb
      rw [hb2] at h
      by_cases h1 : Lib.indexByte l 58 = -1
      · rw [h1] at h; (simp at h <;> omega)
      · have h2 : (Lib.indexByte l 58 == -1) = false := beq_eq_false_iff_ne.2 h1
        rw [h2] at h
        simp at h
        obtain ⟨j, rfl⟩ : ∃ j, i = j + 1 := ⟨i - 1, by omega⟩
        obtain ⟨e1, e2⟩ := pcs_some (l := l) (i := j) (by omega)
        refine ⟨?_, by simp; omega⟩
        show (if b = 58 then [] :: pcs l else match pcs l with | [] => [[b]] | p :: ps => (b :: p) :: ps) = _
        rw [if_neg hb, e1]
        rfl
abbrev boxS (l : List UInt8) : Obj := .cells #[.string ⟨l.toArray⟩] 9 (0, 0)
abbrev boxI (v : Int) : Obj := .cells #[.int .i64 v] 3 (0, 0)
theorem splitSeq_any (l : List UInt8) (w : World) :
    Calls Tryd.prog 56 #[.string ⟨l.toArray⟩, .string ⟨#[58]⟩, .int .i64 0] w fun e w' => e = .returned (.func (.func 65) #[] #[.pointer (some ⟨w.heap.size + 1, 0, none⟩), .pointer (some ⟨w.heap.size, 0, none⟩), .pointer (some ⟨w.heap.size + 1 + 1, 0, none⟩)]) ∧
      w' = ((w.alloc (boxS l)).alloc (boxS [58])).alloc (boxI 0) := by
  go_enter Tryd.func56, Tryd.ntmps56
  go_wp2_with fail
  go_ret
  exact ⟨rfl, rfl⟩
theorem split_any (l : List UInt8) (w : World) :
    Calls Tryd.prog 49 #[.string ⟨l.toArray⟩, .string ⟨#[58]⟩] w fun e w' => e = .returned (.func (.func 65) #[] #[.pointer (some ⟨w.heap.size + 1, 0, none⟩), .pointer (some ⟨w.heap.size, 0, none⟩), .pointer (some ⟨w.heap.size + 1 + 1, 0, none⟩)]) ∧
      w' = ((w.alloc (boxS l)).alloc (boxS [58])).alloc (boxI 0) := by
  go_enter Tryd.func49, Tryd.ntmps49
  go_wp2_with fail
  refine (splitSeq_any l _).mono ?_
  rintro e w' ⟨rfl, rfl⟩
  go_wp2_with fail
  go_ret
  exact ⟨rfl, rfl⟩
/-- what a round keeps: the three boxes -/
def KeptS (Bs Bp Bv : Nat) (W W' : World) : Prop := W'.heap[Bs]? = W.heap[Bs]? ∧ W'.heap[Bp]? = W.heap[Bp]? ∧ W'.heap[Bv]? = W.heap[Bv]?
theorem keptS_t {Bs Bp Bv : Nat} {A B C : World} (h : KeptS Bs Bp Bv A B) (h' : KeptS Bs Bp Bv B C) : KeptS Bs Bp Bv A C := ⟨h'.1.trans h.1, h'.2.1.trans h.2.1, h'.2.2.trans h.2.2⟩
abbrev encs (x : List UInt8) : Array Value := #[.string ⟨x.toArray⟩]
theorem ix1_any (l : List UInt8) (w : World) : Calls Tryd.prog 51 #[.string ⟨l.toArray⟩, .string ⟨#[58]⟩] w fun e w' => e = .returned (.int .i64 (Lib.indexByte l 58)) ∧ w = w' :=
  (Tryd.strings_Index_one ⟨l.toArray⟩ 58 w).mono fun _ _ ⟨h1, h2⟩ => ⟨by simpa using h1, h2.symm⟩
theorem ba_take (l : List UInt8) (p : Nat) : (⟨l.toArray⟩ : ByteArray).extract 0 p = ⟨(l.take p).toArray⟩ := by
  rw [ByteArray.extract_mk]
  rfl
theorem ba_drop (l : List UInt8) (p : Nat) : (⟨l.toArray⟩ : ByteArray).extract p l.length = ⟨(l.drop p).toArray⟩ := by
  rw [ByteArray.extract_mk]
  show ByteArray.mk (List.take (l.length - p) (List.drop p l)).toArray = _
  rw [List.take_of_length_le (by simp)]
set_option maxRecDepth 100000 in
set_option maxHeartbeats 2000000 in
theorem split1_in (n l Bs Bp Bv H : Nat) (s : List UInt8) (hs : s.length ≤ 1000) (h12 : Bp ≠ Bs) (h13 : Bv ≠ Bs) (J Jx : List (List UInt8) → World → Prop) (W : World)
    (hJ : ∀ s A B, J s A → A.grownBy B (some Bs) → J s B)
    (hY : ∀ pre x W, J pre W → pre.length < (pcs s).length → (pcs s)[pre.length]? = some x → YieldAt Fence.wide (n - 1) Tryd.prog l (encs x) W fun e W' =>
      (e = .returned (.bool true) ∧ J (pre ++ [x]) W' ∧ KeptS Bs Bp Bv W W') ∨ (e = .returned (.bool false) ∧ Jx (pre ++ [x]) W' ∧ KF H W W'))
    (h1 : W.heap[Bs]? = some (boxS s)) (h2 : W.heap[Bp]? = some (boxS [58])) (h3 : W.heap[Bv]? = some (boxI 0)) (h0 : J [] W) :
    CallsIn Fence.wide n Tryd.prog 65 #[.func (.yield l) #[] #[], .pointer (some ⟨Bp, 0, none⟩), .pointer (some ⟨Bs, 0, none⟩), .pointer (some ⟨Bv, 0, none⟩)] W fun e W' => (∃ v, e = .returned v) ∧
      ((∃ ys, ys = pcs s ∧ J ys W') ∨ (∃ pre, pre <+: pcs s ∧ Jx pre W')) := by
  refine callsIn_of_wp Tryd.func65 rfl trivial ?_ rfl
  simp only [Tryd.ntmps65, List.size_toArray, List.length_cons, List.length_nil, Nat.reduceAdd, Nat.reduceSub, Array.replicate_succ, Array.replicate_zero, List.push_toArray, List.append_toArray, List.nil_append, List.cons_append]
  have c1 := cell_of_row W Bs 0 _ _ _ h1
  have c2 := cell_of_row W Bp 0 _ _ _ h2
  have c3 := cell_of_row W Bv 0 _ _ _ h3
  gi_wp2
  gi_loopw [7] (fun _ wr => ∃ (pre : List (List UInt8)) (r : List UInt8), pcs s = pre ++ pcs r ∧ r.length ≤ 1000 ∧ J pre wr ∧ wr.heap[Bs]? = some (boxS r) ∧ wr.heap[Bp]? = some (boxS [58]) ∧ wr.heap[Bv]? = some (boxI 0)) (fun _ wr => match wr.cell? ⟨Bs, 0, none⟩ with | some (.string t) => t.size | _ => 0)
  case atStart => exact ⟨[], s, rfl, hs, h0, h1, h2, h3⟩
  case round =>
    clear c1 c2 c3 h1 h2 h3 h0
    obtain ⟨pre, r, hp, hr, hJs, h1, h2, h3⟩ := hrel
    have c1 := cell_of_row wr Bs 0 _ _ _ h1
    have c2 := cell_of_row wr Bp 0 _ _ _ h2
    have c3 := cell_of_row wr Bv 0 _ _ _ h3
    have HC1 := Lib.hid (show wr.cell? ⟨Bs, 0, none⟩ = some (.string ⟨r.toArray⟩) from c1)
    have HJ := Lib.hid hJ
    have HY := Lib.hid hY
    have HJs0 := hJs
    clear hJ hY hJs
    gi_wp2
    refine ⟨trivial, (fun h => by cases h), ?_⟩
    refine (callsIn_wide.2 (ix1_any r _)).mono ?_
    rintro e w9 ⟨rfl, rfl⟩
    have hg := Lib.indexByte_ge r 58
    by_cases hi : Lib.indexByte r 58 = -1
    · have HI := Lib.hid hi
      have hpc := pcs_none hi
      rw [hpc] at hp
      rw [HI.out]
      obtain ⟨fn, tmps, assign, body, hy2, hR⟩ := HY.out pre r wr HJs0 (by rw [hp]; simp) (by rw [hp]; simp)
      dsimp only [encs] at hy2
      clear hi hg
      gi_wp2
      refine ⟨fun h => (by cases h), hR.mono ?_⟩
      rintro e W4 (⟨rfl, hJ4, hk4⟩ | ⟨rfl, hJx4, _⟩)
      · gi_wp2
        go_end0
        exact ⟨⟨_, rfl⟩, .inl ⟨_, hp.symm, hJ4⟩⟩
      · gi_wp2
        go_end0
        exact ⟨⟨_, rfl⟩, .inr ⟨_, by rw [hp]; exact List.prefix_refl _, hJx4⟩⟩
    · obtain ⟨i, hii⟩ : ∃ i : Nat, Lib.indexByte r 58 = (i : Int) := ⟨(Lib.indexByte r 58).toNat, by omega⟩
      have HI := Lib.hid hii
      obtain ⟨hpc, hlt⟩ := pcs_some hii
      rw [hpc] at hp
      rw [HI.out]
      obtain ⟨fn, tmps, assign, body, hy2, hR⟩ := HY.out pre (r.take i) wr HJs0 (by rw [hp]; simp) (by rw [hp]; simp)
      dsimp only [encs] at hy2
      rw [← ba_take r i] at hy2
      have hi1 : (i : Int) < (r.length : Int) := by omega
      have hi2 : (r.length : Int) ≤ 1000 := by omega
      have HP := Lib.hid hp
      have HPc := Lib.hid hpc
      clear hi hg hii hpc hp
      gi_wp2
      refine ⟨fun h => (by cases h), hR.mono ?_⟩
      rintro e W4 (⟨rfl, hJ4, hk4⟩ | ⟨rfl, hJx4, _⟩)
      · have h14 := hk4.1.trans h1
        have h24 := hk4.2.1.trans h2
        have h34 := hk4.2.2.trans h3
        have c14 := cell_of_row W4 Bs 0 _ _ _ h14
        have c24 := cell_of_row W4 Bp 0 _ _ _ h24
        have f14 := frozen_of_row W4 Bs 0 _ _ h14
        clear c1 c2 c3 h1 h2 h3 hk4
        gi_wp2
        go_roundw
        case rel =>
          refine ⟨pre ++ [r.take i], r.drop (i + 1), by rw [HP.out]; simp, by simp; omega, HJ.out _ _ _ hJ4 (grownBy_setCell' W4 Bs _), ?_, (heap_setCell_other _ _ _ _ (by simpa using h12)).trans h24, (heap_setCell_other _ _ _ _ (by simpa using h13)).trans h34⟩
          have := heap_setCell_same W4 Bs 0 _ _ (.string ((⟨r.toArray⟩ : ByteArray).extract (i + 1) r.length)) h14
          rw [ba_drop] at this
          rw [ba_drop]
          exact this
        case measure =>
          have e1 : (W4.setCell ⟨Bs, 0, none⟩ (.string ((⟨r.toArray⟩ : ByteArray).extract (i + 1) r.length))).cell? ⟨Bs, 0, none⟩ = some (.string ⟨(r.drop (i + 1)).toArray⟩) := by
            rw [World.cell?_setCell_same _ _ _ c14, ba_drop]
          rw [e1, HC1.out]
          show (r.drop (i + 1)).toArray.size < r.toArray.size
          simp
          omega
      · gi_wp2
        refine bodyPost_ret (results_none rfl _ _ _) rfl ?_
        exact ⟨⟨_, rfl⟩, .inr ⟨_, by rw [HP.out]; exact ⟨pcs (r.drop (i + 1)), by simp⟩, hJx4⟩⟩
theorem split_stops (n Bs Bp Bv : Nat) (s : List UInt8) (hs : s.length ≤ 1000) (h12 : Bp ≠ Bs) (h13 : Bv ≠ Bs) (w : World) (h1 : w.heap[Bs]? = some (boxS s)) (h2 : w.heap[Bp]? = some (boxS [58])) (h3 : w.heap[Bv]? = some (boxI 0)) (H : Nat) :
    SeqFar Fence.wide n Tryd.prog 65 #[.pointer (some ⟨Bp, 0, none⟩), .pointer (some ⟨Bs, 0, none⟩), .pointer (some ⟨Bv, 0, none⟩)] encs (KeptS Bs Bp Bv) H Bs (fun ys => ys = pcs s) (fun pre => pre <+: pcs s) (pcs s).length (fun pre x => (pcs s)[pre.length]? = some x) w :=
  fun l J Jx W hWb _ hJ _ hY h0 => split1_in n l Bs Bp Bv H s hs h12 h13 J Jx W (fun s A B h hg => hJ s A B Bs h hg (.inl rfl)) hY ((hWb.block Bs (Array.getElem?_eq_some_iff.1 h1).1).trans h1) ((hWb.block Bp (Array.getElem?_eq_some_iff.1 h2).1).trans h2) ((hWb.block Bv (Array.getElem?_eq_some_iff.1 h3).1).trans h3) h0
end Go.Proofs.YtbejbagpdjfgmaaDoor
