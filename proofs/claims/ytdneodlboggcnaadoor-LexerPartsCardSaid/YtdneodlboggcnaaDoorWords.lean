/-
  THE WALK of lexer.words, and its iterator's contract.
-/
import Derived.Test.YtdneodlboggcnaaDoorWord
import Derived.Shelf.Strings.SlTrimAscii
namespace Go.Proofs.YtdneodlboggcnaaDoor
open Go Go.RowKit
attribute [local go_sem] Oper.semAt_some
theorem trim_any (s : List UInt8) (w : World) :
    Calls Tryd.prog 17 #[.string ⟨s.toArray⟩, .string ⟨#[32, 9]⟩] w fun e w' => e = .returned (.string ⟨(s.dropWhile gp).toArray⟩) ∧ Below w.heap.size w w' := by
  have h := Any.strings_TrimLeft_laid Tryd.lays161 (by kernel_rfl) ⟨s.toArray⟩ ⟨#[32, 9]⟩ w (by decide) (Go.Proofs.ascii_of_all (by decide +kernel))
  refine h.mono ?_
  rintro e w' ⟨rfl, hb⟩
  refine ⟨?_, hb⟩
  rw [show Lib.trimLeftS (⟨s.toArray⟩ : ByteArray).data.toList (⟨#[32, 9]⟩ : ByteArray).data.toList = s.dropWhile gp from by
    unfold Lib.trimLeftS
    congr 1
    funext c
    exact gp_contains c]
theorem words_any (l : List UInt8) (w : World) :
    Calls Tryd.prog 13 #[.string ⟨l.toArray⟩] w fun e w' => e = .returned (.func (.func 16) #[] #[.pointer (some ⟨w.heap.size, 0, none⟩)]) ∧ w' = w.alloc (boxS l) := by
  go_enter Tryd.func13, Tryd.ntmps13
  go_wp2_with fail
  go_ret
  exact ⟨rfl, rfl⟩
abbrev encw (x : List UInt8 × Bool) : Array Value := #[.string ⟨x.1.toArray⟩, .bool x.2]
abbrev gm : Nat := 0
/-- what a round keeps: the line's box and the library's number -/
def KeptW (Bs : Nat) (W W' : World) : Prop := W'.heap[Bs]? = W.heap[Bs]? ∧ W'.heap[gm]? = W.heap[gm]?
theorem keptW_t {Bs : Nat} {A B C : World} (h : KeptW Bs A B) (h' : KeptW Bs B C) : KeptW Bs A C := ⟨h'.1.trans h.1, h'.2.trans h.2⟩
theorem Big.lt {w : World} (h : Big w) : gm < w.heap.size := by
  obtain ⟨m, hm⟩ := h
  exact block_lt_of_cell hm
theorem Big.heap {w w' : World} (h : Big w) (hb : w'.heap[gm]? = w.heap[gm]?) : Big w' := by
  obtain ⟨m, hm⟩ := h
  exact ⟨m, (World.cell?_of_block (a := ⟨gm, 0, none⟩) hb).trans hm⟩
set_option maxRecDepth 100000 in
set_option maxHeartbeats 2000000 in
theorem words1_in (n l Bs H : Nat) (s : List UInt8) (hs : s.length ≤ 1000) (J Jx : List (List UInt8 × Bool) → World → Prop) (W : World) (hBs : Bs ≠ gm)
    (hJ : ∀ s A B, J s A → Dirt (· = Bs) A B → J s B)
    (hY : ∀ pre x W, J pre W → pre.length < (wds s).length → (wds s)[pre.length]? = some x → YieldAt Fence.wide (n - 1) Tryd.prog l (encw x) W fun e W' =>
      (e = .returned (.bool true) ∧ J (pre ++ [x]) W' ∧ KeptW Bs W W') ∨ (e = .returned (.bool false) ∧ Jx (pre ++ [x]) W' ∧ KF H W W'))
    (h1 : W.heap[Bs]? = some (boxS s)) (hB : Big W) (h0 : J [] W) :
    CallsIn Fence.wide n Tryd.prog 16 #[.func (.yield l) #[] #[], .pointer (some ⟨Bs, 0, none⟩)] W fun e W' => (∃ v, e = .returned v) ∧
      ((∃ ys, ys = wds s ∧ J ys W') ∨ (∃ pre, pre <+: wds s ∧ Jx pre W')) := by
  refine callsIn_of_wp Tryd.func16 rfl trivial ?_ rfl
  simp only [Tryd.ntmps16, List.size_toArray, List.length_cons, List.length_nil, Nat.reduceAdd, Nat.reduceSub, Array.replicate_succ, Array.replicate_zero, List.push_toArray, List.append_toArray, List.nil_append, List.cons_append]
  have HBg := Lib.hid hB
  have HJ := Lib.hid hJ
  have HY := Lib.hid hY
  clear hB hJ hY
  gi_wp2
  gi_loopw [3, 4, 5] (fun _ _ _ wr => ∃ (pre : List (List UInt8 × Bool)) (r : List UInt8), wds s = pre ++ wds r ∧ r.length ≤ 1000 ∧ J pre wr ∧ wr.heap[Bs]? = some (boxS r) ∧ Big wr) (fun _ _ _ wr => match wr.cell? ⟨Bs, 0, none⟩ with | some (.string t) => t.size | _ => 0)
  case atStart => exact ⟨[], s, rfl, hs, h0, h1, HBg.out⟩
  case round =>
    clear h1 h0 HBg
    obtain ⟨pre, r, hp, hr, hJs, h1, hB⟩ := hrel
    have c1 := cell_of_row wr Bs 0 _ _ _ h1
    have HC1 := Lib.hid (show wr.cell? ⟨Bs, 0, none⟩ = some (.string ⟨r.toArray⟩) from c1)
    have HJs0 := Lib.hid hJs
    have HP := Lib.hid hp
    have HBg := Lib.hid hB
    have H1 := Lib.hid h1
    clear hJs hp hB h1
    gi_wp2
    refine ⟨trivial, (fun h => by cases h), ?_⟩
    refine (callsIn_wide.2 (trim_any r _)).mono ?_
    rintro e W2 ⟨rfl, hb2⟩
    clear c1
    obtain ⟨D, hD⟩ : ∃ D, r.dropWhile gp = D := ⟨_, rfl⟩
    have hDl : D.length ≤ r.length := by rw [← hD]; exact dropWhile_len gp r
    have HD := Lib.hid hD
    rw [hD]
    have h12 := (hb2.block Bs (Array.getElem?_eq_some_iff.1 H1.out).1).trans H1.out
    have hj2 := HJ.out _ _ _ HJs0.out (Dirt.of_below hb2)
    have c2 := cell_of_row W2 Bs 0 _ _ _ h12
    have f2 := frozen_of_row W2 Bs 0 _ _ h12
    have hx3 := heap_setCell_same W2 Bs 0 _ _ (.string ⟨D.toArray⟩) h12
    have hj3 := HJ.out _ _ _ hj2 (Dirt.setCell W2 ⟨Bs, 0, none⟩ (.string ⟨D.toArray⟩) rfl)
    have hB3 : Big (W2.setCell ⟨Bs, 0, none⟩ (.string ⟨D.toArray⟩)) := (HBg.out.below hb2).heap (heap_setCell_other _ _ _ _ (by simpa using fun e => hBs e.symm))
    have HX3 := Lib.hid (show (W2.setCell ⟨Bs, 0, none⟩ (.string ⟨D.toArray⟩)).heap[Bs]? = some (boxS D) from hx3)
    have HJ3 := Lib.hid hj3
    have HB3 := Lib.hid hB3
    clear hD hb2 h12 hj2 hx3 hj3 hB3
    cases D with
    | nil =>
      gi_wp2
      refine bodyPost_ret (results_none rfl _ _ _) rfl ?_
      exact ⟨⟨_, rfl⟩, .inl ⟨_, by rw [HP.out, wds_stop (.inl HD.out), List.append_nil], HJ3.out⟩⟩
    | cons c t =>
      obtain ⟨d, hd⟩ : ∃ d, c :: t = d := ⟨_, rfl⟩
      have hdl : (d.length : Int) = (t.length : Int) + 1 := by rw [← hd]; simp
      have hdn : d.length ≤ 1000 := by rw [← hd]; omega
      have hy := fun q => byte0 hd q
      have hn : (d == []) = false := by rw [← hd]; rfl
      have hc1 : (c.toNat : Int) ≤ 255 := by have := c.toNat_lt; omega
      have hc0 : 0 ≤ (c.toNat : Int) := by omega
      have HDd := Lib.hid hd
      rw [hd] at HX3 HB3 HJ3 ⊢
      clear hd hDl
      by_cases h35 : c = 35
      · have q35 : ((c.toNat : Int) == 35) = true := by rw [h35]; rfl
        have HE := Lib.hid (show wds r = [] from wds_stop (.inr ⟨t, by rw [HD.out, h35]⟩))
        clear h35
        gi_wp2
        refine bodyPost_ret (results_none rfl _ _ _) rfl ?_
        exact ⟨⟨_, rfl⟩, .inl ⟨_, by rw [HP.out, HE.out, List.append_nil], HJ3.out⟩⟩
      · have q35 : ((c.toNat : Int) == 35) = false := by
          rw [beq_eq_false_iff_ne]
          intro h
          exact h35 (UInt8.toNat_inj.1 (by show c.toNat = 35; omega))
        have H35 := Lib.hid h35
        clear h35
        gi_wp2
        refine ⟨trivial, (fun h => by cases h), ?_⟩
        refine (callsIn_wide.2 (word_any d _ HB3.out hdn)).mono ?_
        rintro e W4 ⟨rfl, hb4⟩
        have h14 := (hb4.block Bs (Array.getElem?_eq_some_iff.1 HX3.out).1).trans HX3.out
        have hj4 := HJ.out _ _ _ HJ3.out (Dirt.of_below hb4)
        have HB4 := Lib.hid (HB3.out.below hb4)
        have HX4 := Lib.hid h14
        clear hb4 c2 f2 h14
        cases hw : wd false [] d with
        | none =>
          have hws := wds_none HD.out H35.out (by rw [HDd.out]; exact hw)
          have HPE := Lib.hid (show wds s = pre ++ [([], false)] by rw [HP.out, hws])
          have hv : wordV d = .tuple #[.string ⟨#[]⟩, .string ⟨#[]⟩, .bool false] := by unfold wordV; rw [hw]
          rw [hv]
          obtain ⟨fn, tmps, assign, body, hy2, hR⟩ := HY.out pre ([], false) W4 hj4 (by rw [HPE.out]; simp) (by rw [HPE.out]; simp)
          dsimp only [encw] at hy2
          clear hw hws hv hj4
          gi_wp2
          refine ⟨fun h => (by cases h), hR.mono ?_⟩
          rintro e W5 (⟨rfl, hJ5, hk5⟩ | ⟨rfl, hJx5, _⟩)
          · clear hk5 hy2
            gi_wp2
            refine bodyPost_ret (results_none rfl _ _ _) rfl ?_
            exact ⟨⟨_, rfl⟩, .inl ⟨_, HPE.out.symm, hJ5⟩⟩
          · clear hy2
            gi_wp2
            refine bodyPost_ret (results_none rfl _ _ _) rfl ?_
            exact ⟨⟨_, rfl⟩, .inr ⟨_, by rw [HPE.out]; exact List.prefix_refl _, hJx5⟩⟩
        | some p =>
          obtain ⟨x, y⟩ := p
          obtain ⟨hws, hlt⟩ := wds_some HD.out H35.out (by rw [HDd.out]; exact hw)
          have HPE := Lib.hid (show wds s = pre ++ (x, true) :: wds y by rw [HP.out, hws])
          have hv : wordV d = .tuple #[.string ⟨x.toArray⟩, .string ⟨y.toArray⟩, .bool true] := by unfold wordV; rw [hw]
          rw [hv]
          obtain ⟨fn, tmps, assign, body, hy2, hR⟩ := HY.out pre (x, true) W4 hj4 (by rw [HPE.out]; simp) (by rw [HPE.out]; simp)
          dsimp only [encw] at hy2
          have hyl : y.length ≤ 1000 := by omega
          have HLt := Lib.hid hlt
          clear hw hws hv hj4 hlt
          gi_wp2
          refine ⟨fun h => (by cases h), hR.mono ?_⟩
          rintro e W5 (⟨rfl, hJ5, hk5⟩ | ⟨rfl, hJx5, _⟩)
          · have h15 := hk5.1.trans HX4.out
            have hB5 := HB4.out.heap hk5.2
            have c5 := cell_of_row W5 Bs 0 _ _ _ h15
            have f5 := frozen_of_row W5 Bs 0 _ _ h15
            have HX5 := Lib.hid h15
            have HB5 := Lib.hid hB5
            clear hk5 hy2 h15 hB5
            gi_wp2
            go_roundw
            case rel =>
              refine ⟨pre ++ [(x, true)], y, by rw [HPE.out]; simp, hyl, HJ.out _ _ _ hJ5 (Dirt.setCell _ _ _ rfl), ?_, HB5.out.heap (heap_setCell_other _ _ _ _ (by simpa using fun e => hBs e.symm))⟩
              exact heap_setCell_same W5 Bs 0 _ _ (.string ⟨y.toArray⟩) HX5.out
            case measure =>
              have e1 : (W5.setCell ⟨Bs, 0, none⟩ (.string ⟨y.toArray⟩)).cell? ⟨Bs, 0, none⟩ = some (.string ⟨y.toArray⟩) := World.cell?_setCell_same _ _ _ c5
              rw [e1, HC1.out]
              show y.toArray.size < r.toArray.size
              have := HLt.out
              simpa using this
          · clear hy2
            gi_wp2
            refine bodyPost_ret (results_none rfl _ _ _) rfl ?_
            exact ⟨⟨_, rfl⟩, .inr ⟨_, by rw [HPE.out]; exact ⟨wds y, by simp⟩, hJx5⟩⟩
theorem words_stops (n Bs : Nat) (s : List UInt8) (hs : s.length ≤ 1000) (w : World) (hBs : Bs ≠ gm) (h1 : w.heap[Bs]? = some (boxS s)) (hB : Big w) (H : Nat) :
    SeqDirt Fence.wide n Tryd.prog 16 #[.pointer (some ⟨Bs, 0, none⟩)] encw (KeptW Bs) H (· = Bs) (fun ys => ys = wds s) (fun pre => pre <+: wds s) (wds s).length (fun pre x _ => (wds s)[pre.length]? = some x) w :=
  fun l J Jx W hWb _ hJ _ hY h0 => words1_in n l Bs H s hs J Jx W hBs hJ hY ((hWb.block Bs (Array.getElem?_eq_some_iff.1 h1).1).trans h1) (hB.below hWb) h0
end Go.Proofs.YtdneodlboggcnaaDoor
