/-
  THE WALK of clock.numbers, and its iterator's contract: an iterator that goes through an iterator.
-/
import Derived.Test.YtbejbagpdjfgmaaDoorDigits
namespace Go.Proofs.YtbejbagpdjfgmaaDoor
open Go Go.RowKit
attribute [local go_sem] Oper.semAt_some
/-- the number of a piece, by its place; -1: it is not written as it has to be -/
def nbV (i : Nat) (p : List UInt8) : Int := match dgN p with
  | some n => if (i = 0 ∧ p.length ≤ 3) ∨ (0 < i ∧ p.length = 2 ∧ n < 60) then n else -1
  | none => -1
def nbl : Nat → List (List UInt8) → List (Int × Int)
  | _, [] => []
  | i, p :: ps => ((i : Int), nbV i p) :: nbl (i + 1) ps
theorem nbl_len : ∀ (i : Nat) (ps : List (List UInt8)), (nbl i ps).length = ps.length
  | _, [] => rfl
  | i, _ :: ps => by unfold nbl; rw [List.length_cons, List.length_cons, nbl_len]
theorem nbl_snoc : ∀ (i : Nat) (ps : List (List UInt8)) (p : List UInt8), nbl i (ps ++ [p]) = nbl i ps ++ [(((i + ps.length : Nat) : Int), nbV (i + ps.length) p)]
  | i, [], p => rfl
  | i, q :: ps, p => by
    rw [List.cons_append]
    unfold nbl
    rw [nbl_snoc (i + 1) ps p, List.length_cons, List.cons_append]
    rw [show i + 1 + ps.length = i + (ps.length + 1) by omega]
theorem nbl_get : ∀ (i : Nat) (ps : List (List UInt8)) (k : Nat) (p : List UInt8), ps[k]? = some p → (nbl i ps)[k]? = some (((i + k : Nat) : Int), nbV (i + k) p)
  | _, [], k, p, h => by simp at h
  | i, q :: ps, 0, p, h => by
    obtain rfl : q = p := by simpa using h
    rfl
  | i, q :: ps, k + 1, p, h => by
    unfold nbl
    rw [List.getElem?_cons_succ, nbl_get (i + 1) ps k p (by simpa using h), show i + 1 + k = i + (k + 1) by omega]
theorem nbl_prefix (i : Nat) {ps qs : List (List UInt8)} (h : ps <+: qs) : nbl i ps <+: nbl i qs := by
  obtain ⟨t, rfl⟩ := h
  induction ps generalizing i with
  | nil => exact List.nil_prefix
  | cons p ps ih =>
    rw [List.cons_append]
    unfold nbl
    exact (List.cons_prefix_cons).2 ⟨rfl, ih (i + 1)⟩
abbrev nbs (s : List UInt8) : List (Int × Int) := nbl 0 (pcs s)
abbrev YT : Nat := 71
abbrev encn (x : Int × Int) : Array Value := #[.int .i64 x.1, .int .i64 x.2]
/-- what a round keeps: every block from one on, and the text's box -/
def KeptN (H Bn n₀ : Nat) (W W' : World) : Prop := W.heap.size ≤ W'.heap.size ∧ (∀ (k : Nat) (o : Obj), H ≤ k → W.heap[k]? = some o → W'.heap[k]? = some o) ∧ W'.heap[Bn]? = W.heap[Bn]? ∧ Below n₀ W W'
theorem txt_below {n₀ : Nat} {w w' : World} (h : Txt w) (g1 : 6 < n₀) (g2 : 7 < n₀) (hb : Below n₀ w w') : Txt w' := by
  obtain ⟨⟨e1, a1, a2⟩, ⟨e2, b1, b2⟩⟩ := h
  exact ⟨⟨e1, (hb.cell (p := ⟨_, 0, none⟩) g1).trans a1, a2⟩, ⟨e2, (hb.cell (p := ⟨_, 0, none⟩) g2).trans b1, b2⟩⟩
theorem numbers_any (l : List UInt8) (w : World) :
    Calls Tryd.prog 34 #[.string ⟨l.toArray⟩] w fun e w' => e = .returned (.func (.func 48) #[] #[.pointer (some ⟨w.heap.size, 0, none⟩)]) ∧ w' = w.alloc (boxS l) := by
  go_enter Tryd.func34, Tryd.ntmps34
  go_wp2_with fail
  go_ret
  exact ⟨rfl, rfl⟩
theorem grown_below {w w' : World} (h : Below w.heap.size w w') (row : Option Nat) : w.grownBy w' row := ⟨h.os, h.tape, h.output, h.size, fun k hk _ => h.block k hk⟩
abbrev splitIt : Nat := 65
theorem enters_split (args : Array Value) (w : World) : (callFunc splitIt args).run Tryd.prog w = .ok (.enter splitIt args) w := enters_of Tryd.func65 (by kernel_rfl) rfl args w
theorem kept_of {H k : Nat} {A B : World} (h : ∀ (k : Nat) (o : Obj), H ≤ k → A.heap[k]? = some o → B.heap[k]? = some o) (hk : H ≤ k) (hlt : k < A.heap.size) : B.heap[k]? = A.heap[k]? := by
  rw [Array.getElem?_eq_getElem hlt]
  exact h _ _ hk (Array.getElem?_eq_getElem hlt)
theorem kf_below {H : Nat} {A B : World} (h : Below A.heap.size A B) : KF H A B := ⟨h.size, fun k _ _ h1 _ => (h.block k (Array.getElem?_eq_some_iff.1 h1).1).trans h1⟩
theorem round_any {m m' l l0 : Nat} {P : Program} {f : FuncId} {tmps : Array Value} {assign body : Code} {w : World} {R : Ending → World → Prop} (h : RoundIn Fence.wide m P l f tmps assign body w R) : RoundIn (Fence.wide.inRound l0) m' P l f tmps assign body w R :=
  ⟨h.1, fun c cs _ => h.2 c cs (room_wide _)⟩
theorem pcs_len : ∀ {l p : List UInt8}, p ∈ pcs l → p.length ≤ l.length
  | [], p, h => by
    have : p = [] := by simpa [pcs] using h
    rw [this]; simp
  | c :: t, p, h => by
    unfold pcs at h
    split at h
    · rcases List.mem_cons.1 h with rfl | h
      · simp
      · have := pcs_len h; simp; omega
    · split at h
      · have : p = [c] := by simpa using h
        rw [this]; simp
      · rename_i q qs hq
        rcases List.mem_cons.1 h with rfl | h
        · have := pcs_len (l := t) (p := q) (by rw [hq]; simp)
          simp; omega
        · have := pcs_len (l := t) (p := p) (by rw [hq]; simp [h])
          simp; omega
theorem pcs_count : ∀ (l : List UInt8), (pcs l).length ≤ l.length + 1
  | [] => by simp [pcs]
  | c :: t => by
    have ih := pcs_count t
    unfold pcs
    split
    · simp; omega
    · split
      · simp
      · rename_i q qs hq
        rw [hq] at ih
        simp at ih ⊢
        omega
theorem nbV_no {i : Nat} {p : List UInt8} (h : dgN p = none) : nbV i p = -1 := by unfold nbV; rw [h]
theorem nbV_ok {i : Nat} {p : List UInt8} {n : Int} (h : dgN p = some n) (hc : (i = 0 ∧ p.length ≤ 3) ∨ (0 < i ∧ p.length = 2 ∧ n < 60)) : nbV i p = n := by unfold nbV; rw [h]; exact if_pos hc
theorem nbV_bad {i : Nat} {p : List UInt8} {n : Int} (h : dgN p = some n) (hc : ¬ ((i = 0 ∧ p.length ≤ 3) ∨ (0 < i ∧ p.length = 2 ∧ n < 60))) : nbV i p = -1 := by unfold nbV; rw [h]; exact if_neg hc
set_option maxRecDepth 100000 in
set_option maxHeartbeats 2000000 in
theorem numbers1_in (n : Nat) (l Bn n₀ : Nat) (s : List UInt8) (hs : s.length ≤ 1000) (J Jx : List (Int × Int) → World → Prop) (W : World) (hBn : Bn < W.heap.size)
    (hJ : ∀ s A B r, J s A → A.grownBy B (some r) → (r = W.heap.size ∨ W.heap.size ≤ r) → J s B)
    (hJx : ∀ s A B r, Jx s A → A.grownBy B (some r) → (r = W.heap.size ∨ W.heap.size ≤ r) → Jx s B)
    (hY : ∀ pre x W1, J pre W1 → pre.length < (nbs s).length → (nbs s)[pre.length]? = some x → YieldAt Fence.wide (n - 1) Tryd.prog l (encn x) W1 fun e W' =>
      (e = .returned (.bool true) ∧ J (pre ++ [x]) W' ∧ KeptN W.heap.size Bn n₀ W1 W') ∨ (e = .returned (.bool false) ∧ Jx (pre ++ [x]) W' ∧ KF W.heap.size W1 W'))
    (hn : 1 ≤ n) (h1 : W.heap[Bn]? = some (boxS s)) (hn0 : n₀ ≤ W.heap.size) (g1 : 6 < n₀) (g2 : 7 < n₀) (hT : Txt W) (h0 : J [] W) :
    CallsIn Fence.wide n Tryd.prog 48 #[.func (.yield l) #[] #[], .pointer (some ⟨Bn, 0, none⟩)] W fun e W' => (∃ v, e = .returned v) ∧
      ((∃ ys, ys = nbs s ∧ J ys W') ∨ (∃ pre, pre <+: nbs s ∧ Jx pre W')) := by
  refine callsIn_of_wp_marks Tryd.func48 rfl trivial ?_ rfl
  simp only [Tryd.ntmps48, List.size_toArray, List.length_cons, List.length_nil, Nat.reduceAdd, Nat.reduceSub, Array.replicate_succ, Array.replicate_zero, List.push_toArray, List.append_toArray, List.nil_append, List.cons_append]
  have HJ := Lib.hid hJ
  have HJx := Lib.hid hJx
  have HY := Lib.hid hY
  have HT := Lib.hid hT
  have H0 := Lib.hid h0
  have c1 := cell_of_row W Bn 0 _ _ _ h1
  clear hJ hJx hY hT h0
  gi_wp2
  refine ⟨trivial, ?_⟩
  refine (callsIn_wide.2 (split_any s _)).mono ?_
  rintro e W5 ⟨rfl, hW5⟩
  simp only [World.size_alloc]
  have ky : W5.heap[W.heap.size]? = some (.cells #[.func (.yield l) #[] #[]] YT (0, 0)) := by
    rw [hW5, Below.heap_alloc _ _ _ (by simp only [World.size_alloc]; omega), Below.heap_alloc _ _ _ (by simp only [World.size_alloc]; omega), Below.heap_alloc _ _ _ (by simp only [World.size_alloc]; omega), Below.heap_alloc _ _ _ (by simp only [World.size_alloc]; omega)]
    exact heap_alloc_new W _
  have ki : W5.heap[W.heap.size + 1]? = some (boxI 0) := by
    rw [hW5, Below.heap_alloc _ _ _ (by simp only [World.size_alloc]; omega), Below.heap_alloc _ _ _ (by simp only [World.size_alloc]; omega), Below.heap_alloc _ _ _ (by simp only [World.size_alloc]; omega)]
    have := heap_alloc_new (W.alloc (.cells #[.func (.yield l) #[] #[]] YT)) (boxI 0)
    simpa using this
  have ks : W5.heap[W.heap.size + 1 + 1]? = some (boxS s) := by
    rw [hW5, Below.heap_alloc _ _ _ (by simp only [World.size_alloc]; omega), Below.heap_alloc _ _ _ (by simp only [World.size_alloc]; omega)]
    have := heap_alloc_new ((W.alloc (.cells #[.func (.yield l) #[] #[]] YT)).alloc (boxI 0)) (boxS s)
    simpa using this
  have kp : W5.heap[W.heap.size + 1 + 1 + 1]? = some (boxS [58]) := by
    rw [hW5, Below.heap_alloc _ _ _ (by simp only [World.size_alloc]; omega)]
    have := heap_alloc_new (((W.alloc (.cells #[.func (.yield l) #[] #[]] YT)).alloc (boxI 0)).alloc (boxS s)) (boxS [58])
    simpa using this
  have kv : W5.heap[W.heap.size + 1 + 1 + 1 + 1]? = some (boxI 0) := by
    rw [hW5]
    have := heap_alloc_new ((((W.alloc (.cells #[.func (.yield l) #[] #[]] YT)).alloc (boxI 0)).alloc (boxS s)).alloc (boxS [58])) (boxI 0)
    simpa using this
  have b5 : Below W.heap.size W W5 := by
    rw [hW5]
    exact (((((Below.refl _ _).alloc (Nat.le_refl _) _).alloc (by simp only [World.size_alloc]; omega) _).alloc (by simp only [World.size_alloc]; omega) _).alloc (by simp only [World.size_alloc]; omega) _).alloc (by simp only [World.size_alloc]; omega) _
  have s5 : W5.heap.size = W.heap.size + 5 := by rw [hW5]; simp
  clear hW5
  gi_wp2
  have hJ5 := HJ.out _ W W5 W.heap.size H0.out (grown_below b5 _) (.inl rfl)
  refine wpIn_rangeFunc_far rfl hn (gf := splitIt) (lb := #[.pointer (some ⟨W.heap.size + 1 + 1 + 1, 0, none⟩), .pointer (some ⟨W.heap.size + 1 + 1, 0, none⟩), .pointer (some ⟨W.heap.size + 1 + 1 + 1 + 1, 0, none⟩)]) rfl trivial enters_split
    (split_stops (n - 1) (W.heap.size + 1 + 1) (W.heap.size + 1 + 1 + 1) (W.heap.size + 1 + 1 + 1 + 1) s hs (by omega) (by omega) W5 ks kp kv (W5.heap.size + 2))
    (by omega) keptS_t
    (fun V l ob ob' hle hlt h2 h3 h4 => ⟨World.putObj_heap_other (by omega), World.putObj_heap_other (by omega), World.putObj_heap_other (by omega)⟩) (Below.refl _ _) (fun _ => rfl)
    (fun pre V => J (nbl 0 pre) V ∧ V.heap[W.heap.size + 1]? = some (boxI pre.length) ∧ V.heap[W.heap.size]? = some (.cells #[.func (.yield l) #[] #[]] YT (0, 0)) ∧ W5.heap.size ≤ V.heap.size ∧ Below n₀ W V)
    (fun c pre V => c = .ret ∧ Jx (nbl 0 pre) V)
    (fun t A B r h hg hr => ⟨HJ.out _ A B r h.1 hg (by omega), grown_far hg h.2.1 (by omega), grown_far hg h.2.2.1 (by omega), Nat.le_trans h.2.2.2.1 hg.size, h.2.2.2.2.grown hg (by have := h.2.2.2.1; omega) (fun k e => by cases e; omega)⟩)
    (fun c t A B r h hg hr => ⟨h.1, HJx.out _ A B r h.2 hg (by omega)⟩)
    ⟨hJ5, ki, ky, Nat.le_refl _, b5.mono hn0⟩
    ?a1
    (fun pre p V => J (nbl 0 pre) V ∧ V.heap[W.heap.size + 1]? = some (boxI pre.length) ∧ V.heap[W.heap.size]? = some (.cells #[.func (.yield l) #[] #[]] YT (0, 0)) ∧ W5.heap.size ≤ V.heap.size ∧ Below n₀ W V)
    (fun pre t A B r h hg hr => ⟨HJ.out _ A B r h.1 hg (by omega), grown_far hg h.2.1 (by omega), grown_far hg h.2.2.1 (by omega), Nat.le_trans h.2.2.2.1 hg.size, h.2.2.2.2.grown hg (by have := h.2.2.2.1; omega) (fun k e => by cases e; omega)⟩)
    ?assign ?body ?done ?stop
  case assign =>
    rintro l' pre p V K hI hlen hpx hK
    have HI := Lib.hid hI
    have HK := Lib.hid hK
    clear hI hK hpx
    gi_wp2
    exact HK.out _ (KF.refl _ _) ⟨rfl, rfl, rfl⟩ HI.out
  case done =>
    rintro D ys V hD hys ⟨hJs, _⟩ hK
    subst hys
    have HJs := Lib.hid hJs
    clear hJs
    gi_wp2
    refine ⟨by simp, .inl ⟨_, _, rfl, run_takeDeferred hK, ?_⟩⟩
    exact ⟨_, results_none rfl _ _ _, ⟨_, rfl⟩, .inl ⟨_, rfl, HJ.out _ _ _ D HJs.out (grownBy_putObj' _ _ _) (by omega)⟩⟩
  case stop =>
    rintro D c pre V hD hpre ⟨rfl, hJxs⟩ hK
    have HJs := Lib.hid hJxs
    clear hJxs
    gi_wp2
    refine ⟨by simp, .inl ⟨_, _, rfl, run_takeDeferred hK, ?_⟩⟩
    exact ⟨_, results_none rfl _ _ _, ⟨_, rfl⟩, .inr ⟨_, nbl_prefix 0 hpre, HJx.out _ _ _ D HJs.out (grownBy_putObj' _ _ _) (by omega)⟩⟩
  case body =>
    rintro l' pre p V ⟨hJs, hi, hy, hsz, hbn⟩ hlen hpx
    have ci : V.cell? ⟨W.heap.size + 1, 0, none⟩ = some (.int .i64 pre.length) := cell_of_row V _ 0 _ _ _ hi
    have cy : V.cell? ⟨W.heap.size, 0, none⟩ = some (.func (.yield l) #[] #[]) := cell_of_row V _ 0 _ _ _ hy
    have hpl : p.length ≤ 1000 := by have := pcs_len (List.mem_of_getElem? hpx); omega
    have hkb : (pre.length : Int) ≤ 1001 := by have := pcs_count s; omega
    have hTV := txt_below HT.out g1 g2 hbn
    have HBn := Lib.hid hbn
    have HTV := Lib.hid hTV
    have HJs := Lib.hid hJs
    have HI := Lib.hid hi
    have HYy := Lib.hid hy
    have HPx := Lib.hid hpx
    have HPl := Lib.hid hpl
    clear hJs hi hy hpx ks kp kv ki ky b5 hJ5 c1 h1 hTV hpl hbn
    gi_wp2
    cases hd : dgN p with
    | none =>
      have EV := Lib.hid (nbV_no (i := pre.length) hd)
      refine ⟨trivial, (fun h => by cases h), ?_⟩
      refine (CallsIn.inRound l' (callsIn_wide.2 (digits_no p _ HPl.out HTV.out hd))).mono ?_
      rintro e V2 ⟨k, rfl, hb2⟩
      have HJ2 := Lib.hid (HJ.out _ V V2 W.heap.size HJs.out (grown_below hb2 _) (.inl rfl))
      have HI2 := Lib.hid ((hb2.block (W.heap.size + 1) (by omega)).trans HI.out)
      have HYy2 := Lib.hid ((hb2.block W.heap.size (by omega)).trans HYy.out)
      have HB2 := Lib.hid hb2
      have sv2 := hb2.size
      clear hb2
      have ci2 : V2.cell? ⟨W.heap.size + 1, 0, none⟩ = some (.int .i64 pre.length) := cell_of_row V2 _ 0 _ _ _ HI2.out
      have cy2 : V2.cell? ⟨W.heap.size, 0, none⟩ = some (.func (.yield l) #[] #[]) := cell_of_row V2 _ 0 _ _ _ HYy2.out
      obtain ⟨fn, tmps, assign, body, hy2, hR⟩ := HY.out (nbl 0 pre) ((pre.length : Int), (-1)) V2 HJ2.out (by rw [nbl_len, nbl_len]; exact hlen) (by rw [nbl_len, ← EV.out]; have := nbl_get 0 (pcs s) pre.length p HPx.out; simpa using this)
      dsimp only [encn] at hy2
      gi_wp2
      all_goals (try (exfalso; rename_i ha hb; cases ha; done))
      all_goals
        refine ⟨(fun h => by cases h), ?_⟩
        refine (round_any hR).mono ?_
        rintro e V3 (⟨rfl, hJ3, hk3⟩ | ⟨rfl, hJx3, hf3⟩)
        · have hi3 := hk3.2.1 _ _ (by omega) HI2.out
          have hy3 := hk3.2.1 _ _ (Nat.le_refl _) HYy2.out
          have ci3 : V3.cell? ⟨W.heap.size + 1, 0, none⟩ = some (.int .i64 pre.length) := cell_of_row V3 _ 0 _ _ _ hi3
          have fi3 := frozen_of_row V3 (W.heap.size + 1) 0 _ _ hi3
          have HKt := Lib.hid hk3
          have HJ3 := Lib.hid hJ3
          clear ci cy ci2 cy2 hk3 hJ3
          gi_wp2
          have hk3 := HKt.out
          have hb2 := HB2.out
          have hsz3 := hk3.1
          refine ⟨((kf_below hb2).trans ⟨hk3.1, fun k o hk h _ => hk3.2.1 k o (by omega) h⟩).trans (KF.of_others (KeepsOthers.setCell _ _ _)), ⟨?_, ?_, ?_⟩, ?_, ?_, (heap_setCell_other _ _ _ _ (by simp only; omega)).trans hy3, by simp only [World.size_setCell]; omega, ((HBn.out.trans (hb2.mono (by omega))).trans hk3.2.2.2).setCell (by simp only; omega) _⟩
          · exact (heap_setCell_other _ _ _ _ (by simp only; omega)).trans ((kept_of hk3.2.1 (by omega) (by omega)).trans (hb2.block _ (by omega)))
          · exact (heap_setCell_other _ _ _ _ (by simp only; omega)).trans ((kept_of hk3.2.1 (by omega) (by omega)).trans (hb2.block _ (by omega)))
          · exact (heap_setCell_other _ _ _ _ (by simp only; omega)).trans ((kept_of hk3.2.1 (by omega) (by omega)).trans (hb2.block _ (by omega)))
          · rw [nbl_snoc, Nat.zero_add, EV.out]
            exact HJ.out _ _ _ (W.heap.size + 1) HJ3.out (grownBy_setCell' V3 _ _) (by omega)
          · have := heap_setCell_same V3 (W.heap.size + 1) 0 _ _ (.int .i64 (pre.length + 1)) hi3
            simpa using this
        · have HJ3 := Lib.hid hJx3
          clear hJx3
          gi_wp2
          exact ⟨(kf_below HB2.out).trans (hf3.mono (by omega)), rfl, by rw [nbl_snoc, Nat.zero_add, EV.out]; exact HJ3.out⟩
    | some m =>
      have HD := Lib.hid hd
      have HM := Lib.hid (fun (hc : ¬ ((pre.length = 0 ∧ p.length ≤ 3) ∨ (0 < pre.length ∧ p.length = 2 ∧ m < 60))) => nbV_bad (i := pre.length) hd hc)
      have HG := Lib.hid (fun (hc : (pre.length = 0 ∧ p.length ≤ 3) ∨ (0 < pre.length ∧ p.length = 2 ∧ m < 60)) => nbV_ok (i := pre.length) hd hc)
      clear hd
      by_cases k0 : pre.length = 0
      · have kq : ((pre.length : Int) == 0) = true := by simpa using k0
        have kz : (pre.length : Int) ≤ 0 := by omega
        by_cases h3 : p.length ≤ 3
        · have EV := Lib.hid (HG.out (.inl ⟨k0, h3⟩))
          have h3I : decide ((p.length : Int) ≤ 3) = true := decide_eq_true (by omega)
          clear h3 k0
          refine ⟨trivial, (fun h => by cases h), ?_⟩
          refine (CallsIn.inRound l' (callsIn_wide.2 (digits_ok p m _ HPl.out HD.out))).mono ?_
          rintro e V2 ⟨rfl, hb2⟩
          have HJ2 := Lib.hid (HJ.out _ V V2 W.heap.size HJs.out (grown_below hb2 _) (.inl rfl))
          have HI2 := Lib.hid ((hb2.block (W.heap.size + 1) (by omega)).trans HI.out)
          have HYy2 := Lib.hid ((hb2.block W.heap.size (by omega)).trans HYy.out)
          have HB2 := Lib.hid hb2
          have sv2 := hb2.size
          clear hb2
          have ci2 : V2.cell? ⟨W.heap.size + 1, 0, none⟩ = some (.int .i64 pre.length) := cell_of_row V2 _ 0 _ _ _ HI2.out
          have cy2 : V2.cell? ⟨W.heap.size, 0, none⟩ = some (.func (.yield l) #[] #[]) := cell_of_row V2 _ 0 _ _ _ HYy2.out
          obtain ⟨fn, tmps, assign, body, hy2, hR⟩ := HY.out (nbl 0 pre) ((pre.length : Int), m) V2 HJ2.out (by rw [nbl_len, nbl_len]; exact hlen) (by rw [nbl_len, ← EV.out]; have := nbl_get 0 (pcs s) pre.length p HPx.out; simpa using this)
          dsimp only [encn] at hy2
          gi_wp2
          all_goals (try (exfalso; rename_i ha hb; cases ha; done))
          all_goals
            refine ⟨(fun h => by cases h), ?_⟩
            refine (round_any hR).mono ?_
            rintro e V3 (⟨rfl, hJ3, hk3⟩ | ⟨rfl, hJx3, hf3⟩)
            · have hi3 := hk3.2.1 _ _ (by omega) HI2.out
              have hy3 := hk3.2.1 _ _ (Nat.le_refl _) HYy2.out
              have ci3 : V3.cell? ⟨W.heap.size + 1, 0, none⟩ = some (.int .i64 pre.length) := cell_of_row V3 _ 0 _ _ _ hi3
              have fi3 := frozen_of_row V3 (W.heap.size + 1) 0 _ _ hi3
              have HKt := Lib.hid hk3
              have HJ3 := Lib.hid hJ3
              clear ci cy ci2 cy2 hk3 hJ3
              gi_wp2
              have hk3 := HKt.out
              have hb2 := HB2.out
              have hsz3 := hk3.1
              refine ⟨((kf_below hb2).trans ⟨hk3.1, fun k o hk h _ => hk3.2.1 k o (by omega) h⟩).trans (KF.of_others (KeepsOthers.setCell _ _ _)), ⟨?_, ?_, ?_⟩, ?_, ?_, (heap_setCell_other _ _ _ _ (by simp only; omega)).trans hy3, by simp only [World.size_setCell]; omega, ((HBn.out.trans (hb2.mono (by omega))).trans hk3.2.2.2).setCell (by simp only; omega) _⟩
              · exact (heap_setCell_other _ _ _ _ (by simp only; omega)).trans ((kept_of hk3.2.1 (by omega) (by omega)).trans (hb2.block _ (by omega)))
              · exact (heap_setCell_other _ _ _ _ (by simp only; omega)).trans ((kept_of hk3.2.1 (by omega) (by omega)).trans (hb2.block _ (by omega)))
              · exact (heap_setCell_other _ _ _ _ (by simp only; omega)).trans ((kept_of hk3.2.1 (by omega) (by omega)).trans (hb2.block _ (by omega)))
              · rw [nbl_snoc, Nat.zero_add, EV.out]
                exact HJ.out _ _ _ (W.heap.size + 1) HJ3.out (grownBy_setCell' V3 _ _) (by omega)
              · have := heap_setCell_same V3 (W.heap.size + 1) 0 _ _ (.int .i64 (pre.length + 1)) hi3
                simpa using this
            · have HJ3 := Lib.hid hJx3
              clear hJx3
              gi_wp2
              exact ⟨(kf_below HB2.out).trans (hf3.mono (by omega)), rfl, by rw [nbl_snoc, Nat.zero_add, EV.out]; exact HJ3.out⟩
        · have EV := Lib.hid (HM.out (by omega))
          have h3I : decide ((p.length : Int) ≤ 3) = false := decide_eq_false (by omega)
          clear h3 k0
          refine ⟨trivial, (fun h => by cases h), ?_⟩
          refine (CallsIn.inRound l' (callsIn_wide.2 (digits_ok p m _ HPl.out HD.out))).mono ?_
          rintro e V2 ⟨rfl, hb2⟩
          have HJ2 := Lib.hid (HJ.out _ V V2 W.heap.size HJs.out (grown_below hb2 _) (.inl rfl))
          have HI2 := Lib.hid ((hb2.block (W.heap.size + 1) (by omega)).trans HI.out)
          have HYy2 := Lib.hid ((hb2.block W.heap.size (by omega)).trans HYy.out)
          have HB2 := Lib.hid hb2
          have sv2 := hb2.size
          clear hb2
          have ci2 : V2.cell? ⟨W.heap.size + 1, 0, none⟩ = some (.int .i64 pre.length) := cell_of_row V2 _ 0 _ _ _ HI2.out
          have cy2 : V2.cell? ⟨W.heap.size, 0, none⟩ = some (.func (.yield l) #[] #[]) := cell_of_row V2 _ 0 _ _ _ HYy2.out
          obtain ⟨fn, tmps, assign, body, hy2, hR⟩ := HY.out (nbl 0 pre) ((pre.length : Int), (-1)) V2 HJ2.out (by rw [nbl_len, nbl_len]; exact hlen) (by rw [nbl_len, ← EV.out]; have := nbl_get 0 (pcs s) pre.length p HPx.out; simpa using this)
          dsimp only [encn] at hy2
          gi_wp2
          all_goals (try (exfalso; rename_i ha hb; cases ha; done))
          all_goals
            refine ⟨(fun h => by cases h), ?_⟩
            refine (round_any hR).mono ?_
            rintro e V3 (⟨rfl, hJ3, hk3⟩ | ⟨rfl, hJx3, hf3⟩)
            · have hi3 := hk3.2.1 _ _ (by omega) HI2.out
              have hy3 := hk3.2.1 _ _ (Nat.le_refl _) HYy2.out
              have ci3 : V3.cell? ⟨W.heap.size + 1, 0, none⟩ = some (.int .i64 pre.length) := cell_of_row V3 _ 0 _ _ _ hi3
              have fi3 := frozen_of_row V3 (W.heap.size + 1) 0 _ _ hi3
              have HKt := Lib.hid hk3
              have HJ3 := Lib.hid hJ3
              clear ci cy ci2 cy2 hk3 hJ3
              gi_wp2
              have hk3 := HKt.out
              have hb2 := HB2.out
              have hsz3 := hk3.1
              refine ⟨((kf_below hb2).trans ⟨hk3.1, fun k o hk h _ => hk3.2.1 k o (by omega) h⟩).trans (KF.of_others (KeepsOthers.setCell _ _ _)), ⟨?_, ?_, ?_⟩, ?_, ?_, (heap_setCell_other _ _ _ _ (by simp only; omega)).trans hy3, by simp only [World.size_setCell]; omega, ((HBn.out.trans (hb2.mono (by omega))).trans hk3.2.2.2).setCell (by simp only; omega) _⟩
              · exact (heap_setCell_other _ _ _ _ (by simp only; omega)).trans ((kept_of hk3.2.1 (by omega) (by omega)).trans (hb2.block _ (by omega)))
              · exact (heap_setCell_other _ _ _ _ (by simp only; omega)).trans ((kept_of hk3.2.1 (by omega) (by omega)).trans (hb2.block _ (by omega)))
              · exact (heap_setCell_other _ _ _ _ (by simp only; omega)).trans ((kept_of hk3.2.1 (by omega) (by omega)).trans (hb2.block _ (by omega)))
              · rw [nbl_snoc, Nat.zero_add, EV.out]
                exact HJ.out _ _ _ (W.heap.size + 1) HJ3.out (grownBy_setCell' V3 _ _) (by omega)
              · have := heap_setCell_same V3 (W.heap.size + 1) 0 _ _ (.int .i64 (pre.length + 1)) hi3
                simpa using this
            · have HJ3 := Lib.hid hJx3
              clear hJx3
              gi_wp2
              exact ⟨(kf_below HB2.out).trans (hf3.mono (by omega)), rfl, by rw [nbl_snoc, Nat.zero_add, EV.out]; exact HJ3.out⟩
      · have kq : ((pre.length : Int) == 0) = false := by rw [beq_eq_false_iff_ne]; omega
        have kz : 0 < (pre.length : Int) := by omega
        by_cases h2 : p.length = 2
        · have h2q : ((p.length : Int) == 2) = true := by rw [h2]; rfl
          by_cases h6 : m < 60
          · have EV := Lib.hid (HG.out (.inr ⟨by omega, h2, h6⟩))
            have h6I : decide (m < 60) = true := decide_eq_true h6
            clear h2 k0 h6
            refine ⟨trivial, (fun h => by cases h), ?_⟩
            refine (CallsIn.inRound l' (callsIn_wide.2 (digits_ok p m _ HPl.out HD.out))).mono ?_
            rintro e V2 ⟨rfl, hb2⟩
            have HJ2 := Lib.hid (HJ.out _ V V2 W.heap.size HJs.out (grown_below hb2 _) (.inl rfl))
            have HI2 := Lib.hid ((hb2.block (W.heap.size + 1) (by omega)).trans HI.out)
            have HYy2 := Lib.hid ((hb2.block W.heap.size (by omega)).trans HYy.out)
            have HB2 := Lib.hid hb2
            have sv2 := hb2.size
            clear hb2
            have ci2 : V2.cell? ⟨W.heap.size + 1, 0, none⟩ = some (.int .i64 pre.length) := cell_of_row V2 _ 0 _ _ _ HI2.out
            have cy2 : V2.cell? ⟨W.heap.size, 0, none⟩ = some (.func (.yield l) #[] #[]) := cell_of_row V2 _ 0 _ _ _ HYy2.out
            obtain ⟨fn, tmps, assign, body, hy2, hR⟩ := HY.out (nbl 0 pre) ((pre.length : Int), m) V2 HJ2.out (by rw [nbl_len, nbl_len]; exact hlen) (by rw [nbl_len, ← EV.out]; have := nbl_get 0 (pcs s) pre.length p HPx.out; simpa using this)
            dsimp only [encn] at hy2
            gi_wp2
            all_goals (try (exfalso; rename_i ha hb; cases ha; done))
            all_goals
              refine ⟨(fun h => by cases h), ?_⟩
              refine (round_any hR).mono ?_
              rintro e V3 (⟨rfl, hJ3, hk3⟩ | ⟨rfl, hJx3, hf3⟩)
              · have hi3 := hk3.2.1 _ _ (by omega) HI2.out
                have hy3 := hk3.2.1 _ _ (Nat.le_refl _) HYy2.out
                have ci3 : V3.cell? ⟨W.heap.size + 1, 0, none⟩ = some (.int .i64 pre.length) := cell_of_row V3 _ 0 _ _ _ hi3
                have fi3 := frozen_of_row V3 (W.heap.size + 1) 0 _ _ hi3
                have HKt := Lib.hid hk3
                have HJ3 := Lib.hid hJ3
                clear ci cy ci2 cy2 hk3 hJ3
                gi_wp2
                have hk3 := HKt.out
                have hb2 := HB2.out
                have hsz3 := hk3.1
                refine ⟨((kf_below hb2).trans ⟨hk3.1, fun k o hk h _ => hk3.2.1 k o (by omega) h⟩).trans (KF.of_others (KeepsOthers.setCell _ _ _)), ⟨?_, ?_, ?_⟩, ?_, ?_, (heap_setCell_other _ _ _ _ (by simp only; omega)).trans hy3, by simp only [World.size_setCell]; omega, ((HBn.out.trans (hb2.mono (by omega))).trans hk3.2.2.2).setCell (by simp only; omega) _⟩
                · exact (heap_setCell_other _ _ _ _ (by simp only; omega)).trans ((kept_of hk3.2.1 (by omega) (by omega)).trans (hb2.block _ (by omega)))
                · exact (heap_setCell_other _ _ _ _ (by simp only; omega)).trans ((kept_of hk3.2.1 (by omega) (by omega)).trans (hb2.block _ (by omega)))
                · exact (heap_setCell_other _ _ _ _ (by simp only; omega)).trans ((kept_of hk3.2.1 (by omega) (by omega)).trans (hb2.block _ (by omega)))
                · rw [nbl_snoc, Nat.zero_add, EV.out]
                  exact HJ.out _ _ _ (W.heap.size + 1) HJ3.out (grownBy_setCell' V3 _ _) (by omega)
                · have := heap_setCell_same V3 (W.heap.size + 1) 0 _ _ (.int .i64 (pre.length + 1)) hi3
                  simpa using this
              · have HJ3 := Lib.hid hJx3
                clear hJx3
                gi_wp2
                exact ⟨(kf_below HB2.out).trans (hf3.mono (by omega)), rfl, by rw [nbl_snoc, Nat.zero_add, EV.out]; exact HJ3.out⟩
          · have EV := Lib.hid (HM.out (by omega))
            have h6I : decide (m < 60) = false := decide_eq_false h6
            clear h2 k0 h6
            refine ⟨trivial, (fun h => by cases h), ?_⟩
            refine (CallsIn.inRound l' (callsIn_wide.2 (digits_ok p m _ HPl.out HD.out))).mono ?_
            rintro e V2 ⟨rfl, hb2⟩
            have HJ2 := Lib.hid (HJ.out _ V V2 W.heap.size HJs.out (grown_below hb2 _) (.inl rfl))
            have HI2 := Lib.hid ((hb2.block (W.heap.size + 1) (by omega)).trans HI.out)
            have HYy2 := Lib.hid ((hb2.block W.heap.size (by omega)).trans HYy.out)
            have HB2 := Lib.hid hb2
            have sv2 := hb2.size
            clear hb2
            have ci2 : V2.cell? ⟨W.heap.size + 1, 0, none⟩ = some (.int .i64 pre.length) := cell_of_row V2 _ 0 _ _ _ HI2.out
            have cy2 : V2.cell? ⟨W.heap.size, 0, none⟩ = some (.func (.yield l) #[] #[]) := cell_of_row V2 _ 0 _ _ _ HYy2.out
            obtain ⟨fn, tmps, assign, body, hy2, hR⟩ := HY.out (nbl 0 pre) ((pre.length : Int), (-1)) V2 HJ2.out (by rw [nbl_len, nbl_len]; exact hlen) (by rw [nbl_len, ← EV.out]; have := nbl_get 0 (pcs s) pre.length p HPx.out; simpa using this)
            dsimp only [encn] at hy2
            gi_wp2
            all_goals (try (exfalso; rename_i ha hb; cases ha; done))
            all_goals
              refine ⟨(fun h => by cases h), ?_⟩
              refine (round_any hR).mono ?_
              rintro e V3 (⟨rfl, hJ3, hk3⟩ | ⟨rfl, hJx3, hf3⟩)
              · have hi3 := hk3.2.1 _ _ (by omega) HI2.out
                have hy3 := hk3.2.1 _ _ (Nat.le_refl _) HYy2.out
                have ci3 : V3.cell? ⟨W.heap.size + 1, 0, none⟩ = some (.int .i64 pre.length) := cell_of_row V3 _ 0 _ _ _ hi3
                have fi3 := frozen_of_row V3 (W.heap.size + 1) 0 _ _ hi3
                have HKt := Lib.hid hk3
                have HJ3 := Lib.hid hJ3
                clear ci cy ci2 cy2 hk3 hJ3
                gi_wp2
                have hk3 := HKt.out
                have hb2 := HB2.out
                have hsz3 := hk3.1
                refine ⟨((kf_below hb2).trans ⟨hk3.1, fun k o hk h _ => hk3.2.1 k o (by omega) h⟩).trans (KF.of_others (KeepsOthers.setCell _ _ _)), ⟨?_, ?_, ?_⟩, ?_, ?_, (heap_setCell_other _ _ _ _ (by simp only; omega)).trans hy3, by simp only [World.size_setCell]; omega, ((HBn.out.trans (hb2.mono (by omega))).trans hk3.2.2.2).setCell (by simp only; omega) _⟩
                · exact (heap_setCell_other _ _ _ _ (by simp only; omega)).trans ((kept_of hk3.2.1 (by omega) (by omega)).trans (hb2.block _ (by omega)))
                · exact (heap_setCell_other _ _ _ _ (by simp only; omega)).trans ((kept_of hk3.2.1 (by omega) (by omega)).trans (hb2.block _ (by omega)))
                · exact (heap_setCell_other _ _ _ _ (by simp only; omega)).trans ((kept_of hk3.2.1 (by omega) (by omega)).trans (hb2.block _ (by omega)))
                · rw [nbl_snoc, Nat.zero_add, EV.out]
                  exact HJ.out _ _ _ (W.heap.size + 1) HJ3.out (grownBy_setCell' V3 _ _) (by omega)
                · have := heap_setCell_same V3 (W.heap.size + 1) 0 _ _ (.int .i64 (pre.length + 1)) hi3
                  simpa using this
              · have HJ3 := Lib.hid hJx3
                clear hJx3
                gi_wp2
                exact ⟨(kf_below HB2.out).trans (hf3.mono (by omega)), rfl, by rw [nbl_snoc, Nat.zero_add, EV.out]; exact HJ3.out⟩
        · have EV := Lib.hid (HM.out (by omega))
          have h2q : ((p.length : Int) == 2) = false := by rw [beq_eq_false_iff_ne]; omega
          clear h2 k0
          refine ⟨trivial, (fun h => by cases h), ?_⟩
          refine (CallsIn.inRound l' (callsIn_wide.2 (digits_ok p m _ HPl.out HD.out))).mono ?_
          rintro e V2 ⟨rfl, hb2⟩
          have HJ2 := Lib.hid (HJ.out _ V V2 W.heap.size HJs.out (grown_below hb2 _) (.inl rfl))
          have HI2 := Lib.hid ((hb2.block (W.heap.size + 1) (by omega)).trans HI.out)
          have HYy2 := Lib.hid ((hb2.block W.heap.size (by omega)).trans HYy.out)
          have HB2 := Lib.hid hb2
          have sv2 := hb2.size
          clear hb2
          have ci2 : V2.cell? ⟨W.heap.size + 1, 0, none⟩ = some (.int .i64 pre.length) := cell_of_row V2 _ 0 _ _ _ HI2.out
          have cy2 : V2.cell? ⟨W.heap.size, 0, none⟩ = some (.func (.yield l) #[] #[]) := cell_of_row V2 _ 0 _ _ _ HYy2.out
          obtain ⟨fn, tmps, assign, body, hy2, hR⟩ := HY.out (nbl 0 pre) ((pre.length : Int), (-1)) V2 HJ2.out (by rw [nbl_len, nbl_len]; exact hlen) (by rw [nbl_len, ← EV.out]; have := nbl_get 0 (pcs s) pre.length p HPx.out; simpa using this)
          dsimp only [encn] at hy2
          gi_wp2
          all_goals (try (exfalso; rename_i ha hb; cases ha; done))
          all_goals
            refine ⟨(fun h => by cases h), ?_⟩
            refine (round_any hR).mono ?_
            rintro e V3 (⟨rfl, hJ3, hk3⟩ | ⟨rfl, hJx3, hf3⟩)
            · have hi3 := hk3.2.1 _ _ (by omega) HI2.out
              have hy3 := hk3.2.1 _ _ (Nat.le_refl _) HYy2.out
              have ci3 : V3.cell? ⟨W.heap.size + 1, 0, none⟩ = some (.int .i64 pre.length) := cell_of_row V3 _ 0 _ _ _ hi3
              have fi3 := frozen_of_row V3 (W.heap.size + 1) 0 _ _ hi3
              have HKt := Lib.hid hk3
              have HJ3 := Lib.hid hJ3
              clear ci cy ci2 cy2 hk3 hJ3
              gi_wp2
              have hk3 := HKt.out
              have hb2 := HB2.out
              have hsz3 := hk3.1
              refine ⟨((kf_below hb2).trans ⟨hk3.1, fun k o hk h _ => hk3.2.1 k o (by omega) h⟩).trans (KF.of_others (KeepsOthers.setCell _ _ _)), ⟨?_, ?_, ?_⟩, ?_, ?_, (heap_setCell_other _ _ _ _ (by simp only; omega)).trans hy3, by simp only [World.size_setCell]; omega, ((HBn.out.trans (hb2.mono (by omega))).trans hk3.2.2.2).setCell (by simp only; omega) _⟩
              · exact (heap_setCell_other _ _ _ _ (by simp only; omega)).trans ((kept_of hk3.2.1 (by omega) (by omega)).trans (hb2.block _ (by omega)))
              · exact (heap_setCell_other _ _ _ _ (by simp only; omega)).trans ((kept_of hk3.2.1 (by omega) (by omega)).trans (hb2.block _ (by omega)))
              · exact (heap_setCell_other _ _ _ _ (by simp only; omega)).trans ((kept_of hk3.2.1 (by omega) (by omega)).trans (hb2.block _ (by omega)))
              · rw [nbl_snoc, Nat.zero_add, EV.out]
                exact HJ.out _ _ _ (W.heap.size + 1) HJ3.out (grownBy_setCell' V3 _ _) (by omega)
              · have := heap_setCell_same V3 (W.heap.size + 1) 0 _ _ (.int .i64 (pre.length + 1)) hi3
                simpa using this
            · have HJ3 := Lib.hid hJx3
              clear hJx3
              gi_wp2
              exact ⟨(kf_below HB2.out).trans (hf3.mono (by omega)), rfl, by rw [nbl_snoc, Nat.zero_add, EV.out]; exact HJ3.out⟩
theorem numbers_stops (n H Bn n₀ : Nat) (s : List UInt8) (hs : s.length ≤ 1000) (hn : 1 ≤ n) (w : World) (h1 : w.heap[Bn]? = some (boxS s)) (hn0 : n₀ ≤ w.heap.size) (g1 : 6 < n₀) (g2 : 7 < n₀) (hT : Txt w) :
    SeqFar Fence.wide n Tryd.prog 48 #[.pointer (some ⟨Bn, 0, none⟩)] encn (KeptN H Bn n₀) H H (fun ys => ys = nbs s) (fun pre => pre <+: nbs s) (nbs s).length (fun pre x => (nbs s)[pre.length]? = some x) w := by
  intro l J Jx W hWb hH hJ hJx hY h0
  subst hH
  have hb := (Array.getElem?_eq_some_iff.1 h1).1
  exact numbers1_in n l Bn n₀ s hs J Jx W (by have := hWb.size; omega) hJ hJx hY hn ((hWb.block Bn hb).trans h1) (by have := hWb.size; omega) g1 g2 (txt_below hT (by omega) (by omega) (hWb.mono hn0)) h0
end Go.Proofs.YtbejbagpdjfgmaaDoor
