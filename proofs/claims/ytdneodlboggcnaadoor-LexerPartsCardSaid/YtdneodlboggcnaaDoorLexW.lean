/-
  THE WALK of lexer.Words.
-/
import Derived.Test.YtdneodlboggcnaaDoorSlices
import Derived.Test.YtdneodlboggcnaaDoorNoneAny
namespace Go.Proofs.YtdneodlboggcnaaDoor
open Go Go.RowKit
attribute [local go_sem] Oper.semAt_some
abbrev fsts (pre : List (List UInt8 × Bool)) : List (List UInt8) := pre.map (·.1)
abbrev boxV (v : Value) : Obj := .cells #[v] 23 (0, 0)
abbrev boxE (v : Int) : Obj := .cells #[.int .i64 v] 24 (0, 0)
abbrev wordsIt : Nat := 16
theorem enters_words (args : Array Value) (w : World) : (callFunc wordsIt args).run Tryd.prog w = .ok (.enter wordsIt args) w := enters_of Tryd.func16 (by kernel_rfl) rfl args w
theorem lexW_any {l : List UInt8} (h : l.any nob = true) : lexW l = (12, []) := by unfold lexW; rw [if_pos h]
theorem lexW_open {l : List UInt8} (h : l.any nob = false) (h2 : ∃ x ∈ wds l, x.2 = false) : lexW l = (12, []) := by
  have : lx l = none := by
    unfold lx
    rw [if_neg]
    intro ha
    obtain ⟨x, hx, hf⟩ := h2
    have := List.all_eq_true.1 ha x hx
    rw [hf] at this
    cases this
  unfold lexW
  rw [h, this]
  rfl
theorem lexW_many {l : List UInt8} (h : l.any nob = false) (h2 : ∀ x ∈ wds l, x.2 = true) (h3 : 32 < (wds l).length) : lexW l = (14, []) := by
  have : lx l = some (fsts (wds l)) := by unfold lx; rw [if_pos (List.all_eq_true.2 h2)]
  unfold lexW
  rw [h, this]
  simp [h3]
theorem lexW_ok {l : List UInt8} (h : l.any nob = false) (h2 : ∀ x ∈ wds l, x.2 = true) (h3 : (wds l).length ≤ 32) : lexW l = (0, fsts (wds l)) := by
  have : lx l = some (fsts (wds l)) := by unfold lx; rw [if_pos (List.all_eq_true.2 h2)]
  unfold lexW
  rw [h, this]
  simp
  omega
theorem wds_len : ∀ (n : Nat) (s : List UInt8), s.length < n → (wds s).length ≤ s.length
  | 0, s, h => by omega
  | n + 1, s, h => by
    cases hd : s.dropWhile gp with
    | nil => rw [wds_stop (.inl hd)]; simp
    | cons c t =>
      by_cases h35 : c = 35
      · subst h35
        rw [wds_stop (.inr ⟨t, hd⟩)]; simp
      · have hl := dropWhile_len gp s
        rw [hd] at hl
        simp at hl
        cases hw : wd false [] (c :: t) with
        | none => rw [wds_none hd h35 hw]; simp; omega
        | some p =>
          obtain ⟨w, r⟩ := p
          obtain ⟨e1, e2⟩ := wds_some hd h35 hw
          have := wds_len n r (by omega)
          rw [e1]
          simp
          omega
theorem lw_res (tmps : Array Value) (W : World) (b b' : Nat) (v1 v2 : Value) (hp : tmps[2]?.getD undef = .pointer (some ⟨b, 0, none⟩)) (hq : tmps[3]?.getD undef = .pointer (some ⟨b', 0, none⟩)) (c1 : W.cell? ⟨b, 0, none⟩ = some v1) (c2 : W.cell? ⟨b', 0, none⟩ = some v2) :
    (results Tryd.f7 tmps).run Tryd.prog W = .ok (.tuple #[v1, v2]) W := by
  simp [results, Tryd.f7, go_sem, hp, hq, c1, c2]
theorem below_put {n₀ : Nat} {w V : World} (h : Below n₀ w V) {k : Nat} (hk : n₀ ≤ k) (o : Obj) : Below n₀ w (V.putObj k o) :=
  h.trans ⟨rfl, rfl, rfl, by simp [World.putObj], fun j hj => World.putObj_heap_other (by omega)⟩
set_option maxRecDepth 100000 in
set_option maxHeartbeats 4000000 in
theorem lwords_any (l : List UInt8) (w : World) (hl : l.length ≤ 1000) (hB : Big w) :
    Calls Tryd.prog 7 #[.string ⟨l.toArray⟩] w fun e w' => ∃ v, e = .returned (.tuple #[v, .int .i64 (lexW l).1]) ∧ SL w.heap.size w' v (lexW l).2 ∧ Below w.heap.size w w' := by
  have HL := Lib.hid hl
  have HBg := Lib.hid hB
  clear hl hB
  refine (callsIn_wide (n := 9)).1 ?_
  refine callsIn_of_wp_marks Tryd.func7 rfl trivial ?_ rfl
  simp only [Tryd.ntmps7, List.size_toArray, List.length_cons, List.length_nil, Nat.reduceAdd, Nat.reduceSub, Array.replicate_succ, Array.replicate_zero, List.push_toArray, List.append_toArray, List.nil_append, List.cons_append]
  refine wpIn_wide.2 ?_
  go_wp2_with fail
  try go_step3
  generalize hW0 : (w.alloc (.cells #[.slice none 0 0] 23)).alloc (.cells #[.int .i64 0] 24) = W0
  have k0 : W0.heap[w.heap.size]? = some (boxV (.slice none 0 0)) := by
    rw [← hW0]
    exact (Below.heap_alloc _ _ _ (by simp only [World.size_alloc]; omega)).trans (heap_alloc_new w _)
  have k1 : W0.heap[w.heap.size + 1]? = some (boxE 0) := by
    rw [← hW0]
    have := heap_alloc_new (w.alloc (.cells #[.slice none 0 0] 23)) (boxE 0)
    simpa using this
  have b0 : Below w.heap.size w W0 := by
    rw [← hW0]
    exact ((Below.refl _ _).alloc (Nat.le_refl _) _).alloc (by simp only [World.size_alloc]; omega) _
  have s0 : W0.heap.size = w.heap.size + 2 := by rw [← hW0]; simp
  clear hW0
  go_wp2_with fail
  refine (none_any l _ HL.out).mono ?_
  rintro e W1 ⟨rfl, hb1⟩
  have K0 := Lib.hid ((hb1.block w.heap.size (by omega)).trans k0)
  have K1 := Lib.hid ((hb1.block (w.heap.size + 1) (by omega)).trans k1)
  have HB1 := Lib.hid (b0.trans (hb1.mono (by omega)))
  have HG1 := Lib.hid ((HBg.out.heap (b0.block _ HBg.out.lt)).heap (hb1.block _ (by have := HBg.out.lt; have : gm < w.heap.size := this; omega)))
  have s1 : w.heap.size + 2 ≤ W1.heap.size := by have := hb1.size; omega
  clear k0 k1 b0 hb1
  cases ha : l.any nob with
  | true =>
    have EV := Lib.hid (lexW_any ha)
    have c0 := cell_of_row W1 _ 0 _ _ _ K0.out
    have c1 := cell_of_row W1 _ 0 _ _ _ K1.out
    have f0 := frozen_of_row W1 w.heap.size 0 _ _ K0.out
    have f1 := frozen_of_row W1 (w.heap.size + 1) 0 _ _ K1.out
    clear ha
    go_wp2_with fail
    have d0 : ((W1.setCell ⟨w.heap.size, 0, none⟩ (.slice none 0 0)).setCell ⟨w.heap.size + 1, 0, none⟩ (.int .i64 12)).heap[w.heap.size]? = some (boxV (.slice none 0 0)) :=
      (heap_setCell_other _ _ _ _ (by simp only; omega)).trans (heap_setCell_same W1 _ 0 _ _ (.slice none 0 0) K0.out)
    have d1 : ((W1.setCell ⟨w.heap.size, 0, none⟩ (.slice none 0 0)).setCell ⟨w.heap.size + 1, 0, none⟩ (.int .i64 12)).heap[w.heap.size + 1]? = some (boxE 12) :=
      heap_setCell_same _ _ 0 _ _ (.int .i64 12) ((heap_setCell_other _ _ _ _ (by simp only; omega)).trans K1.out)
    refine ⟨_, lw_res _ _ w.heap.size (w.heap.size + 1) _ _ rfl rfl (cell_of_row _ _ 0 _ _ _ d0) (cell_of_row _ _ 0 _ _ _ d1), ?_⟩
    exact ⟨_, by rw [EV.out]; rfl, by rw [EV.out]; exact SL.nil _ _, (HB1.out.setCell (by simp only; omega) _).setCell (by simp only; omega) _⟩
  | false =>
    have HA := Lib.hid ha
    clear ha
    go_wp2_with fail
    refine (words_any l _).mono ?_
    rintro e W4 ⟨rfl, hW4⟩
    simp only [World.size_alloc]
    obtain ⟨S, hS⟩ : ∃ S, W1.heap.size = S := ⟨_, rfl⟩
    have b4 : Below W1.heap.size W1 W4 := by
      rw [hW4]
      exact ((Below.refl _ _).alloc (Nat.le_refl _) _).alloc (by simp only [World.size_alloc]; omega) _
    have k2 : W4.heap[S]? = some (boxV (.slice none 0 0)) := by
      rw [hW4, ← hS, Below.heap_alloc _ _ _ (by simp only [World.size_alloc]; omega)]
      exact heap_alloc_new W1 _
    have k3 : W4.heap[S + 1]? = some (boxS l) := by
      rw [hW4, ← hS]
      have := heap_alloc_new (W1.alloc (boxV (.slice none 0 0))) (boxS l)
      simpa using this
    have s4 : W4.heap.size = S + 2 := by rw [hW4, ← hS]; simp
    have k0 := (b4.block w.heap.size (by omega)).trans K0.out
    have k1 := (b4.block (w.heap.size + 1) (by omega)).trans K1.out
    have bg := HB1.out.trans (b4.mono (by omega))
    have g4 : Big W4 := HG1.out.below b4
    rw [hS] at s1 ⊢
    clear hW4 hS b4
    go_wp2_with fail
    refine (wpIn_wide (n := 9)).1 ?_
    refine wpIn_rangeFunc_dirt (n := 9) rfl (by decide) (gf := wordsIt) (lb := #[.pointer (some ⟨S + 1, 0, none⟩)]) rfl trivial enters_words
      (words_stops (9 - 1) (S + 1) l HL.out W4 (by have := HBg.out.lt; have : gm < w.heap.size := this; omega) k3 g4 (W4.heap.size + 2))
      (by omega) (by omega) keptW_t
      (fun V l ob ob' hle hlt h2 h3 h4 => ⟨World.putObj_heap_other (by omega), World.putObj_heap_other (by have := HBg.out.lt; have : gm < w.heap.size := this; omega)⟩) (Below.refl _ _) (fun _ => rfl)
      (fun pre V => (∀ x ∈ pre, x.2 = true) ∧ (∃ v, V.heap[S]? = some (boxV v) ∧ OwnS V (W4.heap.size + 2) v (fsts pre)) ∧ V.heap[w.heap.size]? = some (boxV (.slice none 0 0)) ∧ V.heap[w.heap.size + 1]? = some (boxE 0) ∧ W4.heap.size ≤ V.heap.size ∧ Below w.heap.size w V)
      (fun c pre V => c = .ret ∧ (∃ x ∈ pre, x.2 = false) ∧ V.heap[w.heap.size]? = some (boxV (.slice none 0 0)) ∧ V.heap[w.heap.size + 1]? = some (boxE 12) ∧ W4.heap.size ≤ V.heap.size ∧ Below w.heap.size w V)
      (fun t A B h hd => ⟨h.1, h.2.1.elim fun v hv => ⟨v, hd.heap hv.1 (by omega), hv.2.dirt hd (fun k hk => by omega)⟩, hd.heap h.2.2.1 (by omega), hd.heap h.2.2.2.1 (by omega), Nat.le_trans h.2.2.2.2.1 hd.size, hd.below h.2.2.2.2.2 (fun k hk => by omega) (by have := h.2.2.2.2.1; omega)⟩)
      (fun c t A B h hd => ⟨h.1, h.2.1, hd.heap h.2.2.1 (by omega), hd.heap h.2.2.2.1 (by omega), Nat.le_trans h.2.2.2.2.1 hd.size, hd.below h.2.2.2.2.2 (fun k hk => by omega) (by have := h.2.2.2.2.1; omega)⟩)
      ⟨fun x h => absurd h (by simp), ⟨_, k2, World.ownsRow_nil _ _ _ _⟩, k0, k1, Nat.le_refl _, bg⟩
      ?a1
      (fun pre x V => (∀ x ∈ pre, x.2 = true) ∧ pre.length ≤ 1000 ∧ (wds l)[pre.length]? = some x ∧ W4.heap.size + 2 ≤ V.heap.size ∧ (∃ v, V.heap[S]? = some (boxV v) ∧ OwnS V (W4.heap.size + 2) v (fsts pre)) ∧ V.heap[w.heap.size]? = some (boxV (.slice none 0 0)) ∧ V.heap[w.heap.size + 1]? = some (boxE 0) ∧ Below w.heap.size w V)
      (fun pre x A B h hd => ⟨h.1, h.2.1, h.2.2.1, Nat.le_trans h.2.2.2.1 hd.size, h.2.2.2.2.1.elim fun v hv => ⟨v, hd.heap hv.1 (by omega), hv.2.dirt hd (fun k hk => by omega)⟩, hd.heap h.2.2.2.2.2.1 (by omega), hd.heap h.2.2.2.2.2.2.1 (by omega), hd.below h.2.2.2.2.2.2.2 (fun k hk => by omega) (by have := h.2.2.2.1; omega)⟩)
      ?assign ?body ?done ?stop
    case assign =>
      rintro l' pre x V K hI hlen hpx hsz hK
      have HI := Lib.hid hI
      have HK := Lib.hid hK
      have HX := Lib.hid hpx
      clear hI hK hpx
      gi_wp2
      exact HK.out _ (KF.refl _ _) ⟨rfl, rfl⟩ ⟨HI.out.1, by have := wds_len (l.length + 1) l (by omega); have := HL.out; omega, HX.out, hsz, HI.out.2.1, HI.out.2.2.1, HI.out.2.2.2.1, HI.out.2.2.2.2.2⟩
    case done =>
      rintro V ys hys ⟨hok, ⟨v, hv, hO⟩, hr0, hr1, hsz, hbn⟩ hK
      subst hys
      have HO := Lib.hid hO
      obtain ⟨ad, cap, rfl, _⟩ := hO.sl
      have cs : V.cell? ⟨S, 0, none⟩ = some (.slice ad (fsts (wds l)).length cap) := cell_of_row V _ 0 _ _ _ hv
      have c0 := cell_of_row V _ 0 _ _ _ hr0
      have c1 := cell_of_row V _ 0 _ _ _ hr1
      have f0 := frozen_of_row V w.heap.size 0 _ _ hr0
      have f1 := frozen_of_row V (w.heap.size + 1) 0 _ _ hr1
      have R0 := Lib.hid hr0
      have R1 := Lib.hid hr1
      have HBn := Lib.hid hbn
      have HOk := Lib.hid hok
      have HK := Lib.hid hK
      have HVl := Lib.hid (show V.heap[W4.heap.size]? = some (.deferred (some [])) from hK)
      have hnl : (fsts (wds l)).length = (wds l).length := by simp
      rw [hnl] at cs HO
      have hle := wds_len (l.length + 1) l (by omega)
      have hl1 := HL.out
      obtain ⟨N, hN⟩ : ∃ N, (wds l).length = N := ⟨_, rfl⟩
      have HN := Lib.hid hN
      rw [hN] at cs HO hle
      clear hO hv hr0 hr1 hbn hok hK hnl hN k0 k1 k2 k3 bg g4
      by_cases hm : 32 < N
      · have EV := Lib.hid (lexW_many HA.out HOk.out (by rw [HN.out]; exact hm))
        have hm2 : 32 < (N : Int) := by omega
        clear hm
        go_wp2_with fail
        have d0 : (((V.setCell ⟨w.heap.size, 0, none⟩ (.slice none 0 0)).setCell ⟨w.heap.size + 1, 0, none⟩ (.int .i64 14)).putObj W4.heap.size (.deferred none)).heap[w.heap.size]? = some (boxV (.slice none 0 0)) :=
          (World.putObj_heap_other (by omega)).trans ((heap_setCell_other _ _ _ _ (by simp only; omega)).trans (heap_setCell_same V _ 0 _ _ (.slice none 0 0) R0.out))
        have d1 : (((V.setCell ⟨w.heap.size, 0, none⟩ (.slice none 0 0)).setCell ⟨w.heap.size + 1, 0, none⟩ (.int .i64 14)).putObj W4.heap.size (.deferred none)).heap[w.heap.size + 1]? = some (boxE 14) :=
          (World.putObj_heap_other (by omega)).trans (heap_setCell_same _ _ 0 _ _ (.int .i64 14) ((heap_setCell_other _ _ _ _ (by simp only; omega)).trans R1.out))
        have hK9 : ((V.setCell ⟨w.heap.size, 0, none⟩ (.slice none 0 0)).setCell ⟨w.heap.size + 1, 0, none⟩ (.int .i64 14)).heap[W4.heap.size]? = some (.deferred (some [])) :=
          (heap_setCell_other _ _ _ _ (by simp only; omega)).trans ((heap_setCell_other _ _ _ _ (by simp only; omega)).trans HVl.out)
        refine ⟨by simp, .inl ⟨_, _, rfl, run_takeDeferred hK9, ?_⟩⟩
        refine ⟨_, lw_res _ _ w.heap.size (w.heap.size + 1) _ _ rfl rfl (cell_of_row _ _ 0 _ _ _ d0) (cell_of_row _ _ 0 _ _ _ d1), ?_⟩
        exact ⟨_, by rw [EV.out]; rfl, by rw [EV.out]; exact SL.nil _ _, below_put ((HBn.out.setCell (by simp only; omega) _).setCell (by simp only; omega) _) (by omega) _⟩
      · have EV := Lib.hid (lexW_ok HA.out HOk.out (by rw [HN.out]; omega))
        have hm2 : (N : Int) ≤ 32 := by omega
        clear hm
        go_wp2_with fail
        have d0 : (((V.setCell ⟨w.heap.size, 0, none⟩ (.slice ad N cap)).setCell ⟨w.heap.size + 1, 0, none⟩ (.int .i64 0)).putObj W4.heap.size (.deferred none)).heap[w.heap.size]? = some (boxV (.slice ad N cap)) :=
          (World.putObj_heap_other (by omega)).trans ((heap_setCell_other _ _ _ _ (by simp only; omega)).trans (heap_setCell_same V _ 0 _ _ (.slice ad N cap) R0.out))
        have d1 : (((V.setCell ⟨w.heap.size, 0, none⟩ (.slice ad N cap)).setCell ⟨w.heap.size + 1, 0, none⟩ (.int .i64 0)).putObj W4.heap.size (.deferred none)).heap[w.heap.size + 1]? = some (boxE 0) :=
          (World.putObj_heap_other (by omega)).trans (heap_setCell_same _ _ 0 _ _ (.int .i64 0) ((heap_setCell_other _ _ _ _ (by simp only; omega)).trans R1.out))
        have hK9 : ((V.setCell ⟨w.heap.size, 0, none⟩ (.slice ad N cap)).setCell ⟨w.heap.size + 1, 0, none⟩ (.int .i64 0)).heap[W4.heap.size]? = some (.deferred (some [])) :=
          (heap_setCell_other _ _ _ _ (by simp only; omega)).trans ((heap_setCell_other _ _ _ _ (by simp only; omega)).trans HVl.out)
        refine ⟨by simp, .inl ⟨_, _, rfl, run_takeDeferred hK9, ?_⟩⟩
        refine ⟨_, lw_res _ _ w.heap.size (w.heap.size + 1) _ _ rfl rfl (cell_of_row _ _ 0 _ _ _ d0) (cell_of_row _ _ 0 _ _ _ d1), ?_⟩
        refine ⟨_, by rw [EV.out]; rfl, ?_, below_put ((HBn.out.setCell (by simp only; omega) _).setCell (by simp only; omega) _) (by omega) _⟩
        rw [EV.out]
        exact (((HO.out.sl).dirt (D := fun k => k < W4.heap.size + 2) (((Dirt.setCell _ _ _ (by show w.heap.size < _; omega)).trans (Dirt.setCell _ _ _ (by show w.heap.size + 1 < _; omega))).trans (Dirt.putObj _ _ _ (by show W4.heap.size < _; omega))) (fun k h => h)).mono (by omega))
    case stop =>
      rintro V c pre hpre ⟨rfl, ⟨x, hx, hnx⟩, hr0, hr1, hsz, hbn⟩ hK
      have EV := Lib.hid (lexW_open HA.out ⟨x, hpre.subset hx, hnx⟩)
      have d0 : (V.putObj W4.heap.size (.deferred none)).heap[w.heap.size]? = some (boxV (.slice none 0 0)) := (World.putObj_heap_other (by omega)).trans hr0
      have d1 : (V.putObj W4.heap.size (.deferred none)).heap[w.heap.size + 1]? = some (boxE 12) := (World.putObj_heap_other (by omega)).trans hr1
      have D0 := Lib.hid d0
      have D1 := Lib.hid d1
      have HK := Lib.hid hK
      have HBn := Lib.hid hbn
      clear d0 d1 hK hr0 hr1 hbn hx hnx hpre k0 k1 k2 k3 bg g4
      gi_wp2
      try go_wp2_with fail
      refine ⟨by simp, .inl ⟨_, _, rfl, run_takeDeferred HK.out, ?_⟩⟩
      refine ⟨_, lw_res _ _ w.heap.size (w.heap.size + 1) _ _ rfl rfl (cell_of_row _ _ 0 _ _ _ D0.out) (cell_of_row _ _ 0 _ _ _ D1.out), ?_⟩
      exact ⟨_, by rw [EV.out]; rfl, by rw [EV.out]; exact SL.nil _ _, below_put HBn.out (by omega) _⟩
    case body =>
      rintro l' pre ⟨x, b⟩ V ⟨hok, hpl, hpx, hsz, ⟨v, hv, hO⟩, hr0, hr1, hbn⟩ hlen
      have c0 := cell_of_row V _ 0 _ _ _ hr0
      have c1 := cell_of_row V _ 0 _ _ _ hr1
      have cs : V.cell? ⟨S, 0, none⟩ = some v := cell_of_row V _ 0 _ _ _ hv
      have f0 := frozen_of_row V w.heap.size 0 _ _ hr0
      have f1 := frozen_of_row V (w.heap.size + 1) 0 _ _ hr1
      have fs := frozen_of_row V S 0 _ _ hv
      have R0 := Lib.hid hr0
      have R1 := Lib.hid hr1
      have HBn := Lib.hid hbn
      have HOk := Lib.hid hok
      have HV := Lib.hid hv
      have HO := Lib.hid hO
      clear hr0 hr1 hbn hok hv hO hpx k0 k1 k2 k3 bg g4
      cases b with
      | false =>
        gi_wp2
        refine ⟨KF.of_others ((KeepsOthers.setCell _ _ _).trans (KeepsOthers.setCell _ _ _)), rfl, ⟨(x, false), by simp, rfl⟩, ?_, ?_, ?_, ?_⟩
        · exact (heap_setCell_other _ _ _ _ (by simp only; omega)).trans (heap_setCell_same V _ 0 _ _ (.slice none 0 0) R0.out)
        · exact heap_setCell_same _ _ 0 _ _ (.int .i64 12) ((heap_setCell_other _ _ _ _ (by simp only; omega)).trans R1.out)
        · simp only [World.size_setCell]; omega
        · exact (HBn.out.setCell (by simp only; omega) _).setCell (by simp only; omega) _
      | true =>
        have cn : (V.alloc (.cells #[.string ⟨x.toArray⟩] 9)).cell? ⟨V.heap.size, 0, none⟩ = some (.string ⟨x.toArray⟩) := World.cell?_alloc_mark V _ _ _ 0
        gi_wp2_with (gi_at_builtin; go_loud (refine wpListIn_append_str rfl _ _ rfl (W4.heap.size + 2) _ (fsts pre) x (by rfl) (World.ownsRow.alloc HO.out _) V.heap.size 1 (by rfl) cn (by rw [List.length_map]; omega) (by simp only [World.size_alloc]; omega) ?_))
        intro v' w' hown' hd'
        obtain ⟨ad', cap', hv', _⟩ := hown'.sl
        obtain ⟨n', hn'⟩ : ∃ n', (fsts pre ++ [x]).length = n' := ⟨_, rfl⟩
        rw [hn'] at hv'
        subst hv'
        clear hn'
        have hs' : w'.heap[S]? = some (boxV v) := (HO.out.low hd' (by omega) hsz).trans HV.out
        have cs' : w'.cell? ⟨S, 0, none⟩ = some v := cell_of_row w' _ 0 _ _ _ hs'
        have fs' := frozen_of_row w' S 0 _ _ hs'
        have HS' := Lib.hid hs'
        have HD' := Lib.hid hd'
        have HW' := Lib.hid hown'
        clear hs' hd' hown' cs fs c0 c1 f0 f1
        gi_wp2
        have hd' := HD'.out
        have hV := hd'.size
        simp only [World.size_alloc] at hV
        refine ⟨(HO.out.kf hd').trans (KF.of_others (KeepsOthers.setCell _ _ _)), ⟨?_, ?_⟩, ?_, ⟨.slice ad' n' cap', heap_setCell_same w' S 0 _ _ (.slice ad' n' cap') HS'.out, ?_⟩, ?_, ?_, ?_, ?_⟩
        · exact (heap_setCell_other _ _ _ _ (by simp only; omega)).trans (HO.out.low hd' (by omega) hsz)
        · have : gm < w.heap.size := HBg.out.lt
          exact (heap_setCell_other _ _ _ _ (by simp only; omega)).trans (HO.out.low hd' (by omega) hsz)
        · intro y hy
          rcases List.mem_append.1 hy with hy | hy
          · exact HOk.out y hy
          · obtain rfl : y = (x, true) := by simpa using hy
            rfl
        · have e : fsts (pre ++ [(x, true)]) = fsts pre ++ [x] := by simp
          rw [e]
          exact (show OwnS w' (W4.heap.size + 2) (.slice ad' n' cap') (fsts pre ++ [x]) by rw [s4]; exact HW'.out).dirt (D := (· = S)) (Dirt.setCell _ _ _ rfl) (fun k hk => by omega)
        · exact (heap_setCell_other _ _ _ _ (by simp only; omega)).trans ((HO.out.low hd' (by omega) hsz).trans R0.out)
        · exact (heap_setCell_other _ _ _ _ (by simp only; omega)).trans ((HO.out.low hd' (by omega) hsz).trans R1.out)
        · simp only [World.size_setCell]; omega
        · exact (HO.out.below hd' HBn.out (by omega) hsz).setCell (by simp only; omega) _
end Go.Proofs.YtdneodlboggcnaaDoor
