/-
  THE WALK of dayform.In where it goes through days.
-/
import Derived.Test.YtmkbfjklhejdnaaDoorIn
namespace Go.Proofs.YtmkbfjklhejdnaaDoor
open Go Go.RowKit CivM NumM
attribute [local go_sem] Oper.semAt_some
abbrev fromIt : Nat := 49
theorem enters_from (args : Array Value) (w : World) : (callFunc fromIt args).run Tryd.prog w = .ok (.enter fromIt args) w := enters_of Tryd.func49 (by kernel_rfl) rfl args w
/-- how many days on -/
def offD (D wk s : Int) : Int := if s = 1 then (wk - (D + 4)) % 7 else (D + 4 - wk) % 7
theorem offD_of {D wk s : Int} {j : Nat} (hs : s = 1 ∨ s = -1) (hj : j < 7) (h : (D + (j : Int) * s + 4) % 7 = wk) : D + (j : Int) * s = D + s * offD D wk s := by
  unfold offD
  rcases hs with rfl | rfl
  · rw [if_pos rfl]; omega
  · rw [if_neg (by decide)]; omega
theorem offD_ex {D wk s : Int} (hs : s = 1 ∨ s = -1) (h0 : 0 ≤ wk) (h1 : wk ≤ 6) : ∃ j : Nat, j < 7 ∧ (D + (j : Int) * s + 4) % 7 = wk := by
  rcases hs with rfl | rfl
  · exact ⟨((wk - (D + 4)) % 7).toNat, by omega, by omega⟩
  · exact ⟨((D + 4 - wk) % 7).toNat, by omega, by omega⟩
theorem others_below {A B : World} (h : Below A.heap.size A B) : KeepsOthers A B := ⟨h.size, fun k _ hk _ => (h.block k (Array.getElem?_eq_some_iff.1 hk).1).trans hk⟩
theorem ups_mem {D s : Int} {j k : Nat} (h : j < k) : D + (j : Int) * s ∈ ups D s k := List.mem_map.2 ⟨j, List.mem_range.2 h, rfl⟩
theorem own_row {W W' : World} {B k : Nat} {row : Option Nat} {v : Int} (h : W.heap[k]? = some (boxI v)) (hg : W.grownBy W' row) (hr : ∀ r, row = some r → B ≤ r ∧ ∃ o : Obj, W.heap[r]? = some o ∧ o.isCells = false) : W'.heap[k]? = some (boxI v) :=
  (hg.block k (Array.getElem?_eq_some_iff.1 h).1 (fun e => by
    obtain ⟨_, o, h1, h2⟩ := hr k e.symm
    rw [h] at h1
    cases h1
    cases h2)).trans h
open Classical in
/-- which date a day is -/
noncomputable def ofV (D : Int) : Value := if h : ∃ t : Int × Int × Int, Valid t.1 t.2.1 t.2.2 ∧ num t.1 t.2.1 t.2.2 = D then okD h.choose.1 h.choose.2.1 h.choose.2.2 else noD
theorem ofV_ok {y m d : Int} (h : Valid y m d) : ofV (num y m d) = okD y m d := by
  have he : ∃ t : Int × Int × Int, Valid t.1 t.2.1 t.2.2 ∧ num t.1 t.2.1 t.2.2 = num y m d := ⟨(y, m, d), h, rfl⟩
  unfold ofV
  rw [dif_pos he]
  obtain ⟨e1, e2, e3⟩ := num_inj he.choose_spec.1 h he.choose_spec.2
  rw [e1, e2, e3]
theorem ofV_no {D : Int} (h : ¬ (-37243778 ≤ D ∧ D ≤ 35805087)) : ofV D = noD := by
  unfold ofV
  rw [dif_neg]
  rintro ⟨t, hv, hn⟩
  exact h (hn ▸ num_bd hv)
set_option maxRecDepth 100000 in
set_option maxHeartbeats 4000000 in
theorem in_nogreater (wk n y m : Int) (w : World) (hA : Ahead w) (h : RightD 3 wk n) (hl : -100000 ≤ y ∧ y ≤ 100000 ∧ 1 ≤ m ∧ m ≤ 12) (hn : n ≤ dim y m) :
    Calls Tryd.prog 13 #[.agg #[.int .i64 3, .int .i64 wk, .int .i64 n], .int .i64 y, .int .i64 m] w fun e w' => e = .returned (ofV (num y m n + (-1) * offD (num y m n) wk (-1))) ∧ Below w.heap.size w w' := by
  obtain ⟨k, hk⟩ : ∃ k : Int, k = 3 := ⟨_, rfl⟩
  have hV : Valid y m n := by
    obtain ⟨l1, l2, l3, l4⟩ := hl
    refine ⟨l1, l2, l3, l4, ?_, hn⟩
    rcases h with h | h | h <;> omega
  have hwk : 0 ≤ wk ∧ wk ≤ 6 := by rcases h with h | h | h <;> omega
  rw [← hk] at h ⊢
  have HK0 := Lib.hid hk
  clear hk
  have HV := Lib.hid hV
  have HWk := Lib.hid hwk
  clear hV hwk
  have EC := Lib.hid (chkV_ok h)
  have HAw := Lib.hid hA
  have HL := Lib.hid hl
  clear h hA hl
  refine (callsIn_wide (n := 9)).1 ?_
  refine callsIn_of_wp_marks Tryd.func13 rfl trivial ?_ rfl
  simp only [Tryd.ntmps13, List.size_toArray, List.length_cons, List.length_nil, Nat.reduceAdd, Nat.reduceSub, Array.replicate_succ, Array.replicate_zero, List.push_toArray, List.append_toArray, List.nil_append, List.cons_append]
  refine wpIn_wide.2 ?_
  go_wp2_with fail
  go_step3
  have hA0 : Ahead ((w.alloc (.cells #[.int .i64 k, .int .i64 wk, .int .i64 n] 24)).alloc (.cells #[.int .i64 0, .int .i64 0, .int .i64 0] 31)) := HAw.out.below (((Below.refl _ _).alloc (Nat.le_refl _) _).alloc (by simp only [World.size_alloc]; omega) _)
  generalize hW0 : (w.alloc (.cells #[.int .i64 k, .int .i64 wk, .int .i64 n] 24)).alloc (.cells #[.int .i64 0, .int .i64 0, .int .i64 0] 31) = W0 at *
  have kD : DyB W0 w.heap.size k wk n := by
    rw [← hW0]
    exact (Below.heap_alloc _ _ _ (by simp only [World.size_alloc]; omega)).trans (DyB.new w k wk n)
  have kR : Dt W0 (w.heap.size + 1) 0 0 0 := by
    rw [← hW0]
    have := Dt.new (w.alloc (.cells #[.int .i64 k, .int .i64 wk, .int .i64 n] 24)) 0 0 0
    simpa using this
  have hB0 : Below w.heap.size w W0 := by
    rw [← hW0]
    exact ((Below.refl _ _).alloc (Nat.le_refl _) _).alloc (by simp only [World.size_alloc]; omega) _
  have s0 : W0.heap.size = w.heap.size + 2 := by rw [← hW0]; simp
  clear hW0
  obtain ⟨c0, c1, c2⟩ := kD.cells
  obtain ⟨r0, r1, r2⟩ := kR.cells
  have HD := Lib.hid kD
  have HR := Lib.hid kR
  have HB0 := Lib.hid hB0
  have HA0 := Lib.hid hA0
  clear kD kR hB0 hA0
  go_wp2_with fail
  refine (check_day k wk n _).mono ?_
  rintro e W1 ⟨rfl, b1⟩
  have c0' := (b1.cell (p := ⟨w.heap.size, 0, none⟩) (by simp only; omega)).trans c0
  have c1' := (b1.cell (p := ⟨w.heap.size, 1, none⟩) (by simp only; omega)).trans c1
  have c2' := (b1.cell (p := ⟨w.heap.size, 2, none⟩) (by simp only; omega)).trans c2
  have r0' := (b1.cell (p := ⟨w.heap.size + 1, 0, none⟩) (by simp only; omega)).trans r0
  have r1' := (b1.cell (p := ⟨w.heap.size + 1, 1, none⟩) (by simp only; omega)).trans r1
  have r2' := (b1.cell (p := ⟨w.heap.size + 1, 2, none⟩) (by simp only; omega)).trans r2
  have HD1 := Lib.hid (HD.out.below b1 (by omega))
  have HR1 := Lib.hid (HR.out.below b1 (by omega))
  have HA1 := Lib.hid (HA0.out.below b1)
  have HB1 := Lib.hid (HB0.out.trans (b1.mono (by omega)))
  have s1 : w.heap.size + 2 ≤ W1.heap.size := by have := b1.size; omega
  have f0 := HR1.out.free 0
  have f1 := HR1.out.free 1
  have f2 := HR1.out.free 2
  clear c0 c1 c2 r0 r1 r2 HD HR HA0 b1 HB0 s0
  rw [EC.out]
  go_wp2_with fail
  refine (long_ok y m _ HA1.out HL.out.1 HL.out.2.1 HL.out.2.2.1 HL.out.2.2.2).mono ?_
  rintro e W2 ⟨rfl, b1⟩
  have c0 := (b1.cell (p := ⟨w.heap.size, 0, none⟩) (by simp only; omega)).trans c0'
  have c1 := (b1.cell (p := ⟨w.heap.size, 1, none⟩) (by simp only; omega)).trans c1'
  have c2 := (b1.cell (p := ⟨w.heap.size, 2, none⟩) (by simp only; omega)).trans c2'
  have r0 := (b1.cell (p := ⟨w.heap.size + 1, 0, none⟩) (by simp only; omega)).trans r0'
  have r1 := (b1.cell (p := ⟨w.heap.size + 1, 1, none⟩) (by simp only; omega)).trans r1'
  have r2 := (b1.cell (p := ⟨w.heap.size + 1, 2, none⟩) (by simp only; omega)).trans r2'
  have HD2 := Lib.hid (HD1.out.below b1 (by omega))
  have HR2 := Lib.hid (HR1.out.below b1 (by omega))
  have HA2 := Lib.hid (HA1.out.below b1)
  have HB2 := Lib.hid (HB1.out.trans (b1.mono (by omega)))
  have s2 : w.heap.size + 2 ≤ W2.heap.size := by have := b1.size; omega
  clear f0 f1 f2
  have f0 := HR2.out.free 0
  have f1 := HR2.out.free 1
  have f2 := HR2.out.free 2
  clear c0' c1' c2' r0' r1' r2' HD1 HR1 HA1 b1 HB1 s1
  obtain ⟨L, hL⟩ : ∃ L, dim y m = L := ⟨_, rfl⟩
  have HLm := Lib.hid hL
  rw [hL] at hn ⊢
  clear hL
  have hk := HK0.out
  clear HK0
  subst hk
  go_wp2_with fail
  refine (days_ok y m n _ HA2.out HV.out).mono ?_
  rintro e W3 ⟨rfl, b3⟩
  have HDb := Lib.hid (num_bd HV.out)
  obtain ⟨D, hD⟩ : ∃ D, num y m n = D := ⟨_, rfl⟩
  rw [hD] at HDb ⊢
  have HDe := Lib.hid hD
  have HD3 := Lib.hid (HD2.out.below b3 (by omega))
  have HR3 := Lib.hid (HR2.out.below b3 (by omega))
  have HB3 := Lib.hid (HB2.out.trans (b3.mono (by omega)))
  have s3 : w.heap.size + 2 ≤ W3.heap.size := by have := b3.size; omega
  clear hD c0 c1 c2 r0 r1 r2 f0 f1 f2 HD2 HR2 HB2 s2 b3
  go_wp2_with fail
  go_step3
  go_wp2_with fail
  refine (from_any D ((-1)) _).mono ?_
  rintro e W5 ⟨rfl, hW5⟩
  simp only [World.size_alloc]
  have k0 : W5.heap[W3.heap.size]? = some (boxI D) := by
    rw [hW5, Below.heap_alloc _ _ _ (by simp only [World.size_alloc]; omega), Below.heap_alloc _ _ _ (by simp only [World.size_alloc]; omega)]
    exact heap_alloc_new W3 _
  have k1 : W5.heap[W3.heap.size + 1]? = some (boxI D) := by
    rw [hW5, Below.heap_alloc _ _ _ (by simp only [World.size_alloc]; omega)]
    have := heap_alloc_new (W3.alloc (boxI D)) (boxI D)
    simpa using this
  have k2 : W5.heap[W3.heap.size + 1 + 1]? = some (boxI ((-1))) := by
    rw [hW5]
    have := heap_alloc_new ((W3.alloc (boxI D)).alloc (boxI D)) (boxI ((-1)))
    simpa using this
  have b5 : Below W3.heap.size W3 W5 := by
    rw [hW5]
    exact (((Below.refl _ _).alloc (Nat.le_refl _) _).alloc (by simp only [World.size_alloc]; omega) _).alloc (by simp only [World.size_alloc]; omega) _
  have s5 : W5.heap.size = W3.heap.size + 3 := by rw [hW5]; simp
  clear hW5
  have HD5 := Lib.hid (HD3.out.below b5 (by omega))
  have HR5 := Lib.hid (HR3.out.below b5 (by omega))
  have HA5 := Lib.hid (HAw.out.below (HB3.out.trans (b5.mono (by omega))))
  have HB5 := Lib.hid (HB3.out.trans (b5.mono (by omega)))
  clear HD3 HR3 HB3 b5
  go_wp2_with fail
  have hDb := HDb.out
  have mixed : Tryd.prog.follows .mixedOrders = true := by kernel_rfl
  have hwk := HWk.out
  refine (wpIn_wide (n := 9)).1 ?_
  refine wpIn_rangeFunc_boxA (n := 9) rfl (by decide) (gf := fromIt) (lb := #[.pointer (some ⟨W3.heap.size + 1, 0, none⟩), .pointer (some ⟨W3.heap.size + 1 + 1, 0, none⟩)]) rfl trivial enters_from
    (from_stops (9 - 1) (W3.heap.size + 1) (W3.heap.size + 1 + 1) D ((-1)) ⟨by omega, by omega⟩ ⟨by omega, by omega⟩ (by omega) W5 k1 k2)
    (by omega) keptB_t
    (fun W l ob ob' hle h1 h2 h3 => ⟨World.putObj_heap_other (by omega), World.putObj_heap_other (by omega)⟩) (Below.refl _ _) (fun _ => rfl)
    (fun pre W => ((∀ x ∈ pre, ¬ (x + 4) % 7 = wk) ∧ ∃ v, W.heap[W3.heap.size]? = some (boxI v)) ∧ Below W3.heap.size W5 W)
    (fun c pre W => (c = .exit 1 ∧ ∃ (x : Int) (j : Nat), j < 7 ∧ x = D + (j : Int) * ((-1)) ∧ (x + 4) % 7 = wk ∧ W.heap[W3.heap.size]? = some (boxI x)) ∧ Below W3.heap.size W5 W)
    (OwnFrom.and (fun s A B row hs hg hr => ⟨hs.1, hs.2.elim fun v hv => ⟨v, own_row hv hg hr⟩⟩) (ownFrom_below (by omega) (by omega)))
    (fun c => OwnFrom.and (fun s A B row hs hg hr => ⟨hs.1, hs.2.elim fun x hx => hx.elim fun j hj => ⟨x, j, hj.1, hj.2.1, hj.2.2.1, own_row hj.2.2.2 hg hr⟩⟩) (ownFrom_below (by omega) (by omega)))
    (fun s A B h hg => ⟨⟨h.1.1, h.1.2.elim fun v hv => ⟨v, grown_far hg hv (by omega)⟩⟩, h.2.grown hg (by have := h.2.size; omega) (fun k e => by cases e; omega)⟩)
    (fun c s A B h hg => ⟨⟨h.1.1, h.1.2.elim fun x hx => hx.elim fun j hj => ⟨x, j, hj.1, hj.2.1, hj.2.2.1, grown_far hg hj.2.2.2 (by omega)⟩⟩, h.2.grown hg (by have := h.2.size; omega) (fun k e => by cases e; omega)⟩)
    ⟨⟨fun x h => absurd h (by simp), D, k0⟩, Below.refl _ _⟩
    ?a1
    (fun pre x W => ((∀ z ∈ pre, ¬ (z + 4) % 7 = wk) ∧ W.heap[W3.heap.size]? = some (boxI x)) ∧ Below W3.heap.size W5 W)
    (fun pre => OwnFrom.and (fun s A B row hs hg hr => ⟨hs.1, own_row hs.2 hg hr⟩) (ownFrom_below (by omega) (by omega)))
    ?assign ?body ?done ?stop
  case assign =>
    rintro l' pre x W K ⟨⟨hp, v, hv⟩, hB⟩ hlen hpx hK
    have cv := cell_of_row W W3.heap.size 0 _ _ _ hv
    have fv := frozen_of_row W W3.heap.size 0 _ _ hv
    have HP := Lib.hid hp
    have HPx := Lib.hid hpx
    have HK := Lib.hid hK
    clear hp hpx hK
    gi_wp2
    exact HK.out _ (KeepsOthers.setCell _ _ _) ⟨heap_setCell_other _ _ _ _ (by simp only; omega), heap_setCell_other _ _ _ _ (by simp only; omega)⟩ ⟨⟨HP.out, heap_setCell_same W W3.heap.size 0 _ _ _ hv⟩, hB.setCell (Nat.le_refl _) _⟩
  case done =>
    rintro D' ys W hD hys ⟨⟨hp, _⟩, hB⟩ hK
    obtain ⟨j, hj, hm⟩ := offD_ex (D := D) (s := (-1)) (by decide) hwk.1 hwk.2
    exact absurd hm (hp _ (hys ▸ ups_mem hj))
  case body =>
    rintro l' pre x W ⟨⟨hp, hv⟩, hB⟩ hlen hpx
    have hv0 : W.cell? ⟨W3.heap.size, 0, none⟩ = some (.int .i64 x) := cell_of_row W W3.heap.size 0 _ _ _ hv
    have hd1 := (HD5.out.below hB (by omega)).cells.2.1
    have hfx : Fits x := by unfold Fits; omega
    have hWs : W3.heap.size + 3 ≤ W.heap.size := by have := hB.size; omega
    have bF := bw_cell hv0
    have bD := bw_cell hd1
    have hne : Nonempty (BW W) := bw_ne W
    have HB := Lib.hid hB
    have HP := Lib.hid hp
    have HPx := Lib.hid hpx
    have HVv := Lib.hid hv
    have HFx := Lib.hid hfx
    clear hv hp hpx hfx hB
    gi_wp2
    have SH := Lib.hid (fun (v : BW W) => CallsIn.inRound l' ((callsIn_wide (n := 6)).2 (calls_bw_same (weekday_any x v.1 HFx.out))))
    refine region_round_bw (l0 := l') rfl mixed (by kernel_rfl) (by kernel_rfl) ?_
    repeat (gi_big_quiet_want; gi_big_quiet_op; go_big_quiet_on)
    refine BigFrame.wpQuietIn_want (fun _ _ _ _ => trivial) rfl ?_
    intro K hK
    gi_big_quiet_op
    refine ⟨_, fun v => SH.out v, ?_⟩
    go_big_quiet_on
    repeat (gi_big_quiet_want; gi_big_quiet_op; go_big_quiet_on)
    refine wpQuietIn_nil ?_
    rintro W7 ⟨v7, e7⟩
    have hb7 := v7.2
    rw [← e7] at hb7
    have HB7 := Lib.hid hb7
    clear e7 v7 bF bD hne hv0 hd1 hb7
    by_cases hx : (x + 4) % 7 = wk
    · have q : ((x + 4) % 7 == wk) = true := by simpa using hx
      have HX := Lib.hid hx
      clear hx
      gi_wp2
      have hb7 := HB7.out
      exact ⟨others_below hb7, ⟨rfl, x, pre.length, hlen, HPx.out, HX.out, (hb7.block W3.heap.size (by omega)).trans HVv.out⟩, HB.out.trans (hb7.mono (by omega))⟩
    · have q : ((x + 4) % 7 == wk) = false := by simpa using hx
      have HX := Lib.hid hx
      clear hx
      gi_wp2
      have hb7 := HB7.out
      refine ⟨others_below hb7, ⟨hb7.block _ (by omega), hb7.block _ (by omega)⟩, ⟨fun z hz => ?_, x, (hb7.block W3.heap.size (by omega)).trans HVv.out⟩, HB.out.trans (hb7.mono (by omega))⟩
      rcases List.mem_append.1 hz with hz | hz
      · exact HP.out z hz
      · have hz2 : z = x := by simpa using hz
        rw [hz2]
        exact HX.out
  case stop =>
    rintro D' c pre W hD hpre ⟨⟨rfl, x, j, hj, hx, hm, hv⟩, hB⟩ hK
    have cv : W.cell? ⟨W3.heap.size, 0, none⟩ = some (.int .i64 x) := cell_of_row W W3.heap.size 0 _ _ _ hv
    have hex := hx.trans (offD_of (s := (-1)) (wk := wk) (by decide) hj (by rw [← hx]; exact hm))
    have HEx := Lib.hid hex
    have hfx : Fits x := by unfold Fits; omega
    have HFx := Lib.hid hfx
    have hWs : W3.heap.size + 3 ≤ W.heap.size := by have := hB.size; omega
    have HRW := Lib.hid (HR5.out.below hB (by omega))
    have HBW := Lib.hid (HB5.out.trans (hB.mono (by omega)))
    have HAW := Lib.hid (HAw.out.below HBW.out)
    have HK := Lib.hid hK
    have hWD : D' < W.heap.size := (Array.getElem?_eq_some_iff.1 hK).1
    clear hx hex hm hpre hv hB hK k0 k1 k2
    by_cases hr : -37243778 ≤ x ∧ x ≤ 35805087
    · obtain ⟨y2, m2, d2, hv2, hn2⟩ := date_ex x hr
      have EV := Lib.hid (show ofV x = okD y2 m2 d2 by rw [← hn2]; exact ofV_ok hv2)
      have SO := Lib.hid (hn2 ▸ of_ok y2 m2 d2 W HAW.out hv2)
      clear hn2 hv2 hr
      gi_wp2
      go_wp2_with fail
      refine SO.out.mono ?_
      rintro e W8 ⟨rfl, b8⟩
      have s8 := b8.size
      have HR8 := Lib.hid (HRW.out.below b8 (by omega))
      have HB8 := Lib.hid (HBW.out.trans (b8.mono (by omega)))
      obtain ⟨r0, r1, r2⟩ := HR8.out.cells
      have f0 := HR8.out.free 0
      have f1 := HR8.out.free 1
      have f2 := HR8.out.free 2
      have HK8 := Lib.hid ((b8.block D' hWD).trans HK.out)
      clear cv b8
      go_wp2_with fail
      rw [Exit.noGoto_ret]
      have hK9 := (heap_setCell_other _ ⟨w.heap.size + 1, 2, none⟩ D' ((fun (i : Nat) => Value.int .i64 (if i = 0 then y2 else if i = 1 then m2 else d2)) 2) (by simp only; omega)).trans ((heap_setCell_other _ ⟨w.heap.size + 1, 1, none⟩ D' ((fun (i : Nat) => Value.int .i64 (if i = 0 then y2 else if i = 1 then m2 else d2)) 1) (by simp only; omega)).trans ((heap_setCell_other W8 ⟨w.heap.size + 1, 0, none⟩ D' ((fun (i : Nat) => Value.int .i64 (if i = 0 then y2 else if i = 1 then m2 else d2)) 0) (by simp only; omega)).trans HK8.out))
      refine ⟨by simp, .inl ⟨_, _, rfl, run_takeDeferred hK9, ?_⟩⟩
      refine ⟨_, res_row_tmp (B := w.heap.size + 1) _ rfl rfl ((World.putObj_heap_other (by omega)).trans (((HR8.out.set0 _).set1 _).set2 _)) Tryd.underlying31 rfl szD, ?_, ?_⟩
      · first | rw [HDe.out, ← HEx.out, EV.out] | rw [HLm.out, HDe.out, ← HEx.out, EV.out]
        rfl
      · exact (((HB8.out.setCell (by simp only; omega) _).setCell (by simp only; omega) _).setCell (by simp only; omega) _).trans (belowK_b (w := w) (Nat.le_refl _) _ D' _ _ (by omega) hK9 rfl rfl)
    · have EV := Lib.hid (ofV_no hr)
      have SO := Lib.hid (of_no x W HFx.out hr)
      clear hr
      gi_wp2
      go_wp2_with fail
      refine SO.out.mono ?_
      rintro e W8 ⟨rfl, b8⟩
      have s8 := b8.size
      have HR8 := Lib.hid (HRW.out.below b8 (by omega))
      have HB8 := Lib.hid (HBW.out.trans (b8.mono (by omega)))
      obtain ⟨r0, r1, r2⟩ := HR8.out.cells
      have f0 := HR8.out.free 0
      have f1 := HR8.out.free 1
      have f2 := HR8.out.free 2
      have HK8 := Lib.hid ((b8.block D' hWD).trans HK.out)
      clear cv b8
      go_wp2_with fail
      rw [Exit.noGoto_ret]
      have hK9 := (heap_setCell_other _ ⟨w.heap.size + 1, 2, none⟩ D' ((fun (i : Nat) => Value.int .i64 0) 2) (by simp only; omega)).trans ((heap_setCell_other _ ⟨w.heap.size + 1, 1, none⟩ D' ((fun (i : Nat) => Value.int .i64 0) 1) (by simp only; omega)).trans ((heap_setCell_other W8 ⟨w.heap.size + 1, 0, none⟩ D' ((fun (i : Nat) => Value.int .i64 0) 0) (by simp only; omega)).trans HK8.out))
      refine ⟨by simp, .inl ⟨_, _, rfl, run_takeDeferred hK9, ?_⟩⟩
      refine ⟨_, res_row_tmp (B := w.heap.size + 1) _ rfl rfl ((World.putObj_heap_other (by omega)).trans (((HR8.out.set0 _).set1 _).set2 _)) Tryd.underlying31 rfl szD, ?_, ?_⟩
      · first | rw [HDe.out, ← HEx.out, EV.out] | rw [HLm.out, HDe.out, ← HEx.out, EV.out]
        rfl
      · exact (((HB8.out.setCell (by simp only; omega) _).setCell (by simp only; omega) _).setCell (by simp only; omega) _).trans (belowK_b (w := w) (Nat.le_refl _) _ D' _ _ (by omega) hK9 rfl rfl)
set_option maxRecDepth 100000 in
set_option maxHeartbeats 4000000 in
theorem in_noless (wk n y m : Int) (w : World) (hA : Ahead w) (h : RightD 2 wk n) (hl : -100000 ≤ y ∧ y ≤ 100000 ∧ 1 ≤ m ∧ m ≤ 12) (hn : n ≤ dim y m) :
    Calls Tryd.prog 13 #[.agg #[.int .i64 2, .int .i64 wk, .int .i64 n], .int .i64 y, .int .i64 m] w fun e w' => e = .returned (ofV (num y m n + 1 * offD (num y m n) wk 1)) ∧ Below w.heap.size w w' := by
  obtain ⟨k, hk⟩ : ∃ k : Int, k = 2 := ⟨_, rfl⟩
  have hV : Valid y m n := by
    obtain ⟨l1, l2, l3, l4⟩ := hl
    refine ⟨l1, l2, l3, l4, ?_, hn⟩
    rcases h with h | h | h <;> omega
  have hwk : 0 ≤ wk ∧ wk ≤ 6 := by rcases h with h | h | h <;> omega
  rw [← hk] at h ⊢
  have HK0 := Lib.hid hk
  clear hk
  have HV := Lib.hid hV
  have HWk := Lib.hid hwk
  clear hV hwk
  have EC := Lib.hid (chkV_ok h)
  have HAw := Lib.hid hA
  have HL := Lib.hid hl
  clear h hA hl
  refine (callsIn_wide (n := 9)).1 ?_
  refine callsIn_of_wp_marks Tryd.func13 rfl trivial ?_ rfl
  simp only [Tryd.ntmps13, List.size_toArray, List.length_cons, List.length_nil, Nat.reduceAdd, Nat.reduceSub, Array.replicate_succ, Array.replicate_zero, List.push_toArray, List.append_toArray, List.nil_append, List.cons_append]
  refine wpIn_wide.2 ?_
  go_wp2_with fail
  go_step3
  have hA0 : Ahead ((w.alloc (.cells #[.int .i64 k, .int .i64 wk, .int .i64 n] 24)).alloc (.cells #[.int .i64 0, .int .i64 0, .int .i64 0] 31)) := HAw.out.below (((Below.refl _ _).alloc (Nat.le_refl _) _).alloc (by simp only [World.size_alloc]; omega) _)
  generalize hW0 : (w.alloc (.cells #[.int .i64 k, .int .i64 wk, .int .i64 n] 24)).alloc (.cells #[.int .i64 0, .int .i64 0, .int .i64 0] 31) = W0 at *
  have kD : DyB W0 w.heap.size k wk n := by
    rw [← hW0]
    exact (Below.heap_alloc _ _ _ (by simp only [World.size_alloc]; omega)).trans (DyB.new w k wk n)
  have kR : Dt W0 (w.heap.size + 1) 0 0 0 := by
    rw [← hW0]
    have := Dt.new (w.alloc (.cells #[.int .i64 k, .int .i64 wk, .int .i64 n] 24)) 0 0 0
    simpa using this
  have hB0 : Below w.heap.size w W0 := by
    rw [← hW0]
    exact ((Below.refl _ _).alloc (Nat.le_refl _) _).alloc (by simp only [World.size_alloc]; omega) _
  have s0 : W0.heap.size = w.heap.size + 2 := by rw [← hW0]; simp
  clear hW0
  obtain ⟨c0, c1, c2⟩ := kD.cells
  obtain ⟨r0, r1, r2⟩ := kR.cells
  have HD := Lib.hid kD
  have HR := Lib.hid kR
  have HB0 := Lib.hid hB0
  have HA0 := Lib.hid hA0
  clear kD kR hB0 hA0
  go_wp2_with fail
  refine (check_day k wk n _).mono ?_
  rintro e W1 ⟨rfl, b1⟩
  have c0' := (b1.cell (p := ⟨w.heap.size, 0, none⟩) (by simp only; omega)).trans c0
  have c1' := (b1.cell (p := ⟨w.heap.size, 1, none⟩) (by simp only; omega)).trans c1
  have c2' := (b1.cell (p := ⟨w.heap.size, 2, none⟩) (by simp only; omega)).trans c2
  have r0' := (b1.cell (p := ⟨w.heap.size + 1, 0, none⟩) (by simp only; omega)).trans r0
  have r1' := (b1.cell (p := ⟨w.heap.size + 1, 1, none⟩) (by simp only; omega)).trans r1
  have r2' := (b1.cell (p := ⟨w.heap.size + 1, 2, none⟩) (by simp only; omega)).trans r2
  have HD1 := Lib.hid (HD.out.below b1 (by omega))
  have HR1 := Lib.hid (HR.out.below b1 (by omega))
  have HA1 := Lib.hid (HA0.out.below b1)
  have HB1 := Lib.hid (HB0.out.trans (b1.mono (by omega)))
  have s1 : w.heap.size + 2 ≤ W1.heap.size := by have := b1.size; omega
  have f0 := HR1.out.free 0
  have f1 := HR1.out.free 1
  have f2 := HR1.out.free 2
  clear c0 c1 c2 r0 r1 r2 HD HR HA0 b1 HB0 s0
  rw [EC.out]
  go_wp2_with fail
  refine (long_ok y m _ HA1.out HL.out.1 HL.out.2.1 HL.out.2.2.1 HL.out.2.2.2).mono ?_
  rintro e W2 ⟨rfl, b1⟩
  have c0 := (b1.cell (p := ⟨w.heap.size, 0, none⟩) (by simp only; omega)).trans c0'
  have c1 := (b1.cell (p := ⟨w.heap.size, 1, none⟩) (by simp only; omega)).trans c1'
  have c2 := (b1.cell (p := ⟨w.heap.size, 2, none⟩) (by simp only; omega)).trans c2'
  have r0 := (b1.cell (p := ⟨w.heap.size + 1, 0, none⟩) (by simp only; omega)).trans r0'
  have r1 := (b1.cell (p := ⟨w.heap.size + 1, 1, none⟩) (by simp only; omega)).trans r1'
  have r2 := (b1.cell (p := ⟨w.heap.size + 1, 2, none⟩) (by simp only; omega)).trans r2'
  have HD2 := Lib.hid (HD1.out.below b1 (by omega))
  have HR2 := Lib.hid (HR1.out.below b1 (by omega))
  have HA2 := Lib.hid (HA1.out.below b1)
  have HB2 := Lib.hid (HB1.out.trans (b1.mono (by omega)))
  have s2 : w.heap.size + 2 ≤ W2.heap.size := by have := b1.size; omega
  clear f0 f1 f2
  have f0 := HR2.out.free 0
  have f1 := HR2.out.free 1
  have f2 := HR2.out.free 2
  clear c0' c1' c2' r0' r1' r2' HD1 HR1 HA1 b1 HB1 s1
  obtain ⟨L, hL⟩ : ∃ L, dim y m = L := ⟨_, rfl⟩
  have HLm := Lib.hid hL
  rw [hL] at hn ⊢
  clear hL
  have hk := HK0.out
  clear HK0
  subst hk
  go_wp2_with fail
  refine (days_ok y m n _ HA2.out HV.out).mono ?_
  rintro e W3 ⟨rfl, b3⟩
  have HDb := Lib.hid (num_bd HV.out)
  obtain ⟨D, hD⟩ : ∃ D, num y m n = D := ⟨_, rfl⟩
  rw [hD] at HDb ⊢
  have HDe := Lib.hid hD
  have HD3 := Lib.hid (HD2.out.below b3 (by omega))
  have HR3 := Lib.hid (HR2.out.below b3 (by omega))
  have HB3 := Lib.hid (HB2.out.trans (b3.mono (by omega)))
  have s3 : w.heap.size + 2 ≤ W3.heap.size := by have := b3.size; omega
  clear hD c0 c1 c2 r0 r1 r2 f0 f1 f2 HD2 HR2 HB2 s2 b3
  go_wp2_with fail
  go_step3
  go_wp2_with fail
  refine (from_any D (1) _).mono ?_
  rintro e W5 ⟨rfl, hW5⟩
  simp only [World.size_alloc]
  have k0 : W5.heap[W3.heap.size]? = some (boxI D) := by
    rw [hW5, Below.heap_alloc _ _ _ (by simp only [World.size_alloc]; omega), Below.heap_alloc _ _ _ (by simp only [World.size_alloc]; omega)]
    exact heap_alloc_new W3 _
  have k1 : W5.heap[W3.heap.size + 1]? = some (boxI D) := by
    rw [hW5, Below.heap_alloc _ _ _ (by simp only [World.size_alloc]; omega)]
    have := heap_alloc_new (W3.alloc (boxI D)) (boxI D)
    simpa using this
  have k2 : W5.heap[W3.heap.size + 1 + 1]? = some (boxI (1)) := by
    rw [hW5]
    have := heap_alloc_new ((W3.alloc (boxI D)).alloc (boxI D)) (boxI (1))
    simpa using this
  have b5 : Below W3.heap.size W3 W5 := by
    rw [hW5]
    exact (((Below.refl _ _).alloc (Nat.le_refl _) _).alloc (by simp only [World.size_alloc]; omega) _).alloc (by simp only [World.size_alloc]; omega) _
  have s5 : W5.heap.size = W3.heap.size + 3 := by rw [hW5]; simp
  clear hW5
  have HD5 := Lib.hid (HD3.out.below b5 (by omega))
  have HR5 := Lib.hid (HR3.out.below b5 (by omega))
  have HA5 := Lib.hid (HAw.out.below (HB3.out.trans (b5.mono (by omega))))
  have HB5 := Lib.hid (HB3.out.trans (b5.mono (by omega)))
  clear HD3 HR3 HB3 b5
  go_wp2_with fail
  have hDb := HDb.out
  have mixed : Tryd.prog.follows .mixedOrders = true := by kernel_rfl
  have hwk := HWk.out
  refine (wpIn_wide (n := 9)).1 ?_
  refine wpIn_rangeFunc_boxA (n := 9) rfl (by decide) (gf := fromIt) (lb := #[.pointer (some ⟨W3.heap.size + 1, 0, none⟩), .pointer (some ⟨W3.heap.size + 1 + 1, 0, none⟩)]) rfl trivial enters_from
    (from_stops (9 - 1) (W3.heap.size + 1) (W3.heap.size + 1 + 1) D (1) ⟨by omega, by omega⟩ ⟨by omega, by omega⟩ (by omega) W5 k1 k2)
    (by omega) keptB_t
    (fun W l ob ob' hle h1 h2 h3 => ⟨World.putObj_heap_other (by omega), World.putObj_heap_other (by omega)⟩) (Below.refl _ _) (fun _ => rfl)
    (fun pre W => ((∀ x ∈ pre, ¬ (x + 4) % 7 = wk) ∧ ∃ v, W.heap[W3.heap.size]? = some (boxI v)) ∧ Below W3.heap.size W5 W)
    (fun c pre W => (c = .exit 1 ∧ ∃ (x : Int) (j : Nat), j < 7 ∧ x = D + (j : Int) * (1) ∧ (x + 4) % 7 = wk ∧ W.heap[W3.heap.size]? = some (boxI x)) ∧ Below W3.heap.size W5 W)
    (OwnFrom.and (fun s A B row hs hg hr => ⟨hs.1, hs.2.elim fun v hv => ⟨v, own_row hv hg hr⟩⟩) (ownFrom_below (by omega) (by omega)))
    (fun c => OwnFrom.and (fun s A B row hs hg hr => ⟨hs.1, hs.2.elim fun x hx => hx.elim fun j hj => ⟨x, j, hj.1, hj.2.1, hj.2.2.1, own_row hj.2.2.2 hg hr⟩⟩) (ownFrom_below (by omega) (by omega)))
    (fun s A B h hg => ⟨⟨h.1.1, h.1.2.elim fun v hv => ⟨v, grown_far hg hv (by omega)⟩⟩, h.2.grown hg (by have := h.2.size; omega) (fun k e => by cases e; omega)⟩)
    (fun c s A B h hg => ⟨⟨h.1.1, h.1.2.elim fun x hx => hx.elim fun j hj => ⟨x, j, hj.1, hj.2.1, hj.2.2.1, grown_far hg hj.2.2.2 (by omega)⟩⟩, h.2.grown hg (by have := h.2.size; omega) (fun k e => by cases e; omega)⟩)
    ⟨⟨fun x h => absurd h (by simp), D, k0⟩, Below.refl _ _⟩
    ?a1
    (fun pre x W => ((∀ z ∈ pre, ¬ (z + 4) % 7 = wk) ∧ W.heap[W3.heap.size]? = some (boxI x)) ∧ Below W3.heap.size W5 W)
    (fun pre => OwnFrom.and (fun s A B row hs hg hr => ⟨hs.1, own_row hs.2 hg hr⟩) (ownFrom_below (by omega) (by omega)))
    ?assign ?body ?done ?stop
  case assign =>
    rintro l' pre x W K ⟨⟨hp, v, hv⟩, hB⟩ hlen hpx hK
    have cv := cell_of_row W W3.heap.size 0 _ _ _ hv
    have fv := frozen_of_row W W3.heap.size 0 _ _ hv
    have HP := Lib.hid hp
    have HPx := Lib.hid hpx
    have HK := Lib.hid hK
    clear hp hpx hK
    gi_wp2
    exact HK.out _ (KeepsOthers.setCell _ _ _) ⟨heap_setCell_other _ _ _ _ (by simp only; omega), heap_setCell_other _ _ _ _ (by simp only; omega)⟩ ⟨⟨HP.out, heap_setCell_same W W3.heap.size 0 _ _ _ hv⟩, hB.setCell (Nat.le_refl _) _⟩
  case done =>
    rintro D' ys W hD hys ⟨⟨hp, _⟩, hB⟩ hK
    obtain ⟨j, hj, hm⟩ := offD_ex (D := D) (s := 1) (by decide) hwk.1 hwk.2
    exact absurd hm (hp _ (hys ▸ ups_mem hj))
  case body =>
    rintro l' pre x W ⟨⟨hp, hv⟩, hB⟩ hlen hpx
    have hv0 : W.cell? ⟨W3.heap.size, 0, none⟩ = some (.int .i64 x) := cell_of_row W W3.heap.size 0 _ _ _ hv
    have hd1 := (HD5.out.below hB (by omega)).cells.2.1
    have hfx : Fits x := by unfold Fits; omega
    have hWs : W3.heap.size + 3 ≤ W.heap.size := by have := hB.size; omega
    have bF := bw_cell hv0
    have bD := bw_cell hd1
    have hne : Nonempty (BW W) := bw_ne W
    have HB := Lib.hid hB
    have HP := Lib.hid hp
    have HPx := Lib.hid hpx
    have HVv := Lib.hid hv
    have HFx := Lib.hid hfx
    clear hv hp hpx hfx hB
    gi_wp2
    have SH := Lib.hid (fun (v : BW W) => CallsIn.inRound l' ((callsIn_wide (n := 6)).2 (calls_bw_same (weekday_any x v.1 HFx.out))))
    refine region_round_bw (l0 := l') rfl mixed (by kernel_rfl) (by kernel_rfl) ?_
    repeat (gi_big_quiet_want; gi_big_quiet_op; go_big_quiet_on)
    refine BigFrame.wpQuietIn_want (fun _ _ _ _ => trivial) rfl ?_
    intro K hK
    gi_big_quiet_op
    refine ⟨_, fun v => SH.out v, ?_⟩
    go_big_quiet_on
    repeat (gi_big_quiet_want; gi_big_quiet_op; go_big_quiet_on)
    refine wpQuietIn_nil ?_
    rintro W7 ⟨v7, e7⟩
    have hb7 := v7.2
    rw [← e7] at hb7
    have HB7 := Lib.hid hb7
    clear e7 v7 bF bD hne hv0 hd1 hb7
    by_cases hx : (x + 4) % 7 = wk
    · have q : ((x + 4) % 7 == wk) = true := by simpa using hx
      have HX := Lib.hid hx
      clear hx
      gi_wp2
      have hb7 := HB7.out
      exact ⟨others_below hb7, ⟨rfl, x, pre.length, hlen, HPx.out, HX.out, (hb7.block W3.heap.size (by omega)).trans HVv.out⟩, HB.out.trans (hb7.mono (by omega))⟩
    · have q : ((x + 4) % 7 == wk) = false := by simpa using hx
      have HX := Lib.hid hx
      clear hx
      gi_wp2
      have hb7 := HB7.out
      refine ⟨others_below hb7, ⟨hb7.block _ (by omega), hb7.block _ (by omega)⟩, ⟨fun z hz => ?_, x, (hb7.block W3.heap.size (by omega)).trans HVv.out⟩, HB.out.trans (hb7.mono (by omega))⟩
      rcases List.mem_append.1 hz with hz | hz
      · exact HP.out z hz
      · have hz2 : z = x := by simpa using hz
        rw [hz2]
        exact HX.out
  case stop =>
    rintro D' c pre W hD hpre ⟨⟨rfl, x, j, hj, hx, hm, hv⟩, hB⟩ hK
    have cv : W.cell? ⟨W3.heap.size, 0, none⟩ = some (.int .i64 x) := cell_of_row W W3.heap.size 0 _ _ _ hv
    have hex := hx.trans (offD_of (s := 1) (wk := wk) (by decide) hj (by rw [← hx]; exact hm))
    have HEx := Lib.hid hex
    have hfx : Fits x := by unfold Fits; omega
    have HFx := Lib.hid hfx
    have hWs : W3.heap.size + 3 ≤ W.heap.size := by have := hB.size; omega
    have HRW := Lib.hid (HR5.out.below hB (by omega))
    have HBW := Lib.hid (HB5.out.trans (hB.mono (by omega)))
    have HAW := Lib.hid (HAw.out.below HBW.out)
    have HK := Lib.hid hK
    have hWD : D' < W.heap.size := (Array.getElem?_eq_some_iff.1 hK).1
    clear hx hex hm hpre hv hB hK k0 k1 k2
    by_cases hr : -37243778 ≤ x ∧ x ≤ 35805087
    · obtain ⟨y2, m2, d2, hv2, hn2⟩ := date_ex x hr
      have EV := Lib.hid (show ofV x = okD y2 m2 d2 by rw [← hn2]; exact ofV_ok hv2)
      have SO := Lib.hid (hn2 ▸ of_ok y2 m2 d2 W HAW.out hv2)
      clear hn2 hv2 hr
      gi_wp2
      go_wp2_with fail
      refine SO.out.mono ?_
      rintro e W8 ⟨rfl, b8⟩
      have s8 := b8.size
      have HR8 := Lib.hid (HRW.out.below b8 (by omega))
      have HB8 := Lib.hid (HBW.out.trans (b8.mono (by omega)))
      obtain ⟨r0, r1, r2⟩ := HR8.out.cells
      have f0 := HR8.out.free 0
      have f1 := HR8.out.free 1
      have f2 := HR8.out.free 2
      have HK8 := Lib.hid ((b8.block D' hWD).trans HK.out)
      clear cv b8
      go_wp2_with fail
      rw [Exit.noGoto_ret]
      have hK9 := (heap_setCell_other _ ⟨w.heap.size + 1, 2, none⟩ D' ((fun (i : Nat) => Value.int .i64 (if i = 0 then y2 else if i = 1 then m2 else d2)) 2) (by simp only; omega)).trans ((heap_setCell_other _ ⟨w.heap.size + 1, 1, none⟩ D' ((fun (i : Nat) => Value.int .i64 (if i = 0 then y2 else if i = 1 then m2 else d2)) 1) (by simp only; omega)).trans ((heap_setCell_other W8 ⟨w.heap.size + 1, 0, none⟩ D' ((fun (i : Nat) => Value.int .i64 (if i = 0 then y2 else if i = 1 then m2 else d2)) 0) (by simp only; omega)).trans HK8.out))
      refine ⟨by simp, .inl ⟨_, _, rfl, run_takeDeferred hK9, ?_⟩⟩
      refine ⟨_, res_row_tmp (B := w.heap.size + 1) _ rfl rfl ((World.putObj_heap_other (by omega)).trans (((HR8.out.set0 _).set1 _).set2 _)) Tryd.underlying31 rfl szD, ?_, ?_⟩
      · first | rw [HDe.out, ← HEx.out, EV.out] | rw [HLm.out, HDe.out, ← HEx.out, EV.out]
        rfl
      · exact (((HB8.out.setCell (by simp only; omega) _).setCell (by simp only; omega) _).setCell (by simp only; omega) _).trans (belowK_b (w := w) (Nat.le_refl _) _ D' _ _ (by omega) hK9 rfl rfl)
    · have EV := Lib.hid (ofV_no hr)
      have SO := Lib.hid (of_no x W HFx.out hr)
      clear hr
      gi_wp2
      go_wp2_with fail
      refine SO.out.mono ?_
      rintro e W8 ⟨rfl, b8⟩
      have s8 := b8.size
      have HR8 := Lib.hid (HRW.out.below b8 (by omega))
      have HB8 := Lib.hid (HBW.out.trans (b8.mono (by omega)))
      obtain ⟨r0, r1, r2⟩ := HR8.out.cells
      have f0 := HR8.out.free 0
      have f1 := HR8.out.free 1
      have f2 := HR8.out.free 2
      have HK8 := Lib.hid ((b8.block D' hWD).trans HK.out)
      clear cv b8
      go_wp2_with fail
      rw [Exit.noGoto_ret]
      have hK9 := (heap_setCell_other _ ⟨w.heap.size + 1, 2, none⟩ D' ((fun (i : Nat) => Value.int .i64 0) 2) (by simp only; omega)).trans ((heap_setCell_other _ ⟨w.heap.size + 1, 1, none⟩ D' ((fun (i : Nat) => Value.int .i64 0) 1) (by simp only; omega)).trans ((heap_setCell_other W8 ⟨w.heap.size + 1, 0, none⟩ D' ((fun (i : Nat) => Value.int .i64 0) 0) (by simp only; omega)).trans HK8.out))
      refine ⟨by simp, .inl ⟨_, _, rfl, run_takeDeferred hK9, ?_⟩⟩
      refine ⟨_, res_row_tmp (B := w.heap.size + 1) _ rfl rfl ((World.putObj_heap_other (by omega)).trans (((HR8.out.set0 _).set1 _).set2 _)) Tryd.underlying31 rfl szD, ?_, ?_⟩
      · first | rw [HDe.out, ← HEx.out, EV.out] | rw [HLm.out, HDe.out, ← HEx.out, EV.out]
        rfl
      · exact (((HB8.out.setCell (by simp only; omega) _).setCell (by simp only; omega) _).setCell (by simp only; omega) _).trans (belowK_b (w := w) (Nat.le_refl _) _ D' _ _ (by omega) hK9 rfl rfl)
set_option maxRecDepth 100000 in
set_option maxHeartbeats 4000000 in
theorem in_last (wk n y m : Int) (w : World) (hA : Ahead w) (h : RightD 1 wk n) (hl : -100000 ≤ y ∧ y ≤ 100000 ∧ 1 ≤ m ∧ m ≤ 12) (hn : n ≤ dim y m) :
    Calls Tryd.prog 13 #[.agg #[.int .i64 1, .int .i64 wk, .int .i64 n], .int .i64 y, .int .i64 m] w fun e w' => e = .returned (ofV (num y m (dim y m) + (-1) * offD (num y m (dim y m)) wk (-1))) ∧ Below w.heap.size w w' := by
  obtain ⟨k, hk⟩ : ∃ k : Int, k = 1 := ⟨_, rfl⟩
  have hV : Valid y m (dim y m) := by
    obtain ⟨l1, l2, l3, l4⟩ := hl
    have := dim_bd y m
    exact ⟨l1, l2, l3, l4, by omega, Int.le_refl _⟩
  have hwk : 0 ≤ wk ∧ wk ≤ 6 := by rcases h with h | h | h <;> omega
  rw [← hk] at h ⊢
  have HK0 := Lib.hid hk
  clear hk
  have HV := Lib.hid hV
  have HWk := Lib.hid hwk
  clear hV hwk
  have EC := Lib.hid (chkV_ok h)
  have HAw := Lib.hid hA
  have HL := Lib.hid hl
  clear h hA hl
  refine (callsIn_wide (n := 9)).1 ?_
  refine callsIn_of_wp_marks Tryd.func13 rfl trivial ?_ rfl
  simp only [Tryd.ntmps13, List.size_toArray, List.length_cons, List.length_nil, Nat.reduceAdd, Nat.reduceSub, Array.replicate_succ, Array.replicate_zero, List.push_toArray, List.append_toArray, List.nil_append, List.cons_append]
  refine wpIn_wide.2 ?_
  go_wp2_with fail
  go_step3
  have hA0 : Ahead ((w.alloc (.cells #[.int .i64 k, .int .i64 wk, .int .i64 n] 24)).alloc (.cells #[.int .i64 0, .int .i64 0, .int .i64 0] 31)) := HAw.out.below (((Below.refl _ _).alloc (Nat.le_refl _) _).alloc (by simp only [World.size_alloc]; omega) _)
  generalize hW0 : (w.alloc (.cells #[.int .i64 k, .int .i64 wk, .int .i64 n] 24)).alloc (.cells #[.int .i64 0, .int .i64 0, .int .i64 0] 31) = W0 at *
  have kD : DyB W0 w.heap.size k wk n := by
    rw [← hW0]
    exact (Below.heap_alloc _ _ _ (by simp only [World.size_alloc]; omega)).trans (DyB.new w k wk n)
  have kR : Dt W0 (w.heap.size + 1) 0 0 0 := by
    rw [← hW0]
    have := Dt.new (w.alloc (.cells #[.int .i64 k, .int .i64 wk, .int .i64 n] 24)) 0 0 0
    simpa using this
  have hB0 : Below w.heap.size w W0 := by
    rw [← hW0]
    exact ((Below.refl _ _).alloc (Nat.le_refl _) _).alloc (by simp only [World.size_alloc]; omega) _
  have s0 : W0.heap.size = w.heap.size + 2 := by rw [← hW0]; simp
  clear hW0
  obtain ⟨c0, c1, c2⟩ := kD.cells
  obtain ⟨r0, r1, r2⟩ := kR.cells
  have HD := Lib.hid kD
  have HR := Lib.hid kR
  have HB0 := Lib.hid hB0
  have HA0 := Lib.hid hA0
  clear kD kR hB0 hA0
  go_wp2_with fail
  refine (check_day k wk n _).mono ?_
  rintro e W1 ⟨rfl, b1⟩
  have c0' := (b1.cell (p := ⟨w.heap.size, 0, none⟩) (by simp only; omega)).trans c0
  have c1' := (b1.cell (p := ⟨w.heap.size, 1, none⟩) (by simp only; omega)).trans c1
  have c2' := (b1.cell (p := ⟨w.heap.size, 2, none⟩) (by simp only; omega)).trans c2
  have r0' := (b1.cell (p := ⟨w.heap.size + 1, 0, none⟩) (by simp only; omega)).trans r0
  have r1' := (b1.cell (p := ⟨w.heap.size + 1, 1, none⟩) (by simp only; omega)).trans r1
  have r2' := (b1.cell (p := ⟨w.heap.size + 1, 2, none⟩) (by simp only; omega)).trans r2
  have HD1 := Lib.hid (HD.out.below b1 (by omega))
  have HR1 := Lib.hid (HR.out.below b1 (by omega))
  have HA1 := Lib.hid (HA0.out.below b1)
  have HB1 := Lib.hid (HB0.out.trans (b1.mono (by omega)))
  have s1 : w.heap.size + 2 ≤ W1.heap.size := by have := b1.size; omega
  have f0 := HR1.out.free 0
  have f1 := HR1.out.free 1
  have f2 := HR1.out.free 2
  clear c0 c1 c2 r0 r1 r2 HD HR HA0 b1 HB0 s0
  rw [EC.out]
  go_wp2_with fail
  refine (long_ok y m _ HA1.out HL.out.1 HL.out.2.1 HL.out.2.2.1 HL.out.2.2.2).mono ?_
  rintro e W2 ⟨rfl, b1⟩
  have c0 := (b1.cell (p := ⟨w.heap.size, 0, none⟩) (by simp only; omega)).trans c0'
  have c1 := (b1.cell (p := ⟨w.heap.size, 1, none⟩) (by simp only; omega)).trans c1'
  have c2 := (b1.cell (p := ⟨w.heap.size, 2, none⟩) (by simp only; omega)).trans c2'
  have r0 := (b1.cell (p := ⟨w.heap.size + 1, 0, none⟩) (by simp only; omega)).trans r0'
  have r1 := (b1.cell (p := ⟨w.heap.size + 1, 1, none⟩) (by simp only; omega)).trans r1'
  have r2 := (b1.cell (p := ⟨w.heap.size + 1, 2, none⟩) (by simp only; omega)).trans r2'
  have HD2 := Lib.hid (HD1.out.below b1 (by omega))
  have HR2 := Lib.hid (HR1.out.below b1 (by omega))
  have HA2 := Lib.hid (HA1.out.below b1)
  have HB2 := Lib.hid (HB1.out.trans (b1.mono (by omega)))
  have s2 : w.heap.size + 2 ≤ W2.heap.size := by have := b1.size; omega
  clear f0 f1 f2
  have f0 := HR2.out.free 0
  have f1 := HR2.out.free 1
  have f2 := HR2.out.free 2
  clear c0' c1' c2' r0' r1' r2' HD1 HR1 HA1 b1 HB1 s1
  obtain ⟨L, hL⟩ : ∃ L, dim y m = L := ⟨_, rfl⟩
  have HLm := Lib.hid hL
  rw [hL] at hn ⊢
  clear hL
  have hk := HK0.out
  clear HK0
  subst hk
  have HV2 := Lib.hid (show Valid y m L from HLm.out ▸ HV.out)
  have HV := HV2
  go_wp2_with fail
  refine (days_ok y m L _ HA2.out HV2.out).mono ?_
  rintro e W3 ⟨rfl, b3⟩
  have HDb := Lib.hid (num_bd HV.out)
  obtain ⟨D, hD⟩ : ∃ D, num y m L = D := ⟨_, rfl⟩
  rw [hD] at HDb ⊢
  have HDe := Lib.hid hD
  have HD3 := Lib.hid (HD2.out.below b3 (by omega))
  have HR3 := Lib.hid (HR2.out.below b3 (by omega))
  have HB3 := Lib.hid (HB2.out.trans (b3.mono (by omega)))
  have s3 : w.heap.size + 2 ≤ W3.heap.size := by have := b3.size; omega
  clear hD c0 c1 c2 r0 r1 r2 f0 f1 f2 HD2 HR2 HB2 s2 b3
  go_wp2_with fail
  go_step3
  go_wp2_with fail
  refine (from_any D ((-1)) _).mono ?_
  rintro e W5 ⟨rfl, hW5⟩
  simp only [World.size_alloc]
  have k0 : W5.heap[W3.heap.size]? = some (boxI D) := by
    rw [hW5, Below.heap_alloc _ _ _ (by simp only [World.size_alloc]; omega), Below.heap_alloc _ _ _ (by simp only [World.size_alloc]; omega)]
    exact heap_alloc_new W3 _
  have k1 : W5.heap[W3.heap.size + 1]? = some (boxI D) := by
    rw [hW5, Below.heap_alloc _ _ _ (by simp only [World.size_alloc]; omega)]
    have := heap_alloc_new (W3.alloc (boxI D)) (boxI D)
    simpa using this
  have k2 : W5.heap[W3.heap.size + 1 + 1]? = some (boxI ((-1))) := by
    rw [hW5]
    have := heap_alloc_new ((W3.alloc (boxI D)).alloc (boxI D)) (boxI ((-1)))
    simpa using this
  have b5 : Below W3.heap.size W3 W5 := by
    rw [hW5]
    exact (((Below.refl _ _).alloc (Nat.le_refl _) _).alloc (by simp only [World.size_alloc]; omega) _).alloc (by simp only [World.size_alloc]; omega) _
  have s5 : W5.heap.size = W3.heap.size + 3 := by rw [hW5]; simp
  clear hW5
  have HD5 := Lib.hid (HD3.out.below b5 (by omega))
  have HR5 := Lib.hid (HR3.out.below b5 (by omega))
  have HA5 := Lib.hid (HAw.out.below (HB3.out.trans (b5.mono (by omega))))
  have HB5 := Lib.hid (HB3.out.trans (b5.mono (by omega)))
  clear HD3 HR3 HB3 b5
  go_wp2_with fail
  have hDb := HDb.out
  have mixed : Tryd.prog.follows .mixedOrders = true := by kernel_rfl
  have hwk := HWk.out
  refine (wpIn_wide (n := 9)).1 ?_
  refine wpIn_rangeFunc_boxA (n := 9) rfl (by decide) (gf := fromIt) (lb := #[.pointer (some ⟨W3.heap.size + 1, 0, none⟩), .pointer (some ⟨W3.heap.size + 1 + 1, 0, none⟩)]) rfl trivial enters_from
    (from_stops (9 - 1) (W3.heap.size + 1) (W3.heap.size + 1 + 1) D ((-1)) ⟨by omega, by omega⟩ ⟨by omega, by omega⟩ (by omega) W5 k1 k2)
    (by omega) keptB_t
    (fun W l ob ob' hle h1 h2 h3 => ⟨World.putObj_heap_other (by omega), World.putObj_heap_other (by omega)⟩) (Below.refl _ _) (fun _ => rfl)
    (fun pre W => ((∀ x ∈ pre, ¬ (x + 4) % 7 = wk) ∧ ∃ v, W.heap[W3.heap.size]? = some (boxI v)) ∧ Below W3.heap.size W5 W)
    (fun c pre W => (c = .exit 1 ∧ ∃ (x : Int) (j : Nat), j < 7 ∧ x = D + (j : Int) * ((-1)) ∧ (x + 4) % 7 = wk ∧ W.heap[W3.heap.size]? = some (boxI x)) ∧ Below W3.heap.size W5 W)
    (OwnFrom.and (fun s A B row hs hg hr => ⟨hs.1, hs.2.elim fun v hv => ⟨v, own_row hv hg hr⟩⟩) (ownFrom_below (by omega) (by omega)))
    (fun c => OwnFrom.and (fun s A B row hs hg hr => ⟨hs.1, hs.2.elim fun x hx => hx.elim fun j hj => ⟨x, j, hj.1, hj.2.1, hj.2.2.1, own_row hj.2.2.2 hg hr⟩⟩) (ownFrom_below (by omega) (by omega)))
    (fun s A B h hg => ⟨⟨h.1.1, h.1.2.elim fun v hv => ⟨v, grown_far hg hv (by omega)⟩⟩, h.2.grown hg (by have := h.2.size; omega) (fun k e => by cases e; omega)⟩)
    (fun c s A B h hg => ⟨⟨h.1.1, h.1.2.elim fun x hx => hx.elim fun j hj => ⟨x, j, hj.1, hj.2.1, hj.2.2.1, grown_far hg hj.2.2.2 (by omega)⟩⟩, h.2.grown hg (by have := h.2.size; omega) (fun k e => by cases e; omega)⟩)
    ⟨⟨fun x h => absurd h (by simp), D, k0⟩, Below.refl _ _⟩
    ?a1
    (fun pre x W => ((∀ z ∈ pre, ¬ (z + 4) % 7 = wk) ∧ W.heap[W3.heap.size]? = some (boxI x)) ∧ Below W3.heap.size W5 W)
    (fun pre => OwnFrom.and (fun s A B row hs hg hr => ⟨hs.1, own_row hs.2 hg hr⟩) (ownFrom_below (by omega) (by omega)))
    ?assign ?body ?done ?stop
  case assign =>
    rintro l' pre x W K ⟨⟨hp, v, hv⟩, hB⟩ hlen hpx hK
    have cv := cell_of_row W W3.heap.size 0 _ _ _ hv
    have fv := frozen_of_row W W3.heap.size 0 _ _ hv
    have HP := Lib.hid hp
    have HPx := Lib.hid hpx
    have HK := Lib.hid hK
    clear hp hpx hK
    gi_wp2
    exact HK.out _ (KeepsOthers.setCell _ _ _) ⟨heap_setCell_other _ _ _ _ (by simp only; omega), heap_setCell_other _ _ _ _ (by simp only; omega)⟩ ⟨⟨HP.out, heap_setCell_same W W3.heap.size 0 _ _ _ hv⟩, hB.setCell (Nat.le_refl _) _⟩
  case done =>
    rintro D' ys W hD hys ⟨⟨hp, _⟩, hB⟩ hK
    obtain ⟨j, hj, hm⟩ := offD_ex (D := D) (s := (-1)) (by decide) hwk.1 hwk.2
    exact absurd hm (hp _ (hys ▸ ups_mem hj))
  case body =>
    rintro l' pre x W ⟨⟨hp, hv⟩, hB⟩ hlen hpx
    have hv0 : W.cell? ⟨W3.heap.size, 0, none⟩ = some (.int .i64 x) := cell_of_row W W3.heap.size 0 _ _ _ hv
    have hd1 := (HD5.out.below hB (by omega)).cells.2.1
    have hfx : Fits x := by unfold Fits; omega
    have hWs : W3.heap.size + 3 ≤ W.heap.size := by have := hB.size; omega
    have bF := bw_cell hv0
    have bD := bw_cell hd1
    have hne : Nonempty (BW W) := bw_ne W
    have HB := Lib.hid hB
    have HP := Lib.hid hp
    have HPx := Lib.hid hpx
    have HVv := Lib.hid hv
    have HFx := Lib.hid hfx
    clear hv hp hpx hfx hB
    gi_wp2
    have SH := Lib.hid (fun (v : BW W) => CallsIn.inRound l' ((callsIn_wide (n := 6)).2 (calls_bw_same (weekday_any x v.1 HFx.out))))
    refine region_round_bw (l0 := l') rfl mixed (by kernel_rfl) (by kernel_rfl) ?_
    repeat (gi_big_quiet_want; gi_big_quiet_op; go_big_quiet_on)
    refine BigFrame.wpQuietIn_want (fun _ _ _ _ => trivial) rfl ?_
    intro K hK
    gi_big_quiet_op
    refine ⟨_, fun v => SH.out v, ?_⟩
    go_big_quiet_on
    repeat (gi_big_quiet_want; gi_big_quiet_op; go_big_quiet_on)
    refine wpQuietIn_nil ?_
    rintro W7 ⟨v7, e7⟩
    have hb7 := v7.2
    rw [← e7] at hb7
    have HB7 := Lib.hid hb7
    clear e7 v7 bF bD hne hv0 hd1 hb7
    by_cases hx : (x + 4) % 7 = wk
    · have q : ((x + 4) % 7 == wk) = true := by simpa using hx
      have HX := Lib.hid hx
      clear hx
      gi_wp2
      have hb7 := HB7.out
      exact ⟨others_below hb7, ⟨rfl, x, pre.length, hlen, HPx.out, HX.out, (hb7.block W3.heap.size (by omega)).trans HVv.out⟩, HB.out.trans (hb7.mono (by omega))⟩
    · have q : ((x + 4) % 7 == wk) = false := by simpa using hx
      have HX := Lib.hid hx
      clear hx
      gi_wp2
      have hb7 := HB7.out
      refine ⟨others_below hb7, ⟨hb7.block _ (by omega), hb7.block _ (by omega)⟩, ⟨fun z hz => ?_, x, (hb7.block W3.heap.size (by omega)).trans HVv.out⟩, HB.out.trans (hb7.mono (by omega))⟩
      rcases List.mem_append.1 hz with hz | hz
      · exact HP.out z hz
      · have hz2 : z = x := by simpa using hz
        rw [hz2]
        exact HX.out
  case stop =>
    rintro D' c pre W hD hpre ⟨⟨rfl, x, j, hj, hx, hm, hv⟩, hB⟩ hK
    have cv : W.cell? ⟨W3.heap.size, 0, none⟩ = some (.int .i64 x) := cell_of_row W W3.heap.size 0 _ _ _ hv
    have hex := hx.trans (offD_of (s := (-1)) (wk := wk) (by decide) hj (by rw [← hx]; exact hm))
    have HEx := Lib.hid hex
    have hfx : Fits x := by unfold Fits; omega
    have HFx := Lib.hid hfx
    have hWs : W3.heap.size + 3 ≤ W.heap.size := by have := hB.size; omega
    have HRW := Lib.hid (HR5.out.below hB (by omega))
    have HBW := Lib.hid (HB5.out.trans (hB.mono (by omega)))
    have HAW := Lib.hid (HAw.out.below HBW.out)
    have HK := Lib.hid hK
    have hWD : D' < W.heap.size := (Array.getElem?_eq_some_iff.1 hK).1
    clear hx hex hm hpre hv hB hK k0 k1 k2
    by_cases hr : -37243778 ≤ x ∧ x ≤ 35805087
    · obtain ⟨y2, m2, d2, hv2, hn2⟩ := date_ex x hr
      have EV := Lib.hid (show ofV x = okD y2 m2 d2 by rw [← hn2]; exact ofV_ok hv2)
      have SO := Lib.hid (hn2 ▸ of_ok y2 m2 d2 W HAW.out hv2)
      clear hn2 hv2 hr
      gi_wp2
      go_wp2_with fail
      refine SO.out.mono ?_
      rintro e W8 ⟨rfl, b8⟩
      have s8 := b8.size
      have HR8 := Lib.hid (HRW.out.below b8 (by omega))
      have HB8 := Lib.hid (HBW.out.trans (b8.mono (by omega)))
      obtain ⟨r0, r1, r2⟩ := HR8.out.cells
      have f0 := HR8.out.free 0
      have f1 := HR8.out.free 1
      have f2 := HR8.out.free 2
      have HK8 := Lib.hid ((b8.block D' hWD).trans HK.out)
      clear cv b8
      go_wp2_with fail
      rw [Exit.noGoto_ret]
      have hK9 := (heap_setCell_other _ ⟨w.heap.size + 1, 2, none⟩ D' ((fun (i : Nat) => Value.int .i64 (if i = 0 then y2 else if i = 1 then m2 else d2)) 2) (by simp only; omega)).trans ((heap_setCell_other _ ⟨w.heap.size + 1, 1, none⟩ D' ((fun (i : Nat) => Value.int .i64 (if i = 0 then y2 else if i = 1 then m2 else d2)) 1) (by simp only; omega)).trans ((heap_setCell_other W8 ⟨w.heap.size + 1, 0, none⟩ D' ((fun (i : Nat) => Value.int .i64 (if i = 0 then y2 else if i = 1 then m2 else d2)) 0) (by simp only; omega)).trans HK8.out))
      refine ⟨by simp, .inl ⟨_, _, rfl, run_takeDeferred hK9, ?_⟩⟩
      refine ⟨_, res_row_tmp (B := w.heap.size + 1) _ rfl rfl ((World.putObj_heap_other (by omega)).trans (((HR8.out.set0 _).set1 _).set2 _)) Tryd.underlying31 rfl szD, ?_, ?_⟩
      · first | rw [HDe.out, ← HEx.out, EV.out] | rw [HLm.out, HDe.out, ← HEx.out, EV.out]
        rfl
      · exact (((HB8.out.setCell (by simp only; omega) _).setCell (by simp only; omega) _).setCell (by simp only; omega) _).trans (belowK_b (w := w) (Nat.le_refl _) _ D' _ _ (by omega) hK9 rfl rfl)
    · have EV := Lib.hid (ofV_no hr)
      have SO := Lib.hid (of_no x W HFx.out hr)
      clear hr
      gi_wp2
      go_wp2_with fail
      refine SO.out.mono ?_
      rintro e W8 ⟨rfl, b8⟩
      have s8 := b8.size
      have HR8 := Lib.hid (HRW.out.below b8 (by omega))
      have HB8 := Lib.hid (HBW.out.trans (b8.mono (by omega)))
      obtain ⟨r0, r1, r2⟩ := HR8.out.cells
      have f0 := HR8.out.free 0
      have f1 := HR8.out.free 1
      have f2 := HR8.out.free 2
      have HK8 := Lib.hid ((b8.block D' hWD).trans HK.out)
      clear cv b8
      go_wp2_with fail
      rw [Exit.noGoto_ret]
      have hK9 := (heap_setCell_other _ ⟨w.heap.size + 1, 2, none⟩ D' ((fun (i : Nat) => Value.int .i64 0) 2) (by simp only; omega)).trans ((heap_setCell_other _ ⟨w.heap.size + 1, 1, none⟩ D' ((fun (i : Nat) => Value.int .i64 0) 1) (by simp only; omega)).trans ((heap_setCell_other W8 ⟨w.heap.size + 1, 0, none⟩ D' ((fun (i : Nat) => Value.int .i64 0) 0) (by simp only; omega)).trans HK8.out))
      refine ⟨by simp, .inl ⟨_, _, rfl, run_takeDeferred hK9, ?_⟩⟩
      refine ⟨_, res_row_tmp (B := w.heap.size + 1) _ rfl rfl ((World.putObj_heap_other (by omega)).trans (((HR8.out.set0 _).set1 _).set2 _)) Tryd.underlying31 rfl szD, ?_, ?_⟩
      · first | rw [HDe.out, ← HEx.out, EV.out] | rw [HLm.out, HDe.out, ← HEx.out, EV.out]
        rfl
      · exact (((HB8.out.setCell (by simp only; omega) _).setCell (by simp only; omega) _).setCell (by simp only; omega) _).trans (belowK_b (w := w) (Nat.le_refl _) _ D' _ _ (by omega) hK9 rfl rfl)
end Go.Proofs.YtmkbfjklhejdnaaDoor
