/-
  PROVED: the law AbbrGoes answers true at every input, and leaves its arguments as they were. No condition but what the card lists: two tables of Go's own library.
-/
import Derived.Test.YtakpbgjmblbaiaaDoorFrame
import Derived.Test.YtakpbgjmblbaiaaDoorGoes
import Derived.Deep.Strs
namespace Go.Proofs.YtakpbgjmblbaiaaDoor.abbrGoes
open Go Go.RowKit Go.ChangeShapes Go.WideShapes Go.ChangeMaps AbbM

/-- an argument that is a slice of strings -/
theorem arg_strs {H : Type} {enc : TypeId × Value → H} {W : World} {base : Nat} {v : Value} {d : DataW H} {p : List MemPlace} (h0 : 0 < W.heap.size) (hv : Value.okWide Tryd.prog W .any base 39 v)
    (h : DataW.Trod enc Tryd.prog W 0 (fun _ => true) true 39 v d p) : ∃ (ad : Option Addr) (b off cap : Nat) (ws : List (List UInt8)), v = .slice ad ws.length cap ∧ (0 < ws.length → ad = some ⟨b, off, none⟩) ∧ (0 < ws.length → TL W b off ws) ∧ b < W.heap.size := by
  obtain ⟨ad, n, cap, rfl⟩ := okWide_slice Tryd.underlying39 hv
  obtain ⟨fuel, hf⟩ := h
  rcases Go.Deep.open_strs Tryd.underlying39 Tryd.underlying9 cellsS hf with ⟨hcs, _⟩ | ⟨a, len, cap', m, Sx, hcs, _, hl, hm, hmm, _, hcell⟩
  · simp [Value.cells] at hcs
    obtain ⟨rfl, rfl, rfl⟩ := hcs
    exact ⟨none, 0, 0, 0, [], rfl, fun h => absurd h (by simp), fun h => absurd h (by simp), h0⟩
  · simp [Value.cells] at hcs
    obtain ⟨rfl, rfl, rfl⟩ := hcs
    simp at hmm
    have hws : ((List.range n).map fun i => (Sx i).data.toList).length = n := by simp
    by_cases z : n = 0
    · subst z
      exact ⟨some a, 0, 0, cap, [], rfl, fun h => absurd h (by simp), fun h => absurd h (by simp), h0⟩
    · obtain ⟨b, off, spot⟩ := a
      have hspot : spot = none := by
        have := World.cell?_spot (hcell 0 (by omega)).1
        simpa [Addr.add] using this
      subst hspot
      have hc : ∀ j, j < n → W.cell? ⟨b, off + j, none⟩ = some (.string (Sx j)) := fun j hj => by
        have := (hcell j (by omega)).1
        rwa [Go.WideShapes.add_plain] at this
      refine ⟨some ⟨b, off, none⟩, b, off, cap, (List.range n).map fun i => (Sx i).data.toList, by rw [hws], fun _ => rfl, fun _ j hj => ?_, block_lt_of_cell (hc 0 (by omega))⟩
      rw [hws] at hj
      rw [hc j hj]
      simp [hj]
attribute [local go_sem] Oper.semAt_some in
set_option maxRecDepth 100000 in
set_option maxHeartbeats 4000000 in
theorem walk_long (F : List UInt8) (o : Int) (p : Option Addr) (n cap : Nat) (w : World) (hF : (100 : Int) < F.length) (hB : Big w) :
    Calls Tryd.prog 7 #[.string ⟨F.toArray⟩, .int .i64 o, .slice p n cap] w (One w) := by
  have HBg := Lib.hid hB
  clear hB
  refine (callsIn_wide (n := 9)).1 ?_
  refine callsIn_of_wp_marks Tryd.func7 rfl trivial ?_ rfl
  simp only [Tryd.ntmps7, List.size_toArray, List.length_cons, List.length_nil, Nat.reduceAdd, Nat.reduceSub, Array.replicate_succ, Array.replicate_zero, List.push_toArray, List.append_toArray, List.nil_append, List.cons_append]
  gi_wp2
  generalize hW0 : (((w.alloc (.cells #[.string ⟨F.toArray⟩] 9)).alloc (.cells #[.int .i64 o] 3)).alloc (.cells #[.slice p n cap] 39)).alloc (.cells #[.bool false] 4) = W0
  have hBw : Below w.heap.size w W0 := by
    rw [← hW0]
    exact ((((Below.refl _ _).alloc (Nat.le_refl _) _).alloc (by simp only [World.size_alloc]; omega) _).alloc (by simp only [World.size_alloc]; omega) _).alloc (by simp only [World.size_alloc]; omega) _
  have hsz : W0.heap.size = w.heap.size + 4 := by rw [← hW0]; simp
  have kR : W0.heap[w.heap.size + 1 + 1 + 1]? = some (.cells #[.bool false] 4 (0, 0)) := by
    rw [← hW0]
    have := heap_alloc_new (((w.alloc (.cells #[.string ⟨F.toArray⟩] 9)).alloc (.cells #[.int .i64 o] 3)).alloc (.cells #[.slice p n cap] 39)) (.cells #[.bool false] 4)
    simpa using this
  clear hW0
  have HBw := Lib.hid hBw
  clear hBw
  refine ⟨trivial, ?_⟩
  refine (callsIn_wide.2 (awake_any _ (HBg.out.below HBw.out))).mono ?_
  rintro e W2 ⟨rfl, hb2⟩
  have kR2 := (hb2.block (w.heap.size + 1 + 1 + 1) (by omega)).trans kR
  have cR2 := cell_of_row W2 (w.heap.size + 1 + 1 + 1) 0 _ _ _ kR2
  have fR2 := frozen_of_row W2 (w.heap.size + 1 + 1 + 1) 0 _ _ kR2
  gi_wp2
  have cE : (W2.setCell ⟨w.heap.size + 1 + 1 + 1, 0, none⟩ (.bool true)).cell? ⟨w.heap.size + 1 + 1 + 1, 0, none⟩ = some (.bool true) := World.cell?_setCell_same _ _ _ cR2
  refine ⟨.bool true, ?_, rfl, (HBw.out.trans (hb2.mono (by omega))).setCell (by simp only; omega) _⟩
  simp [results, Tryd.f7, go_sem, cE]
attribute [local go_sem] Oper.semAt_some in
set_option maxRecDepth 100000 in
set_option maxHeartbeats 4000000 in
theorem walk_many (F : List UInt8) (o : Int) (p : Option Addr) (n cap : Nat) (w : World) (hF : (F.length : Int) ≤ 100) (hn : (10 : Int) < n) (hB : Big w) :
    Calls Tryd.prog 7 #[.string ⟨F.toArray⟩, .int .i64 o, .slice p n cap] w (One w) := by
  have HBg := Lib.hid hB
  clear hB
  refine (callsIn_wide (n := 9)).1 ?_
  refine callsIn_of_wp_marks Tryd.func7 rfl trivial ?_ rfl
  simp only [Tryd.ntmps7, List.size_toArray, List.length_cons, List.length_nil, Nat.reduceAdd, Nat.reduceSub, Array.replicate_succ, Array.replicate_zero, List.push_toArray, List.append_toArray, List.nil_append, List.cons_append]
  gi_wp2
  generalize hW0 : (((w.alloc (.cells #[.string ⟨F.toArray⟩] 9)).alloc (.cells #[.int .i64 o] 3)).alloc (.cells #[.slice p n cap] 39)).alloc (.cells #[.bool false] 4) = W0
  have hBw : Below w.heap.size w W0 := by
    rw [← hW0]
    exact ((((Below.refl _ _).alloc (Nat.le_refl _) _).alloc (by simp only [World.size_alloc]; omega) _).alloc (by simp only [World.size_alloc]; omega) _).alloc (by simp only [World.size_alloc]; omega) _
  have hsz : W0.heap.size = w.heap.size + 4 := by rw [← hW0]; simp
  have kR : W0.heap[w.heap.size + 1 + 1 + 1]? = some (.cells #[.bool false] 4 (0, 0)) := by
    rw [← hW0]
    have := heap_alloc_new (((w.alloc (.cells #[.string ⟨F.toArray⟩] 9)).alloc (.cells #[.int .i64 o] 3)).alloc (.cells #[.slice p n cap] 39)) (.cells #[.bool false] 4)
    simpa using this
  clear hW0
  have HBw := Lib.hid hBw
  clear hBw
  refine ⟨trivial, ?_⟩
  refine (callsIn_wide.2 (awake_any _ (HBg.out.below HBw.out))).mono ?_
  rintro e W2 ⟨rfl, hb2⟩
  have kR2 := (hb2.block (w.heap.size + 1 + 1 + 1) (by omega)).trans kR
  have cR2 := cell_of_row W2 (w.heap.size + 1 + 1 + 1) 0 _ _ _ kR2
  have fR2 := frozen_of_row W2 (w.heap.size + 1 + 1 + 1) 0 _ _ kR2
  gi_wp2
  have cE : (W2.setCell ⟨w.heap.size + 1 + 1 + 1, 0, none⟩ (.bool true)).cell? ⟨w.heap.size + 1 + 1 + 1, 0, none⟩ = some (.bool true) := World.cell?_setCell_same _ _ _ cR2
  refine ⟨.bool true, ?_, rfl, (HBw.out.trans (hb2.mono (by omega))).setCell (by simp only; omega) _⟩
  simp [results, Tryd.f7, go_sem, cE]
theorem walk (F : List UInt8) (o : Int) (p : Option Addr) (b off cap : Nat) (ws : List (List UInt8)) (w : World) (hp : 0 < ws.length → p = some ⟨b, off, none⟩) (hc : 0 < ws.length → TL w b off ws) (hb : b < w.heap.size) (hB : Big w) :
    Calls Tryd.prog 7 #[.string ⟨F.toArray⟩, .int .i64 o, .slice p ws.length cap] w (One w) := by
  by_cases hF : F.length ≤ 100
  · by_cases hn : ws.length ≤ 10
    · exact walk_main F o p b off cap ws w hF hn hp hc hb hB
    · exact walk_many F o p ws.length cap w (by omega) (by omega) hB
  · exact walk_long F o p ws.length cap w (by omega) hB

set_option maxRecDepth 100000 in
theorem lifted (os : Os) (started : os.Started) (H : Type) (enc : TypeId × Value → H) :
    ReturnsInHanded {} Tryd.checked os 7 .any (fun w args => (Rows.abbrGoesSpec.pre enc Tryd.prog Tryd.f7 [] false w args ∧ laidMetH Tryd.prog LL w) ∧ sizedMet enc Tryd.prog Tryd.f7 (OpenSpec.ofChange Rows.abbrGoesSpec) false w args)
      (Rows.abbrGoesSpec.post enc Tryd.prog Tryd.f7 false true false false) := by
  refine returnsInHanded_and_shaped (C := Tryd.checked) (X := fun w _ => laidMetH Tryd.prog LL w) (fun _ _ _ hh h => h.of_heap hh) ownK started (by kernel_rfl) Tryd.func7
    (ChangeSpec.witness_shaped (enc := enc) (C := Tryd.checked) (os := os) (X := fun w _ => laidMetH Tryd.prog LL w) false (World.laidAll Tryd.prog os LL) #[.string ⟨#[]⟩, .int .i64 0, .slice none 0 0] 8 (World.laidAll_os _ _ _) (World.shaped_of_ZipB (by kernel_rfl) (by kernel_rfl)) (by kernel_rfl) (by kernel_rfl) (by kernel_rfl) (door_met os _)) ?_
  intro W base args ds gs before hval0 hW hL hsh
  have hval : ∀ (j : Nat) t v, Tryd.f7.params[j]? = some t → args[j]? = some v → Value.okWide Tryd.prog W .any base t v := hval0
  have hW' := hW
  obtain ⟨p, q, hA0, hV, rfl, _, _⟩ := hW
  have hA : DataW.TrodAll enc Tryd.prog W 0 (fun _ => true) true Tryd.f7.params.toList args.toList ds p := hA0
  rw [Tryd.params7] at hA hval
  obtain ⟨rfl, rfl⟩ := trodVars_none hV
  obtain ⟨v0, v1, v2, d0, d1, d2, p0, p1, p2, rfl, rfl, rfl, h0, h1, h2⟩ := trodAll_three hA
  have hbig := big_of_shaped hsh
  obtain ⟨s, rfl, rfl, rfl, ws0⟩ := open_string Tryd.underlying9 (hval 0 9 v0 rfl rfl) h0
  obtain ⟨⟨F⟩⟩ := s
  obtain ⟨off, rfl, rfl, rfl, woff⟩ := open_int Tryd.underlying3 (hval 1 3 v1 rfl rfl) h1
  obtain ⟨p, b, of, cap, ws, rfl, hp, hc, hb⟩ := arg_strs (W := W) (by obtain ⟨m, hm⟩ := hbig; exact Nat.lt_of_le_of_lt (Nat.zero_le _) (block_lt_of_cell hm)) (hval 2 39 v2 rfl rfl) h2
  clear hA0 hval0
  have hend : ∀ e W', One W e W' → ∃ v, e = .returned v ∧ Rows.abbrGoesSpec.post enc Tryd.prog Tryd.f7 false true false false W _ v W' := fun e W' ⟨he, hb⟩ =>
    ⟨_, he, post_law hW' laidOut rfl rfl Tryd.underlying4 (by kernel_rfl) rfl hb⟩
  exact (walk _ off p b of cap ws W hp hc hb hbig).mono hend
/-- the row's statement -/
theorem said : Rows.AbbrGoesSaid :=
  OpenClaim.holds_of_wide 7 Tryd.f7 rfl rfl rfl rfl rfl rfl rfl ⟨rfl, rfl, rfl, rfl, rfl⟩ rfl rfl rfl rfl rfl (by kernel_rfl) Tryd.func7 (by kernel_rfl)
    (of_decide_eq_true (by kernel_rfl)) (by unfold Func.isWrapper; rw [if_neg (of_decide_eq_false (by kernel_rfl))]; exact ⟨rfl, rfl⟩)
    (fun os started H enc _ => lifted os started H enc)
/-- THE STATEMENT -/
theorem proved : Rows.AbbrGoesCardSaid :=
  Claim7.holds_tied_plain_at .later [] [.data, .pinned] true (true, "44e62a590b3d09950b753cbfd8abd277829d3ddc62366a440c339f7c4de3986b") false
    said (fun _ h => by cases h) (by kernel_rfl) (fun _ h => by cases h) abbrGoes_row_tie rfl ⟨rfl, rfl⟩ (by kernel_rfl) rfl
    (fun f fn hf hfn => by
      obtain rfl : f = 7 := Option.some.inj ((show Tryd.prog.funcNamed "meridian/meridianlaw12.AbbrGoes" = some 7 by kernel_rfl).symm.trans hf) |>.symm
      obtain rfl : fn = Tryd.f7 := (Option.some.inj (Tryd.func7.symm.trans hfn)).symm
      exact ⟨by kernel_rfl, fun j t ht => by
        rw [Tryd.params7] at ht
        have hm : t ∈ [9, 3, 39] := by
          have := Array.mem_of_getElem? ht
          simp at this
          simp
          omega
        have hall : ([9, 3, 39].all fun u => !Tryd.prog.wantsStandIn u) = true := by kernel_rfl
        exact (show Tryd.prog.wantsStandIn t = false by simpa using List.all_eq_true.1 hall t hm)⟩)
    (by kernel_rfl)
#print axioms proved
end Go.Proofs.YtakpbgjmblbaiaaDoor.abbrGoes
