/-
  THE WALK of clock.Span.
-/
import Derived.Test.YtbejbagpdjfgmaaDoorNumbers
import Derived.Scope
import Derived.WalkMore
import Derived.Deep.Cut
namespace Go.Proofs.YtbejbagpdjfgmaaDoor
open Go Go.RowKit
attribute [local go_sem] Oper.semAt_some
theorem cut_any (l : List UInt8) (w : World) : Calls Tryd.prog 33 #[.string ⟨l.toArray⟩, .string ⟨#[45]⟩] w fun e w' => e = .returned (.tuple #[.string ⟨(Lib.trimPrefix l [45]).toArray⟩, .bool (Lib.hasPrefix l [45])]) ∧ w = w' :=
  (Tryd.strings_CutPrefix ⟨l.toArray⟩ ⟨#[45]⟩ w).mono fun _ _ ⟨h1, h2⟩ => ⟨by simpa using h1, h2.symm⟩
theorem keptN_t {H Bn n₀ : Nat} {A B C : World} (h : KeptN H Bn n₀ A B) (h' : KeptN H Bn n₀ B C) : KeptN H Bn n₀ A C := ⟨Nat.le_trans h.1 h'.1, fun k o hk h1 => h'.2.1 k o hk (h.2.1 k o hk h1), h'.2.2.1.trans h.2.2.1, h.2.2.2.trans h'.2.2.2⟩
theorem dec3_bd {r : List UInt8} {m : Nat} (h : Lib.decFrom 0 r = some m) (hl : r.length ≤ 3) : m < 1000 := by
  have := Lib.decFrom_lt _ 0 m h
  have hp : 10 ^ r.length ≤ 10 ^ 3 := Nat.pow_le_pow_right (by decide) hl
  omega
theorem atoi3_bd {l : List UInt8} {n : Int} (h : Lib.atoiAll l = .ok n) (hl : l.length ≤ 3) : n < 1000 := by
  rw [Lib.atoiAll_short l (by omega)] at h
  cases ha : Lib.atoi l with
  | none => rw [ha] at h; cases h
  | some k =>
    rw [ha] at h
    obtain rfl : k = n := by injection h
    obtain ⟨b0, r, rfl, hc⟩ := Lib.atoi_cases ha
    simp only [List.length_cons] at hl
    rcases hc with ⟨_, m, _, hm, rfl⟩ | ⟨_, m, _, hm, rfl⟩ | ⟨_, _, m, hm, rfl⟩
    · have := dec3_bd hm (by omega); omega
    · have := dec3_bd hm (by omega); omega
    · have := dec3_bd hm (by simp only [List.length_cons]; omega); omega
theorem dgN_atoi {l : List UInt8} {n : Int} (h : dgN l = some n) : Lib.atoiAll l = .ok n := by
  unfold dgN at h
  split at h
  · cases h
  · split at h
    · rename_i m hm
      cases h
      exact hm
    · cases h
theorem nbV_le (i : Nat) (p : List UInt8) : nbV i p ≤ 999 := by
  unfold nbV
  split
  · rename_i n hn
    split
    · rename_i hc
      rcases hc with hc | hc
      · have := atoi3_bd (dgN_atoi hn) hc.2; omega
      · omega
    · omega
  · omega
theorem nbl_inv : ∀ (i : Nat) (ps : List (List UInt8)) (k : Nat) (x : Int × Int), (nbl i ps)[k]? = some x → x.1 = ((i + k : Nat) : Int) ∧ x.2 ≤ 999
  | _, [], k, x, h => by simp [nbl] at h
  | i, q :: ps, 0, x, h => by
    obtain rfl : ((i : Int), nbV i q) = x := by simpa [nbl] using h
    exact ⟨rfl, nbV_le _ _⟩
  | i, q :: ps, k + 1, x, h => by
    unfold nbl at h
    rw [List.getElem?_cons_succ] at h
    obtain ⟨h1, h2⟩ := nbl_inv (i + 1) ps k x h
    exact ⟨by rw [h1]; omega, h2⟩
def unitOf (i : Int) : Int := if i = 0 then 3600 else if i = 1 then 60 else 1
def sumP (xs : List (Int × Int)) : Int := xs.foldl (fun s x => s + x.2 * unitOf x.1) 0
theorem sumP_snoc (xs : List (Int × Int)) (x : Int × Int) : sumP (xs ++ [x]) = sumP xs + x.2 * unitOf x.1 := by simp [sumP, List.foldl_append]
def okX (x : Int × Int) : Prop := 0 ≤ x.2 ∧ x.1 < 3
instance (x : Int × Int) : Decidable (okX x) := by unfold okX; infer_instance
abbrev boxE (v : Int) : Obj := .cells #[.int .i64 v] 24 (0, 0)
abbrev boxU : Obj := .cells #[.int .i64 3600, .int .i64 60, .int .i64 1] 60 (0, 0)
abbrev numIt : Nat := 48
theorem enters_num (args : Array Value) (w : World) : (callFunc numIt args).run Tryd.prog w = .ok (.enter numIt args) w := enters_of Tryd.func48 (by kernel_rfl) rfl args w
theorem may_yes (n : Int) (w : World) (h1 : -604800 < n) (h2 : n < 604800) : Calls Tryd.prog 25 #[.int .i64 n] w fun e w' => e = .returned (.bool true) ∧ w = w' := by
  go_enter Tryd.func25, Tryd.ntmps25
  go_wp2_with fail
  go_ret
  exact ⟨rfl, rfl⟩
theorem may_hi (n : Int) (w : World) (h : 604800 ≤ n) : Calls Tryd.prog 25 #[.int .i64 n] w fun e w' => e = .returned (.bool false) ∧ w = w' := by
  have hd : decide (n < 604800) = false := decide_eq_false (by omega)
  go_enter Tryd.func25, Tryd.ntmps25
  go_wp2_with fail
  go_ret
  exact ⟨rfl, rfl⟩
theorem may_lo (n : Int) (w : World) (h : n ≤ -604800) : Calls Tryd.prog 25 #[.int .i64 n] w fun e w' => e = .returned (.bool false) ∧ w = w' := by
  go_enter Tryd.func25, Tryd.ntmps25
  go_wp2_with fail
  go_ret
  exact ⟨rfl, rfl⟩
/-- what clock.Span answers -/
def spV (l : List UInt8) : Value := if l = [45] then .tuple #[.int .i64 0, .int .i64 0] else
  if ∀ x ∈ nbs (Lib.trimPrefix l [45]), okX x then
    if 604800 ≤ sumP (nbs (Lib.trimPrefix l [45])) then .tuple #[.int .i64 0, .int .i64 10]
    else if Lib.hasPrefix l [45] = true then .tuple #[.int .i64 (-sumP (nbs (Lib.trimPrefix l [45]))), .int .i64 0] else .tuple #[.int .i64 (sumP (nbs (Lib.trimPrefix l [45]))), .int .i64 0]
  else .tuple #[.int .i64 0, .int .i64 12]
set_option maxRecDepth 100000 in
set_option maxHeartbeats 4000000 in
theorem span_main (l : List UInt8) (w : World) (hl : l.length ≤ 1000) (hd : l ≠ [45]) (hT : Txt w) :
    Calls Tryd.prog 18 #[.string ⟨l.toArray⟩] w fun e w' => e = .returned (spV l) ∧ Below w.heap.size w w' := by
  have HD := Lib.hid hd
  have HL := Lib.hid hl
  have HT := Lib.hid hT
  have hd1 : (l == [45]) = false := beq_eq_false_iff_ne.2 hd
  clear hl hT hd
  refine (callsIn_wide (n := 9)).1 ?_
  refine callsIn_of_wp_marks Tryd.func18 rfl trivial ?_ rfl
  simp only [Tryd.ntmps18, List.size_toArray, List.length_cons, List.length_nil, Nat.reduceAdd, Nat.reduceSub, Array.replicate_succ, Array.replicate_zero, List.push_toArray, List.append_toArray, List.nil_append, List.cons_append]
  refine wpIn_wide.2 ?_
  go_wp2_with fail
  go_step3
  go_wp2_with fail
  refine (cut_any l _).mono ?_
  rintro e w9 ⟨rfl, rfl⟩
  obtain ⟨p, hp⟩ : ∃ p, Lib.trimPrefix l [45] = p := ⟨_, rfl⟩
  obtain ⟨ng, hng⟩ : ∃ b, Lib.hasPrefix l [45] = b := ⟨_, rfl⟩
  rw [hp, hng]
  have HPp := Lib.hid hp
  have HNg := Lib.hid hng
  clear hp hng
  go_wp2_with fail
  go_step3
  go_wp2_with fail
  refine (numbers_any p _).mono ?_
  rintro e W4 ⟨rfl, hW4⟩
  simp only [World.size_alloc]
  have k0 : W4.heap[w.heap.size]? = some boxU := by
    rw [hW4, Below.heap_alloc _ _ _ (by simp only [World.size_alloc]; omega), Below.heap_alloc _ _ _ (by simp only [World.size_alloc]; omega), Below.heap_alloc _ _ _ (by simp only [World.size_alloc]; omega)]
    exact heap_alloc_new w _
  have k1 : W4.heap[w.heap.size + 1]? = some (boxI 0) := by
    rw [hW4, Below.heap_alloc _ _ _ (by simp only [World.size_alloc]; omega), Below.heap_alloc _ _ _ (by simp only [World.size_alloc]; omega)]
    have := heap_alloc_new (w.alloc boxU) (boxI 0)
    simpa using this
  have k2 : W4.heap[w.heap.size + 1 + 1]? = some (boxE 0) := by
    rw [hW4, Below.heap_alloc _ _ _ (by simp only [World.size_alloc]; omega)]
    have := heap_alloc_new ((w.alloc boxU).alloc (boxI 0)) (boxE 0)
    simpa using this
  have k3 : W4.heap[w.heap.size + 1 + 1 + 1]? = some (boxS p) := by
    rw [hW4]
    have := heap_alloc_new (((w.alloc boxU).alloc (boxI 0)).alloc (boxE 0)) (boxS p)
    simpa using this
  have b4 : Below w.heap.size w W4 := by
    rw [hW4]
    exact ((((Below.refl _ _).alloc (Nat.le_refl _) _).alloc (by simp only [World.size_alloc]; omega) _).alloc (by simp only [World.size_alloc]; omega) _).alloc (by simp only [World.size_alloc]; omega) _
  have s4 : W4.heap.size = w.heap.size + 4 := by rw [hW4]; simp
  clear hW4
  go_wp2_with fail
  refine (wpIn_wide (n := 9)).1 ?_
  have g1 : 6 < w.heap.size := HT.out.1.elim fun ev h => block_lt_of_cell h.1
  have g2 : 7 < w.heap.size := HT.out.2.elim fun ev h => block_lt_of_cell h.1
  have hpl : p.length ≤ 1000 := by
    rw [← HPp.out]
    unfold Lib.trimPrefix
    split
    · have := HL.out; simp; omega
    · exact HL.out
  refine wpIn_rangeFunc_far (n := 9) rfl (by decide) (gf := numIt) (lb := #[.pointer (some ⟨w.heap.size + 1 + 1 + 1, 0, none⟩)]) rfl trivial enters_num
    (numbers_stops (9 - 1) (W4.heap.size + 2) (w.heap.size + 1 + 1 + 1) w.heap.size p hpl (by decide) W4 k3 (by omega) g1 g2 (txt_below HT.out g1 g2 b4))
    (by omega) keptN_t
    (fun V l ob ob' hle hlt h2 h3 h4 => ⟨by simp [World.putObj], fun k o hk h => (World.putObj_heap_other (by omega)).trans h, World.putObj_heap_other (by omega), belowK_b (w := w) (Nat.le_refl _) V l ob ob' (by omega) h2 h3 h4⟩) (Below.refl _ _) (fun _ => rfl)
    (fun pre V => (∀ x ∈ pre, okX x) ∧ (∃ S : Int, S = sumP pre ∧ 0 ≤ S ∧ S ≤ 3600000 * (pre.length : Int) ∧ V.heap[w.heap.size + 1]? = some (boxI S)) ∧ V.heap[w.heap.size]? = some boxU ∧ V.heap[w.heap.size + 1 + 1]? = some (boxE 0) ∧ W4.heap.size ≤ V.heap.size ∧ Below w.heap.size w V)
    (fun c pre V => c = .exit 0 ∧ (∃ x ∈ pre, ¬ okX x) ∧ (∃ S, V.heap[w.heap.size + 1]? = some (boxI S)) ∧ V.heap[w.heap.size + 1 + 1]? = some (boxE 12) ∧ W4.heap.size ≤ V.heap.size ∧ Below w.heap.size w V)
    (fun t A B r h hg hr => ⟨h.1, h.2.1.elim fun S hS => ⟨S, hS.1, hS.2.1, hS.2.2.1, grown_far hg hS.2.2.2 (by omega)⟩, grown_far hg h.2.2.1 (by omega), grown_far hg h.2.2.2.1 (by omega), Nat.le_trans h.2.2.2.2.1 hg.size, h.2.2.2.2.2.grown hg (by have := h.2.2.2.2.1; omega) (fun k e => by cases e; omega)⟩)
    (fun c t A B r h hg hr => ⟨h.1, h.2.1, h.2.2.1.elim fun S hS => ⟨S, grown_far hg hS (by omega)⟩, grown_far hg h.2.2.2.1 (by omega), Nat.le_trans h.2.2.2.2.1 hg.size, h.2.2.2.2.2.grown hg (by have := h.2.2.2.2.1; omega) (fun k e => by cases e; omega)⟩)
    ⟨fun x h => absurd h (by simp), ⟨0, rfl, by omega, by simp, k1⟩, k0, k2, Nat.le_refl _, b4⟩
    ?a1
    (fun pre _ V => (∀ x ∈ pre, okX x) ∧ (∃ S : Int, S = sumP pre ∧ 0 ≤ S ∧ S ≤ 3600000 * (pre.length : Int) ∧ V.heap[w.heap.size + 1]? = some (boxI S)) ∧ V.heap[w.heap.size]? = some boxU ∧ V.heap[w.heap.size + 1 + 1]? = some (boxE 0) ∧ W4.heap.size ≤ V.heap.size ∧ Below w.heap.size w V)
    (fun pre t A B r h hg hr => ⟨h.1, h.2.1.elim fun S hS => ⟨S, hS.1, hS.2.1, hS.2.2.1, grown_far hg hS.2.2.2 (by omega)⟩, grown_far hg h.2.2.1 (by omega), grown_far hg h.2.2.2.1 (by omega), Nat.le_trans h.2.2.2.2.1 hg.size, h.2.2.2.2.2.grown hg (by have := h.2.2.2.2.1; omega) (fun k e => by cases e; omega)⟩)
    ?assign ?body ?done ?stop
  case assign =>
    rintro l' pre x V K hI hlen hpx hK
    have HI := Lib.hid hI
    have HK := Lib.hid hK
    clear hI hK hpx
    gi_wp2
    exact HK.out _ (KF.refl _ _) ⟨Nat.le_refl _, fun k o _ h => h, rfl, Below.refl _ _⟩ HI.out
  case done =>
    rintro D ys V hD hys ⟨hok, ⟨S, hS, S0, S1, hs1⟩, hu, he, hsz, hbn⟩ hK
    subst hys
    have cs : V.cell? ⟨w.heap.size + 1, 0, none⟩ = some (.int .i64 S) := cell_of_row V _ 0 _ _ _ hs1
    have ce : V.cell? ⟨w.heap.size + 1 + 1, 0, none⟩ = some (.int .i64 0) := cell_of_row V _ 0 _ _ _ he
    have hDb : Below w.heap.size w (V.putObj D (.deferred none)) := hbn.trans (belowK_b (w := w) (Nat.le_refl _) V D _ _ (by omega) hK rfl rfl)
    have HDb := Lib.hid hDb
    have HK := Lib.hid hK
    by_cases hM : 604800 ≤ S
    · have EV := Lib.hid (show spV l = .tuple #[.int .i64 0, .int .i64 10] by unfold spV; rw [if_neg HD.out, HPp.out, if_pos hok, ← hS, if_pos hM])
      clear hS S1 hok hs1 hu he hbn hK hDb k0 k1 k2 k3 b4
      go_wp2_with fail
      refine (may_hi S _ hM).mono ?_
      rintro e w9 ⟨rfl, rfl⟩
      go_wp2_with fail
      rw [Exit.noGoto_ret]
      refine ⟨by simp, .inl ⟨_, _, rfl, run_takeDeferred HK.out, ?_⟩⟩
      exact ⟨_, results_tmp2 rfl _ _ _, by rw [EV.out]; rfl, HDb.out⟩
    · cases ng with
      | true =>
        have EV := Lib.hid (show spV l = .tuple #[.int .i64 (-S), .int .i64 0] by unfold spV; rw [if_neg HD.out, HPp.out, if_pos hok, ← hS, if_neg hM, if_pos HNg.out])
        have hM2 : S < 604800 := by omega
        clear hS S1 hok hs1 hu he hbn hK hDb k0 k1 k2 k3 b4 hM
        go_wp2_with fail
        refine (may_yes S _ (by omega) (by omega)).mono ?_
        rintro e w9 ⟨rfl, rfl⟩
        go_wp2_with fail
        rw [Exit.noGoto_ret]
        refine ⟨by simp, .inl ⟨_, _, rfl, run_takeDeferred HK.out, ?_⟩⟩
        exact ⟨_, results_tmp2 rfl _ _ _, by rw [EV.out]; rfl, HDb.out⟩
      | false =>
        have EV := Lib.hid (show spV l = .tuple #[.int .i64 S, .int .i64 0] by unfold spV; rw [if_neg HD.out, HPp.out, if_pos hok, ← hS, if_neg hM, if_neg (by rw [HNg.out]; decide)])
        have hM2 : S < 604800 := by omega
        clear hS S1 hok hs1 hu he hbn hK hDb k0 k1 k2 k3 b4 hM
        go_wp2_with fail
        refine (may_yes S _ (by omega) (by omega)).mono ?_
        rintro e w9 ⟨rfl, rfl⟩
        go_wp2_with fail
        rw [Exit.noGoto_ret]
        refine ⟨by simp, .inl ⟨_, _, rfl, run_takeDeferred HK.out, ?_⟩⟩
        exact ⟨_, results_tmp2 rfl _ _ _, by rw [EV.out]; rfl, HDb.out⟩
  case stop =>
    rintro D c pre V hD hpre ⟨rfl, ⟨x, hx, hnx⟩, ⟨S, hs1⟩, he, hsz, hbn⟩ hK
    have ce : V.cell? ⟨w.heap.size + 1 + 1, 0, none⟩ = some (.int .i64 12) := cell_of_row V _ 0 _ _ _ he
    have hDb : Below w.heap.size w (V.putObj D (.deferred none)) := hbn.trans (belowK_b (w := w) (Nat.le_refl _) V D _ _ (by omega) hK rfl rfl)
    have HDb := Lib.hid hDb
    have HK := Lib.hid hK
    have hno : ¬ ∀ x ∈ nbs p, okX x := fun h => hnx (h x (hpre.subset hx))
    have EV := Lib.hid (show spV l = .tuple #[.int .i64 0, .int .i64 12] by unfold spV; rw [if_neg HD.out, HPp.out, if_neg hno])
    have HBn := Lib.hid hbn
    clear hno hx hnx hs1 he hbn hK hDb k0 k1 k2 k3 b4 hpre HDb
    gi_wp2
    go_wp2_with fail
    go_region
    go_wp2_with fail
    have hK2 : V.drew.heap[D]? = some (.deferred (some [])) := HK.out
    rw [Exit.noGoto_ret]
    refine ⟨by simp, .inl ⟨_, _, rfl, run_takeDeferred hK2, ?_⟩⟩
    exact ⟨_, results_tmp2 rfl _ _ _, by rw [EV.out]; rfl, HBn.out.drew.trans (belowK_b (w := w) (Nat.le_refl _) V.drew D _ _ (by omega) hK2 rfl rfl)⟩
  case body =>
    rintro l' pre ⟨i, v⟩ V ⟨hok, ⟨S, hS, S0, S1, hs1⟩, hu, he, hsz, hbn⟩ hlen hpx
    obtain ⟨hi, hv⟩ := nbl_inv 0 (pcs p) pre.length (i, v) hpx
    simp only [Nat.zero_add] at hi hv
    have u0 : V.cell? ⟨w.heap.size, 0, none⟩ = some (.int .i64 3600) := cell_of_row V _ 0 _ _ _ hu
    have u1 : V.cell? ⟨w.heap.size, 1, none⟩ = some (.int .i64 60) := cell_of_row V _ 1 _ _ _ hu
    have u2 : V.cell? ⟨w.heap.size, 2, none⟩ = some (.int .i64 1) := cell_of_row V _ 2 _ _ _ hu
    have cs : V.cell? ⟨w.heap.size + 1, 0, none⟩ = some (.int .i64 S) := cell_of_row V _ 0 _ _ _ hs1
    have ce : V.cell? ⟨w.heap.size + 1 + 1, 0, none⟩ = some (.int .i64 0) := cell_of_row V _ 0 _ _ _ he
    have fs := frozen_of_row V (w.heap.size + 1) 0 _ _ hs1
    have fe := frozen_of_row V (w.heap.size + 1 + 1) 0 _ _ he
    have i0 : 0 ≤ i := by omega
    have HOk := Lib.hid hok
    have HSu := Lib.hid hS
    have HS1 := Lib.hid hs1
    have HU := Lib.hid hu
    have HE := Lib.hid he
    have HBn := Lib.hid hbn
    have HIi := Lib.hid hi
    clear hok hS hs1 hu he hbn hpx k0 k1 k2 k3 b4
    by_cases v0 : v < 0
    · clear hi
      gi_wp2
      refine ⟨KF.of_others (KeepsOthers.setCell _ _ _), rfl, ⟨(i, v), by simp, fun h => ?_⟩, ⟨S, (heap_setCell_other _ _ _ _ (by simp only; omega)).trans HS1.out⟩, heap_setCell_same V (w.heap.size + 1 + 1) 0 _ _ _ HE.out, by simp only [World.size_setCell]; omega, HBn.out.setCell (by simp only; omega) _⟩
      have h1 := h.1
      have h2 := h.2
      simp only at h1 h2
      omega
    · by_cases i3 : 3 ≤ i
      · have v1 : 0 ≤ v := by omega
        clear v0 hi
        gi_wp2
        refine ⟨KF.of_others (KeepsOthers.setCell _ _ _), rfl, ⟨(i, v), by simp, fun h => ?_⟩, ⟨S, (heap_setCell_other _ _ _ _ (by simp only; omega)).trans HS1.out⟩, heap_setCell_same V (w.heap.size + 1 + 1) 0 _ _ _ HE.out, by simp only [World.size_setCell]; omega, HBn.out.setCell (by simp only; omega) _⟩
        have h1 := h.1
        have h2 := h.2
        simp only at h1 h2
        omega
      · have i012 : i = 0 ∨ i = 1 ∨ i = 2 := by omega
        have hpb : (pre.length : Int) ≤ 2 := by omega
        have S2 : S ≤ 7200000 := by omega
        have v1 : 0 ≤ v := by omega
        have HS1b := Lib.hid S1
        clear v0 i3 hi S1
        rcases i012 with rfl | rfl | rfl
        ·
          have w1 : IntKind.i64.wrap (v * 3600) = v * 3600 := IntWalk.i64_in _ ⟨by omega, by omega⟩
          have w2 : IntKind.i64.wrap (S + v * 3600) = S + v * 3600 := IntWalk.i64_in _ ⟨by omega, by omega⟩
          gi_wp2
          gi_region
          all_goals gi_wp2
          all_goals
            refine ⟨KF.of_others ((KeepsOthers.setCell _ _ _).trans (KeepsOthers.drew _)), ⟨by show V.heap.size ≤ (V.setCell _ _).heap.size; simp only [World.size_setCell]; omega, fun k o hk h => (heap_setCell_other _ _ _ _ (by simp only; omega)).trans h, heap_setCell_other _ _ _ _ (by simp only; omega), ((Below.refl _ _).setCell (by simp only; omega) _).drew⟩, ?_, ⟨S + v * 3600, ?_, by omega, ?_, heap_setCell_same V (w.heap.size + 1) 0 _ _ _ HS1.out⟩, (heap_setCell_other _ _ _ _ (by simp only; omega)).trans HU.out, (heap_setCell_other _ _ _ _ (by simp only; omega)).trans HE.out, by show W4.heap.size ≤ (V.setCell _ _).heap.size; simp only [World.size_setCell]; omega, (HBn.out.setCell (by simp only; omega) _).drew⟩
            · intro x hx
              rcases List.mem_append.1 hx with hx | hx
              · exact HOk.out x hx
              · have : x = (0, v) := by simpa using hx
                rw [this]
                exact ⟨v1, by show (0 : Int) < 3; decide⟩
            · rw [sumP_snoc, ← HSu.out]
              simp [unitOf]
            · rw [List.length_append]
              have := HIi.out
              have := HS1b.out
              simp only [List.length_singleton]
              omega
        ·
          have w1 : IntKind.i64.wrap (v * 60) = v * 60 := IntWalk.i64_in _ ⟨by omega, by omega⟩
          have w2 : IntKind.i64.wrap (S + v * 60) = S + v * 60 := IntWalk.i64_in _ ⟨by omega, by omega⟩
          gi_wp2
          gi_region
          all_goals gi_wp2
          all_goals
            refine ⟨KF.of_others ((KeepsOthers.setCell _ _ _).trans (KeepsOthers.drew _)), ⟨by show V.heap.size ≤ (V.setCell _ _).heap.size; simp only [World.size_setCell]; omega, fun k o hk h => (heap_setCell_other _ _ _ _ (by simp only; omega)).trans h, heap_setCell_other _ _ _ _ (by simp only; omega), ((Below.refl _ _).setCell (by simp only; omega) _).drew⟩, ?_, ⟨S + v * 60, ?_, by omega, ?_, heap_setCell_same V (w.heap.size + 1) 0 _ _ _ HS1.out⟩, (heap_setCell_other _ _ _ _ (by simp only; omega)).trans HU.out, (heap_setCell_other _ _ _ _ (by simp only; omega)).trans HE.out, by show W4.heap.size ≤ (V.setCell _ _).heap.size; simp only [World.size_setCell]; omega, (HBn.out.setCell (by simp only; omega) _).drew⟩
            · intro x hx
              rcases List.mem_append.1 hx with hx | hx
              · exact HOk.out x hx
              · have : x = (1, v) := by simpa using hx
                rw [this]
                exact ⟨v1, by show (1 : Int) < 3; decide⟩
            · rw [sumP_snoc, ← HSu.out]
              simp [unitOf]
            · rw [List.length_append]
              have := HIi.out
              have := HS1b.out
              simp only [List.length_singleton]
              omega
        ·
          have w1 : IntKind.i64.wrap (v) = v := IntWalk.i64_in _ ⟨by omega, by omega⟩
          have w2 : IntKind.i64.wrap (S + v) = S + v := IntWalk.i64_in _ ⟨by omega, by omega⟩
          gi_wp2
          gi_region
          all_goals gi_wp2
          all_goals
            refine ⟨KF.of_others ((KeepsOthers.setCell _ _ _).trans (KeepsOthers.drew _)), ⟨by show V.heap.size ≤ (V.setCell _ _).heap.size; simp only [World.size_setCell]; omega, fun k o hk h => (heap_setCell_other _ _ _ _ (by simp only; omega)).trans h, heap_setCell_other _ _ _ _ (by simp only; omega), ((Below.refl _ _).setCell (by simp only; omega) _).drew⟩, ?_, ⟨S + v, ?_, by omega, ?_, heap_setCell_same V (w.heap.size + 1) 0 _ _ _ HS1.out⟩, (heap_setCell_other _ _ _ _ (by simp only; omega)).trans HU.out, (heap_setCell_other _ _ _ _ (by simp only; omega)).trans HE.out, by show W4.heap.size ≤ (V.setCell _ _).heap.size; simp only [World.size_setCell]; omega, (HBn.out.setCell (by simp only; omega) _).drew⟩
            · intro x hx
              rcases List.mem_append.1 hx with hx | hx
              · exact HOk.out x hx
              · have : x = (2, v) := by simpa using hx
                rw [this]
                exact ⟨v1, by show (2 : Int) < 3; decide⟩
            · rw [sumP_snoc, ← HSu.out]
              simp [unitOf]
            · rw [List.length_append]
              have := HIi.out
              have := HS1b.out
              simp only [List.length_singleton]
              omega
set_option maxRecDepth 100000 in
set_option maxHeartbeats 4000000 in
theorem span_dash (w : World) :
    Calls Tryd.prog 18 #[.string ⟨#[45]⟩] w fun e w' => e = .returned (.tuple #[.int .i64 0, .int .i64 0]) ∧ Below w.heap.size w w' := by
  refine (callsIn_wide (n := 9)).1 ?_
  refine callsIn_of_wp_marks Tryd.func18 rfl trivial ?_ rfl
  simp only [Tryd.ntmps18, List.size_toArray, List.length_cons, List.length_nil, Nat.reduceAdd, Nat.reduceSub, Array.replicate_succ, Array.replicate_zero, List.push_toArray, List.append_toArray, List.nil_append, List.cons_append]
  refine wpIn_wide.2 ?_
  go_wp2_with fail
  go_step3
  go_wp2_with fail
  rw [Exit.noGoto_ret]
  exact ⟨_, results_tmp2 rfl _ _ _, rfl, Below.refl _ _⟩
theorem span_any (l : List UInt8) (w : World) (hl : l.length ≤ 1000) (hT : Txt w) :
    Calls Tryd.prog 18 #[.string ⟨l.toArray⟩] w fun e w' => e = .returned (spV l) ∧ Below w.heap.size w w' := by
  by_cases hd : l = [45]
  · subst hd
    exact span_dash w
  · exact span_main l w hl hd hT
end Go.Proofs.YtbejbagpdjfgmaaDoor
