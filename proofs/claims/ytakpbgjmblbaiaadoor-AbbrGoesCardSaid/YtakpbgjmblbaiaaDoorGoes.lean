/-
  THE LAW AbbrGoes, walked.
-/
import Derived.Scope
import Derived.WalkMore
import Derived.Test.YtakpbgjmblbaiaaDoorAll
import Derived.Test.YtakpbgjmblbaiaaDoorRoundQuiet
namespace Go.Proofs.YtakpbgjmblbaiaaDoor
open Go Go.RowKit AbbM
attribute [local go_sem] Oper.semAt_some

theorem eq_nil (a b c : Value) (w : World) : (binOp .eql 41 (.func (.func 26) #[] #[a, b, c]) .nilFunc).run Tryd.prog w = .ok (.bool false) w := by
  first
  | rfl
  | simp [binOp, go_sem]
theorem gl_get (f : Bool → List UInt8 → List UInt8) (ws : List (List UInt8)) : ∀ k m, m < 2 * k → (gl f ws k)[m]? = some (decide (m % 2 = 1), f (decide (m % 2 = 1)) (ws.getD (m / 2) []))
  | 0, m, h => by omega
  | k + 1, m, h => by
    rw [gl_succ]
    by_cases q : m < 2 * k
    · rw [List.getElem?_append_left (by rw [gl_len]; exact q)]
      exact gl_get f ws k m q
    · rw [List.getElem?_append_right (by rw [gl_len]; omega), gl_len]
      have hm : m = 2 * k ∨ m = 2 * k + 1 := by omega
      rcases hm with rfl | rfl
      · rw [show 2 * k - 2 * k = 0 by omega, show 2 * k / 2 = k by omega, decide_eq_false (by omega : ¬ 2 * k % 2 = 1)]
        rfl
      · rw [show 2 * k + 1 - 2 * k = 1 by omega, show (2 * k + 1) / 2 = k by omega, decide_eq_true (by omega : (2 * k + 1) % 2 = 1)]
        rfl
theorem prefix_snoc {α : Type} {pre L : List α} {x : α} (h : pre <+: L) : (pre ++ [x] <+: L) ↔ L[pre.length]? = some x := by
  obtain ⟨t, rfl⟩ := h
  rw [List.prefix_append_right_inj, List.getElem?_append_right (Nat.le_refl _), Nat.sub_self]
  cases t with
  | nil => simp
  | cons y t => simp [eq_comm]
theorem others_below {A B : World} (h : Below A.heap.size A B) : KeepsOthers A B := ⟨h.size, fun k _ hk _ => (h.block k (Array.getElem?_eq_some_iff.1 hk).1).trans hk⟩
theorem frozen_below {n : Nat} {A B : World} (h : Below n A B) {k i : Nat} (hk : k < n) : B.frozen? ⟨k, i, none⟩ = A.frozen? ⟨k, i, none⟩ := by
  unfold World.frozen?
  rw [h.block k hk]
def GLs (F : List UInt8) (o : Int) (ws : List (List UInt8)) : List (Bool × List UInt8) := if showE F o = 0 then gl (showS F o) ws ws.length else []
theorem GLs_of {F : List UInt8} {o : Int} {ws : List (List UInt8)} {m : Nat} (h : showE F o = 0) (hm : m / 2 < ws.length) : (GLs F o ws)[m]? = some (decide (m % 2 = 1), showS F o (decide (m % 2 = 1)) (ws.getD (m / 2) [])) := by
  unfold GLs
  rw [if_pos h, gl_get _ _ _ _ (by omega)]
theorem GLs_some {F : List UInt8} {o : Int} {ws : List (List UInt8)} {m : Nat} {x : Bool × List UInt8} (h : (GLs F o ws)[m]? = some x) : showE F o = 0 ∧ m / 2 < ws.length := by
  unfold GLs at h
  split at h
  · rename_i hE
    have := (List.getElem?_eq_some_iff.1 h).1
    rw [gl_len] at this
    exact ⟨hE, by omega⟩
  · simp at h
theorem GLs_len {F : List UInt8} {o : Int} {ws : List (List UInt8)} : (GLs F o ws).length = if showE F o = 0 then 2 * ws.length else 0 := by
  unfold GLs
  split
  · rw [gl_len]
  · rfl
namespace abbrGoes
set_option maxRecDepth 100000 in
set_option maxHeartbeats 4000000 in
theorem walk_main (F : List UInt8) (o : Int) (p : Option Addr) (b off cap : Nat) (ws : List (List UInt8)) (w : World) (hF : F.length ≤ 100) (hn : ws.length ≤ 10) (hp : 0 < ws.length → p = some ⟨b, off, none⟩) (hc : 0 < ws.length → TL w b off ws) (hb : b < w.heap.size) (hB : Big w) :
    Calls Tryd.prog 7 #[.string ⟨F.toArray⟩, .int .i64 o, .slice p ws.length cap] w (One w) := by
  have HP := Lib.hid hp
  have HC := Lib.hid hc
  have HBb := Lib.hid hb
  have HBg := Lib.hid hB
  have hF2 : (F.length : Int) ≤ 100 := by omega
  have hn2 : (ws.length : Int) ≤ 10 := by omega
  clear hp hc hb hB
  refine (callsIn_wide (n := 9)).1 ?_
  refine callsIn_of_wp_marks Tryd.func7 rfl trivial ?_ rfl
  simp only [Tryd.ntmps7, List.size_toArray, List.length_cons, List.length_nil, Nat.reduceAdd, Nat.reduceSub, Array.replicate_succ, Array.replicate_zero, List.push_toArray, List.append_toArray, List.nil_append, List.cons_append]
  gi_wp2
  generalize hW0 : (((w.alloc (.cells #[.string ⟨F.toArray⟩] 9)).alloc (.cells #[.int .i64 o] 3)).alloc (.cells #[.slice p ws.length cap] 39)).alloc (.cells #[.bool false] 4) = W0
  have hBw : Below w.heap.size w W0 := by
    rw [← hW0]
    exact ((((Below.refl _ _).alloc (Nat.le_refl _) _).alloc (by simp only [World.size_alloc]; omega) _).alloc (by simp only [World.size_alloc]; omega) _).alloc (by simp only [World.size_alloc]; omega) _
  have hsz : W0.heap.size = w.heap.size + 4 := by rw [← hW0]; simp
  have kF : W0.heap[w.heap.size]? = some (.cells #[.string ⟨F.toArray⟩] 9 (0, 0)) := by
    rw [← hW0, Below.heap_alloc _ _ _ (by simp only [World.size_alloc]; omega), Below.heap_alloc _ _ _ (by simp only [World.size_alloc]; omega), Below.heap_alloc _ _ _ (by simp only [World.size_alloc]; omega)]
    exact heap_alloc_new w _
  have kO : W0.heap[w.heap.size + 1]? = some (.cells #[.int .i64 o] 3 (0, 0)) := by
    rw [← hW0, Below.heap_alloc _ _ _ (by simp only [World.size_alloc]; omega), Below.heap_alloc _ _ _ (by simp only [World.size_alloc]; omega)]
    have := heap_alloc_new (w.alloc (.cells #[.string ⟨F.toArray⟩] 9)) (.cells #[.int .i64 o] 3)
    simpa using this
  have kL : W0.heap[w.heap.size + 1 + 1]? = some (.cells #[.slice p ws.length cap] 39 (0, 0)) := by
    rw [← hW0, Below.heap_alloc _ _ _ (by simp only [World.size_alloc]; omega)]
    have := heap_alloc_new ((w.alloc (.cells #[.string ⟨F.toArray⟩] 9)).alloc (.cells #[.int .i64 o] 3)) (.cells #[.slice p ws.length cap] 39)
    simpa using this
  have kR : W0.heap[w.heap.size + 1 + 1 + 1]? = some (.cells #[.bool false] 4 (0, 0)) := by
    rw [← hW0]
    have := heap_alloc_new (((w.alloc (.cells #[.string ⟨F.toArray⟩] 9)).alloc (.cells #[.int .i64 o] 3)).alloc (.cells #[.slice p ws.length cap] 39)) (.cells #[.bool false] 4)
    simpa using this
  clear hW0
  have cF := cell_of_row W0 w.heap.size 0 _ _ _ kF
  have cO := cell_of_row W0 (w.heap.size + 1) 0 _ _ _ kO
  have cL := cell_of_row W0 (w.heap.size + 1 + 1) 0 _ _ _ kL
  have HBw := Lib.hid hBw
  have hC0 : 0 < ws.length → TL W0 b off ws := fun h j hj => (hBw.cell (p := ⟨b, off + j, none⟩) HBb.out).trans (HC.out h j hj)
  have HC0 := Lib.hid hC0
  clear hBw hC0
  gi_loopw [7] (fun i wr => ∃ k : Nat, k ≤ ws.length ∧ i = .int .i64 k ∧ wr = W0 ∧ ∀ j, j < k → (ws.getD j []).length ≤ 100) (fun i _ => ws.length - (intOf i).toNat)
  case atStart => exact ⟨0, Nat.zero_le _, rfl, rfl, fun j hj => by omega⟩
  case round =>
    obtain ⟨k, hk, rfl, rfl, hall⟩ := hrel
    by_cases hlt : k < ws.length
    · obtain rfl := HP.out (by omega)
      have cx := HC0.out (by omega) k hlt
      obtain ⟨x, hx⟩ : ∃ x, ws.getD k [] = x := ⟨_, rfl⟩
      rw [hx] at cx
      have hlt2 : (k : Int) < (ws.length : Int) := by omega
      have HA := Lib.hid hall
      clear hall
      by_cases hl : x.length ≤ 100
      · have hl2 : (x.length : Int) ≤ 100 := by omega
        gi_wp2
        go_roundw
        case rel =>
          refine ⟨k + 1, by omega, by simp, by first | rfl | trivial, fun j hj => ?_⟩
          by_cases q : j = k
          · rw [q, hx]; exact hl
          · exact HA.out j (by omega)
        case measure => simp [intOf]; omega
      · have hl2 : 100 < (x.length : Int) := by omega
        gi_wp2
        refine ⟨trivial, ?_⟩
        refine (callsIn_wide.2 (awake_any _ (HBg.out.below HBw.out))).mono ?_
        rintro e W2 ⟨rfl, hb2⟩
        have kR2 := (hb2.block (w.heap.size + 1 + 1 + 1) (by omega)).trans kR
        have cR2 := cell_of_row W2 (w.heap.size + 1 + 1 + 1) 0 _ _ _ kR2
        have fR2 := frozen_of_row W2 (w.heap.size + 1 + 1 + 1) 0 _ _ kR2
        gi_wp2
        have cE : (W2.setCell ⟨w.heap.size + 1 + 1 + 1, 0, none⟩ (.bool true)).cell? ⟨w.heap.size + 1 + 1 + 1, 0, none⟩ = some (.bool true) := World.cell?_setCell_same _ _ _ cR2
        refine ⟨.bool true, ?_, rfl, (HBw.out.trans (hb2.mono (by omega))).setCell (by simp only; omega) _⟩
        simp [results, Tryd.f7, go_sem, cE]
    · obtain rfl : k = ws.length := by omega
      gi_wp2
      refine ⟨trivial, ?_⟩
      refine (callsIn_wide.2 (all_any F o p ws.length cap _)).mono ?_
      rintro e W1 ⟨rfl, hW1⟩
      have b1 : Below wr.heap.size wr W1 := by
        rw [hW1]
        exact (((Below.refl _ _).alloc (Nat.le_refl _) _).alloc (by simp only [World.size_alloc]; omega) _).alloc (by simp only [World.size_alloc]; omega) _
      have s1 : W1.heap.size = w.heap.size + 7 := by rw [hW1]; simp only [World.size_alloc]; omega
      have aF : W1.heap[wr.heap.size]? = some (.cells #[.string ⟨F.toArray⟩] 9 (0, 0)) := by
        rw [hW1, Below.heap_alloc _ _ _ (by simp only [World.size_alloc]; omega), Below.heap_alloc _ _ _ (by simp only [World.size_alloc]; omega)]
        exact heap_alloc_new wr _
      have aO : W1.heap[wr.heap.size + 1]? = some (.cells #[.int .i64 o] 3 (0, 0)) := by
        rw [hW1, Below.heap_alloc _ _ _ (by simp only [World.size_alloc]; omega)]
        have := heap_alloc_new (wr.alloc (.cells #[.string ⟨F.toArray⟩] 9)) (.cells #[.int .i64 o] 3)
        simpa using this
      have aL : W1.heap[wr.heap.size + 2]? = some (.cells #[.slice p ws.length cap] 39 (0, 0)) := by
        rw [hW1]
        have := heap_alloc_new ((wr.alloc (.cells #[.string ⟨F.toArray⟩] 9)).alloc (.cells #[.int .i64 o] 3)) (.cells #[.slice p ws.length cap] 39)
        simpa using this
      clear hW1
      rw [hsz] at aF aO aL
      have RN := eq_nil (.pointer (some ⟨w.heap.size + 4 + 2, 0, none⟩)) (.pointer (some ⟨w.heap.size + 4, 0, none⟩)) (.pointer (some ⟨w.heap.size + 4 + 1, 0, none⟩)) W1
      gi_wp2
      have kF1 := (b1.block w.heap.size (by omega)).trans kF
      have kO1 := (b1.block (w.heap.size + 1) (by omega)).trans kO
      have kL1 := (b1.block (w.heap.size + 1 + 1) (by omega)).trans kL
      have kR1 := (b1.block (w.heap.size + 1 + 1 + 1) (by omega)).trans kR
      have bw1 : Below w.heap.size w W1 := HBw.out.trans (b1.mono (by omega))
      have kN : (W1.alloc (.cells #[.int .i64 0] 3)).heap[w.heap.size + 7]? = some (.cells #[.int .i64 0] 3 (0, 0)) := by
        have := heap_alloc_new W1 (.cells #[.int .i64 0] 3)
        rwa [s1] at this
      have b2 : Below W1.heap.size W1 (W1.alloc (.cells #[.int .i64 0] 3)) := (Below.refl _ _).alloc (Nat.le_refl _) _
      have s2 : (W1.alloc (.cells #[.int .i64 0] 3)).heap.size = w.heap.size + 8 := by simp only [World.size_alloc]; omega
      generalize W1.alloc (.cells #[.int .i64 0] 3) = W2 at *
      have bw2 : Below w.heap.size w W2 := bw1.trans (b2.mono (by omega))
      have lF := (b2.block w.heap.size (by omega)).trans kF1
      have lO := (b2.block (w.heap.size + 1) (by omega)).trans kO1
      have lL := (b2.block (w.heap.size + 1 + 1) (by omega)).trans kL1
      have lR := (b2.block (w.heap.size + 1 + 1 + 1) (by omega)).trans kR1
      have mF := cell_of_row W2 _ 0 _ _ _ ((b2.block (w.heap.size + 4) (by omega)).trans aF)
      have mO := cell_of_row W2 _ 0 _ _ _ ((b2.block (w.heap.size + 4 + 1) (by omega)).trans aO)
      have mL := cell_of_row W2 _ 0 _ _ _ ((b2.block (w.heap.size + 4 + 2) (by omega)).trans aL)
      have cN := cell_of_row W2 (w.heap.size + 7) 0 _ _ _ kN
      have fN := frozen_of_row W2 (w.heap.size + 7) 0 _ _ kN
      have hT2 : 0 < ws.length → TL W2 b off ws := fun h j hj => (bw2.cell (p := ⟨b, off + j, none⟩) HBb.out).trans (HC.out h j hj)
      clear kF kO kL kR kF1 kO1 kL1 kR1 aF aO aL cF cO cL b1 bw1 RN
      have HA := Lib.hid hall
      clear hall
      refine wpIn_rangeFunc_ownF rfl (by decide) (gf := 26) (lb := #[.pointer (some ⟨w.heap.size + 4 + 2, 0, none⟩), .pointer (some ⟨w.heap.size + 4, 0, none⟩), .pointer (some ⟨w.heap.size + 4 + 1, 0, none⟩)]) rfl trivial (enters_of Tryd.func26 (by kernel_rfl) rfl)
        (all_stops (9 - 1) (w.heap.size + 4 + 2) (w.heap.size + 4) (w.heap.size + 4 + 1) (w.heap.size + 7) b off cap p F o ws (by omega) (fun j hj => by have := HA.out j hj; omega) (by omega) (by have := HBb.out; omega) (by omega) (by omega) HP.out W2 (by omega) mL mF mO hT2 (fun W' hb' => HBg.out.below (bw2.trans (hb'.mono (by omega)))))
        k2_t
        (fun W l ob ob' hle h1 h2 h3 => ⟨belowK_b (by omega) W l ob ob' hle h1 h2 h3, fun k oc hk hk1 hk2 => (World.putObj_heap_other (fun e => by subst e; rw [hk1] at h1; cases h1; rw [hk2] at h2; cases h2)).trans hk1⟩) (Below.refl _ _) (fun _ => rfl)
        (fun pre W => (pre <+: GLs F o ws ∧ W.cell? ⟨w.heap.size + 7, 0, none⟩ = some (.int .i64 pre.length) ∧ W.frozen? ⟨w.heap.size + 7, 0, none⟩ = false) ∧ Below (w.heap.size + 7) W2 W)
        (fun c pre W => c = .ret ∧ ¬ pre <+: GLs F o ws)
        (OwnFrom.and (Own.from (fun s A B row hs hg hr => ⟨hs.1, cell_kept hs.2.1 hg hr, (frozen_kept hs.2.1 hg hr).trans hs.2.2⟩) _) (ownFrom_below (by omega) (by omega)))
        (fun c => ownFrom_pure _ (fun pre => c = .ret ∧ ¬ pre <+: GLs F o ws))
        ⟨⟨List.nil_prefix, cN, fN⟩, Below.refl _ _⟩
        ?a1 ?assign ?body ?done ?stop
      case assign =>
        intro l' x W K hK
        gi_wp2
        exact hK
      case stop =>
        rintro D c pre W hD hpre ⟨rfl, hno⟩ hK
        exact absurd hpre hno
      case body =>
        rintro l' pre ⟨d, S⟩ W ⟨⟨hp, c1, f1⟩, hB⟩ hlen
        have cF := (hB.cell (p := ⟨w.heap.size, 0, none⟩) (by simp only; omega)).trans (cell_of_row W2 w.heap.size 0 _ _ _ lF)
        have cO := (hB.cell (p := ⟨w.heap.size + 1, 0, none⟩) (by simp only; omega)).trans (cell_of_row W2 (w.heap.size + 1) 0 _ _ _ lO)
        have cL := (hB.cell (p := ⟨w.heap.size + 1 + 1, 0, none⟩) (by simp only; omega)).trans (cell_of_row W2 (w.heap.size + 1 + 1) 0 _ _ _ lL)
        have kR := (hB.block (w.heap.size + 1 + 1 + 1) (by omega)).trans lR
        have cR := cell_of_row W (w.heap.size + 1 + 1 + 1) 0 _ _ _ kR
        have fR := frozen_of_row W (w.heap.size + 1 + 1 + 1) 0 _ _ kR
        have HPx := Lib.hid (prefix_snoc (x := (d, S)) hp)
        have hm : pre.length / 2 < ws.length := by omega
        obtain rfl := HP.out (by omega)
        have cx := (hB.cell (p := ⟨b, off + pre.length / 2, none⟩) (by have := HBb.out; simp only; omega)).trans (hT2 (by omega) (pre.length / 2) hm)
        have hxl := HA.out _ hm
        have HG := Lib.hid (fun (h : showE F o = 0) => GLs_of (m := pre.length) h hm)
        have HS0 := Lib.hid (fun h => GLs_some (m := pre.length) (F := F) (o := o) (ws := ws) (x := (d, S)) h)
        have hr : pre.length % 2 = 0 ∨ pre.length % 2 = 1 := by omega
        generalize hlm : pre.length = m at *
        have HLm := Lib.hid hlm
        clear hlm
        obtain ⟨q, hq⟩ : ∃ q, m / 2 = q := ⟨_, rfl⟩
        rw [hq] at cx hm hxl HG
        obtain ⟨x, hx⟩ : ∃ x, ws.getD q [] = x := ⟨_, rfl⟩
        rw [hx] at cx hxl HG
        obtain ⟨qi, hqi⟩ : ∃ qi : Int, qi = (q : Int) := ⟨_, rfl⟩
        have e1 : (m : Int).tdiv 2 = qi := by rw [Int.tdiv_eq_ediv_of_nonneg (by omega)]; omega
        have e2 : (m : Int) / 2 = qi := by omega
        have hq2 : qi < (ws.length : Int) := by omega
        have hq0 : 0 ≤ qi := by omega
        have hq9 : qi ≤ 20 := by omega
        have hwr : IntKind.i64.wrap qi = qi := IntWalk.i64_in qi ⟨by omega, by omega⟩
        rw [show q = qi.toNat by omega] at cx
        have m2 : (m : Int) < 20 := by omega
        have HB := Lib.hid hB
        have HXl := Lib.hid (show x.length ≤ 1000 by omega)
        have HF := Lib.hid (show F.length ≤ 1000 by omega)
        clear hqi
        clear hp hq hx hT2 lF lO lL lR mF mO mL cN fN kR hB hxl b2
        rcases hr with r0 | r0
        · have e3 : (m : Int).tmod 2 = 0 := by rw [Int.tmod_eq_emod_of_nonneg (by omega)]; omega
          have e4 : (m : Int) % 2 = 0 := by omega
          rw [decide_eq_false (by omega : ¬ m % 2 = 1)] at HG
          clear r0
          cases d with
          | true =>
            gi_wp2
            refine ⟨KeepsOthers.setCell _ _ _, rfl, fun h => ?_⟩
            have h2 := HPx.out.1 h
            have h3 := HG.out (HS0.out h2).1
            rw [h3] at h2
            simp at h2
          | false =>
            have hbw : Big W := HBg.out.below (bw2.trans (HB.out.mono (by omega)))
            have HBW := Lib.hid hbw
            clear hbw
            have mixed : Tryd.prog.follows .mixedOrders = true := by kernel_rfl
            by_cases hE : showE F o = 0
            · have EV := Lib.hid (showV_ok false x hE)
              have HG2 := Lib.hid (HG.out hE)
              clear HG HS0
              generalize hSV : showS F o false x = SV at *
              by_cases hS : SV = S
              · subst hS
                have HP2 := Lib.hid (HPx.out.2 HG2.out)
                clear HG2 HPx hSV hE
                have hWs : w.heap.size + 8 ≤ W.heap.size := by have := HB.out.size; omega
                have NX := Lib.hid (show ∀ W3, Below W.heap.size W W3 → W3.cell? ⟨w.heap.size + 7, 0, none⟩ = some (.int .i64 m) ∧ W3.frozen? ⟨w.heap.size + 7, 0, none⟩ = false ∧ W3.cell? ⟨w.heap.size + 1 + 1 + 1, 0, none⟩ = some (.bool false) ∧ W3.frozen? ⟨w.heap.size + 1 + 1 + 1, 0, none⟩ = false from fun W3 hb3 =>
                  ⟨(hb3.cell (p := ⟨w.heap.size + 7, 0, none⟩) (by simp only; omega)).trans c1, (frozen_below hb3 (by omega)).trans f1, (hb3.cell (p := ⟨w.heap.size + 1 + 1 + 1, 0, none⟩) (by simp only; omega)).trans cR, (frozen_below hb3 (by omega)).trans fR⟩)
                gi_wp2
                have bF := bw_cell cF
                have bO := bw_cell cO
                have bL := bw_cell cL
                have bX := bw_cell cx
                have bN := bw_cell c1
                have hne : Nonempty (BW W) := bw_ne W
                refine region_round_bw (l0 := l') rfl mixed (by kernel_rfl) (by kernel_rfl) ?_
                have SH2 := Lib.hid (fun (v : BW W) => CallsIn.inRound l' ((callsIn_wide (n := 6)).2 (calls_bw (EV.out ▸ show_any F o false x _ (HBW.out.below v.2) HF.out HXl.out))))
                repeat (gi_big_quiet_want; gi_big_quiet_op; go_big_quiet_on)
                refine BigFrame.wpQuietIn_want (fun _ _ _ _ => trivial) rfl ?_
                intro K hK
                gi_big_quiet_op
                refine ⟨_, fun v => SH2.out v, ?_⟩
                go_big_quiet_on
                repeat (gi_big_quiet_want; gi_big_quiet_op; go_big_quiet_on)
                refine wpQuietIn_nil ?_
                rintro W3 ⟨v3, e3⟩
                have hb3 := v3.2
                rw [← e3] at hb3
                clear e3 v3
                obtain ⟨d1, d2, d3, d4⟩ := NX.out W3 hb3
                have HB3 := Lib.hid hb3
                clear hb3 bF bO bL bX bN cF cO cL cx c1 f1 cR fR hne SH2 NX
                gi_wp2
                have hb4 := HB3.out
                have hs3 := hb4.size
                have hk2 : K2 (w.heap.size + 7) W (W3.setCell ⟨w.heap.size + 7, 0, none⟩ (.int .i64 (m + 1))) := k2_t (k2_below hb4 (by omega)) ⟨(Below.refl _ _).setCell (by simp only; omega) _, fun k oc hk h1 _ => (heap_setCell_other _ _ _ _ (by simp only; omega)).trans h1⟩
                refine ⟨(others_below hb4).trans (KeepsOthers.setCell _ _ _), hk2, ⟨HP2.out, ?_, (World.frozen?_setCell _ _ _ _).trans d2⟩, HB.out.trans hk2.1⟩
                rw [World.cell?_setCell_same _ _ _ d1, List.length_append, HLm.out]
                rfl
              · have HN := Lib.hid (show ¬ (pre ++ [(false, S)] <+: GLs F o ws) from fun h => hS (by
                  have h2 := (HPx.out.1 h).symm.trans HG2.out
                  simp at h2
                  exact h2.symm))
                have s1 : (SV == S) = false := beq_eq_false_iff_ne.2 hS
                clear HG2 HPx hSV hE
                have hWs : w.heap.size + 8 ≤ W.heap.size := by have := HB.out.size; omega
                have NX := Lib.hid (show ∀ W3, Below W.heap.size W W3 → W3.cell? ⟨w.heap.size + 7, 0, none⟩ = some (.int .i64 m) ∧ W3.frozen? ⟨w.heap.size + 7, 0, none⟩ = false ∧ W3.cell? ⟨w.heap.size + 1 + 1 + 1, 0, none⟩ = some (.bool false) ∧ W3.frozen? ⟨w.heap.size + 1 + 1 + 1, 0, none⟩ = false from fun W3 hb3 =>
                  ⟨(hb3.cell (p := ⟨w.heap.size + 7, 0, none⟩) (by simp only; omega)).trans c1, (frozen_below hb3 (by omega)).trans f1, (hb3.cell (p := ⟨w.heap.size + 1 + 1 + 1, 0, none⟩) (by simp only; omega)).trans cR, (frozen_below hb3 (by omega)).trans fR⟩)
                gi_wp2
                have bF := bw_cell cF
                have bO := bw_cell cO
                have bL := bw_cell cL
                have bX := bw_cell cx
                have bN := bw_cell c1
                have hne : Nonempty (BW W) := bw_ne W
                refine region_round_bw (l0 := l') rfl mixed (by kernel_rfl) (by kernel_rfl) ?_
                have SH2 := Lib.hid (fun (v : BW W) => CallsIn.inRound l' ((callsIn_wide (n := 6)).2 (calls_bw (EV.out ▸ show_any F o false x _ (HBW.out.below v.2) HF.out HXl.out))))
                repeat (gi_big_quiet_want; gi_big_quiet_op; go_big_quiet_on)
                refine BigFrame.wpQuietIn_want (fun _ _ _ _ => trivial) rfl ?_
                intro K hK
                gi_big_quiet_op
                refine ⟨_, fun v => SH2.out v, ?_⟩
                go_big_quiet_on
                repeat (gi_big_quiet_want; gi_big_quiet_op; go_big_quiet_on)
                refine wpQuietIn_nil ?_
                rintro W3 ⟨v3, e3⟩
                have hb3 := v3.2
                rw [← e3] at hb3
                clear e3 v3
                obtain ⟨d1, d2, d3, d4⟩ := NX.out W3 hb3
                have HB3 := Lib.hid hb3
                clear hb3 bF bO bL bX bN cF cO cL cx c1 f1 cR fR hne SH2 NX
                gi_wp2
                exact ⟨(others_below HB3.out).trans (KeepsOthers.setCell _ _ _), rfl, HN.out⟩
            · have HN := Lib.hid (show ¬ (pre ++ [(false, S)] <+: GLs F o ws) from fun h => hE (HS0.out (HPx.out.1 h)).1)
              have EV := Lib.hid (showV_bad (l := F) (off := o) false x)
              clear HG HS0 HPx
              generalize showS F o false x = SV at *
              generalize showE F o = E at *
              have q2 : (E == 0) = false := beq_eq_false_iff_ne.2 hE
              have q3 : (E != 0) = true := by rw [bne_iff_ne]; exact hE
              clear hE
              have hWs : w.heap.size + 8 ≤ W.heap.size := by have := HB.out.size; omega
              have NX := Lib.hid (show ∀ W3, Below W.heap.size W W3 → W3.cell? ⟨w.heap.size + 7, 0, none⟩ = some (.int .i64 m) ∧ W3.frozen? ⟨w.heap.size + 7, 0, none⟩ = false ∧ W3.cell? ⟨w.heap.size + 1 + 1 + 1, 0, none⟩ = some (.bool false) ∧ W3.frozen? ⟨w.heap.size + 1 + 1 + 1, 0, none⟩ = false from fun W3 hb3 =>
                ⟨(hb3.cell (p := ⟨w.heap.size + 7, 0, none⟩) (by simp only; omega)).trans c1, (frozen_below hb3 (by omega)).trans f1, (hb3.cell (p := ⟨w.heap.size + 1 + 1 + 1, 0, none⟩) (by simp only; omega)).trans cR, (frozen_below hb3 (by omega)).trans fR⟩)
              gi_wp2
              have bF := bw_cell cF
              have bO := bw_cell cO
              have bL := bw_cell cL
              have bX := bw_cell cx
              have bN := bw_cell c1
              have hne : Nonempty (BW W) := bw_ne W
              refine region_round_bw (l0 := l') rfl mixed (by kernel_rfl) (by kernel_rfl) ?_
              have SH2 := Lib.hid (fun (v : BW W) => CallsIn.inRound l' ((callsIn_wide (n := 6)).2 (calls_bw (EV.out ▸ show_any F o false x _ (HBW.out.below v.2) HF.out HXl.out))))
              repeat (gi_big_quiet_want; gi_big_quiet_op; go_big_quiet_on)
              refine BigFrame.wpQuietIn_want (fun _ _ _ _ => trivial) rfl ?_
              intro K hK
              gi_big_quiet_op
              refine ⟨_, fun v => SH2.out v, ?_⟩
              go_big_quiet_on
              repeat (gi_big_quiet_want; gi_big_quiet_op; go_big_quiet_on)
              refine wpQuietIn_nil ?_
              rintro W3 ⟨v3, e3⟩
              have hb3 := v3.2
              rw [← e3] at hb3
              clear e3 v3
              obtain ⟨d1, d2, d3, d4⟩ := NX.out W3 hb3
              have HB3 := Lib.hid hb3
              clear hb3 bF bO bL bX bN cF cO cL cx c1 f1 cR fR hne SH2 NX
              gi_wp2
              exact ⟨(others_below HB3.out).trans (KeepsOthers.setCell _ _ _), rfl, HN.out⟩
        · have e3 : (m : Int).tmod 2 = 1 := by rw [Int.tmod_eq_emod_of_nonneg (by omega)]; omega
          have e4 : (m : Int) % 2 = 1 := by omega
          rw [decide_eq_true (by omega : m % 2 = 1)] at HG
          clear r0
          cases d with
          | false =>
            gi_wp2
            refine ⟨KeepsOthers.setCell _ _ _, rfl, fun h => ?_⟩
            have h2 := HPx.out.1 h
            have h3 := HG.out (HS0.out h2).1
            rw [h3] at h2
            simp at h2
          | true =>
            have hbw : Big W := HBg.out.below (bw2.trans (HB.out.mono (by omega)))
            have HBW := Lib.hid hbw
            clear hbw
            have mixed : Tryd.prog.follows .mixedOrders = true := by kernel_rfl
            by_cases hE : showE F o = 0
            · have EV := Lib.hid (showV_ok true x hE)
              have HG2 := Lib.hid (HG.out hE)
              clear HG HS0
              generalize hSV : showS F o true x = SV at *
              by_cases hS : SV = S
              · subst hS
                have HP2 := Lib.hid (HPx.out.2 HG2.out)
                clear HG2 HPx hSV hE
                have hWs : w.heap.size + 8 ≤ W.heap.size := by have := HB.out.size; omega
                have NX := Lib.hid (show ∀ W3, Below W.heap.size W W3 → W3.cell? ⟨w.heap.size + 7, 0, none⟩ = some (.int .i64 m) ∧ W3.frozen? ⟨w.heap.size + 7, 0, none⟩ = false ∧ W3.cell? ⟨w.heap.size + 1 + 1 + 1, 0, none⟩ = some (.bool false) ∧ W3.frozen? ⟨w.heap.size + 1 + 1 + 1, 0, none⟩ = false from fun W3 hb3 =>
                  ⟨(hb3.cell (p := ⟨w.heap.size + 7, 0, none⟩) (by simp only; omega)).trans c1, (frozen_below hb3 (by omega)).trans f1, (hb3.cell (p := ⟨w.heap.size + 1 + 1 + 1, 0, none⟩) (by simp only; omega)).trans cR, (frozen_below hb3 (by omega)).trans fR⟩)
                gi_wp2
                have bF := bw_cell cF
                have bO := bw_cell cO
                have bL := bw_cell cL
                have bX := bw_cell cx
                have bN := bw_cell c1
                have hne : Nonempty (BW W) := bw_ne W
                refine region_round_bw (l0 := l') rfl mixed (by kernel_rfl) (by kernel_rfl) ?_
                have SH2 := Lib.hid (fun (v : BW W) => CallsIn.inRound l' ((callsIn_wide (n := 6)).2 (calls_bw (EV.out ▸ show_any F o true x _ (HBW.out.below v.2) HF.out HXl.out))))
                repeat (gi_big_quiet_want; gi_big_quiet_op; go_big_quiet_on)
                refine BigFrame.wpQuietIn_want (fun _ _ _ _ => trivial) rfl ?_
                intro K hK
                gi_big_quiet_op
                refine ⟨_, fun v => SH2.out v, ?_⟩
                go_big_quiet_on
                repeat (gi_big_quiet_want; gi_big_quiet_op; go_big_quiet_on)
                refine wpQuietIn_nil ?_
                rintro W3 ⟨v3, e3⟩
                have hb3 := v3.2
                rw [← e3] at hb3
                clear e3 v3
                obtain ⟨d1, d2, d3, d4⟩ := NX.out W3 hb3
                have HB3 := Lib.hid hb3
                clear hb3 bF bO bL bX bN cF cO cL cx c1 f1 cR fR hne SH2 NX
                gi_wp2
                have hb4 := HB3.out
                have hs3 := hb4.size
                have hk2 : K2 (w.heap.size + 7) W (W3.setCell ⟨w.heap.size + 7, 0, none⟩ (.int .i64 (m + 1))) := k2_t (k2_below hb4 (by omega)) ⟨(Below.refl _ _).setCell (by simp only; omega) _, fun k oc hk h1 _ => (heap_setCell_other _ _ _ _ (by simp only; omega)).trans h1⟩
                refine ⟨(others_below hb4).trans (KeepsOthers.setCell _ _ _), hk2, ⟨HP2.out, ?_, (World.frozen?_setCell _ _ _ _).trans d2⟩, HB.out.trans hk2.1⟩
                rw [World.cell?_setCell_same _ _ _ d1, List.length_append, HLm.out]
                rfl
              · have HN := Lib.hid (show ¬ (pre ++ [(true, S)] <+: GLs F o ws) from fun h => hS (by
                  have h2 := (HPx.out.1 h).symm.trans HG2.out
                  simp at h2
                  exact h2.symm))
                have s1 : (SV == S) = false := beq_eq_false_iff_ne.2 hS
                clear HG2 HPx hSV hE
                have hWs : w.heap.size + 8 ≤ W.heap.size := by have := HB.out.size; omega
                have NX := Lib.hid (show ∀ W3, Below W.heap.size W W3 → W3.cell? ⟨w.heap.size + 7, 0, none⟩ = some (.int .i64 m) ∧ W3.frozen? ⟨w.heap.size + 7, 0, none⟩ = false ∧ W3.cell? ⟨w.heap.size + 1 + 1 + 1, 0, none⟩ = some (.bool false) ∧ W3.frozen? ⟨w.heap.size + 1 + 1 + 1, 0, none⟩ = false from fun W3 hb3 =>
                  ⟨(hb3.cell (p := ⟨w.heap.size + 7, 0, none⟩) (by simp only; omega)).trans c1, (frozen_below hb3 (by omega)).trans f1, (hb3.cell (p := ⟨w.heap.size + 1 + 1 + 1, 0, none⟩) (by simp only; omega)).trans cR, (frozen_below hb3 (by omega)).trans fR⟩)
                gi_wp2
                have bF := bw_cell cF
                have bO := bw_cell cO
                have bL := bw_cell cL
                have bX := bw_cell cx
                have bN := bw_cell c1
                have hne : Nonempty (BW W) := bw_ne W
                refine region_round_bw (l0 := l') rfl mixed (by kernel_rfl) (by kernel_rfl) ?_
                have SH2 := Lib.hid (fun (v : BW W) => CallsIn.inRound l' ((callsIn_wide (n := 6)).2 (calls_bw (EV.out ▸ show_any F o true x _ (HBW.out.below v.2) HF.out HXl.out))))
                repeat (gi_big_quiet_want; gi_big_quiet_op; go_big_quiet_on)
                refine BigFrame.wpQuietIn_want (fun _ _ _ _ => trivial) rfl ?_
                intro K hK
                gi_big_quiet_op
                refine ⟨_, fun v => SH2.out v, ?_⟩
                go_big_quiet_on
                repeat (gi_big_quiet_want; gi_big_quiet_op; go_big_quiet_on)
                refine wpQuietIn_nil ?_
                rintro W3 ⟨v3, e3⟩
                have hb3 := v3.2
                rw [← e3] at hb3
                clear e3 v3
                obtain ⟨d1, d2, d3, d4⟩ := NX.out W3 hb3
                have HB3 := Lib.hid hb3
                clear hb3 bF bO bL bX bN cF cO cL cx c1 f1 cR fR hne SH2 NX
                gi_wp2
                exact ⟨(others_below HB3.out).trans (KeepsOthers.setCell _ _ _), rfl, HN.out⟩
            · have HN := Lib.hid (show ¬ (pre ++ [(true, S)] <+: GLs F o ws) from fun h => hE (HS0.out (HPx.out.1 h)).1)
              have EV := Lib.hid (showV_bad (l := F) (off := o) true x)
              clear HG HS0 HPx
              generalize showS F o true x = SV at *
              generalize showE F o = E at *
              have q2 : (E == 0) = false := beq_eq_false_iff_ne.2 hE
              have q3 : (E != 0) = true := by rw [bne_iff_ne]; exact hE
              clear hE
              have hWs : w.heap.size + 8 ≤ W.heap.size := by have := HB.out.size; omega
              have NX := Lib.hid (show ∀ W3, Below W.heap.size W W3 → W3.cell? ⟨w.heap.size + 7, 0, none⟩ = some (.int .i64 m) ∧ W3.frozen? ⟨w.heap.size + 7, 0, none⟩ = false ∧ W3.cell? ⟨w.heap.size + 1 + 1 + 1, 0, none⟩ = some (.bool false) ∧ W3.frozen? ⟨w.heap.size + 1 + 1 + 1, 0, none⟩ = false from fun W3 hb3 =>
                ⟨(hb3.cell (p := ⟨w.heap.size + 7, 0, none⟩) (by simp only; omega)).trans c1, (frozen_below hb3 (by omega)).trans f1, (hb3.cell (p := ⟨w.heap.size + 1 + 1 + 1, 0, none⟩) (by simp only; omega)).trans cR, (frozen_below hb3 (by omega)).trans fR⟩)
              gi_wp2
              have bF := bw_cell cF
              have bO := bw_cell cO
              have bL := bw_cell cL
              have bX := bw_cell cx
              have bN := bw_cell c1
              have hne : Nonempty (BW W) := bw_ne W
              refine region_round_bw (l0 := l') rfl mixed (by kernel_rfl) (by kernel_rfl) ?_
              have SH2 := Lib.hid (fun (v : BW W) => CallsIn.inRound l' ((callsIn_wide (n := 6)).2 (calls_bw (EV.out ▸ show_any F o true x _ (HBW.out.below v.2) HF.out HXl.out))))
              repeat (gi_big_quiet_want; gi_big_quiet_op; go_big_quiet_on)
              refine BigFrame.wpQuietIn_want (fun _ _ _ _ => trivial) rfl ?_
              intro K hK
              gi_big_quiet_op
              refine ⟨_, fun v => SH2.out v, ?_⟩
              go_big_quiet_on
              repeat (gi_big_quiet_want; gi_big_quiet_op; go_big_quiet_on)
              refine wpQuietIn_nil ?_
              rintro W3 ⟨v3, e3⟩
              have hb3 := v3.2
              rw [← e3] at hb3
              clear e3 v3
              obtain ⟨d1, d2, d3, d4⟩ := NX.out W3 hb3
              have HB3 := Lib.hid hb3
              clear hb3 bF bO bL bX bN cF cO cL cx c1 f1 cR fR hne SH2 NX
              gi_wp2
              exact ⟨(others_below HB3.out).trans (KeepsOthers.setCell _ _ _), rfl, HN.out⟩
      case done =>
        rintro D ys W hD hys ⟨⟨_, c1, f1⟩, hB⟩ hK
        have cF := (hB.cell (p := ⟨w.heap.size, 0, none⟩) (by simp only; omega)).trans (cell_of_row W2 w.heap.size 0 _ _ _ lF)
        have cO := (hB.cell (p := ⟨w.heap.size + 1, 0, none⟩) (by simp only; omega)).trans (cell_of_row W2 (w.heap.size + 1) 0 _ _ _ lO)
        have kL := (hB.block (w.heap.size + 1 + 1) (by omega)).trans lL
        have kR := (hB.block (w.heap.size + 1 + 1 + 1) (by omega)).trans lR
        have hDW : D < W.heap.size := (Array.getElem?_eq_some_iff.1 hK).1
        have hys2 : ys.length = if showE F o = 0 then 2 * ws.length else 0 := by rw [hys]; exact GLs_len
        have hWs : w.heap.size + 8 ≤ W.heap.size := by have := hB.size; omega
        have hbw : Big W := HBg.out.below (bw2.trans (hB.mono (by omega)))
        have HF := Lib.hid (show F.length ≤ 1000 by omega)
        have HB := Lib.hid (bw2.trans (hB.mono (by omega)))
        have HBW := Lib.hid hbw
        have HK := Lib.hid hK
        clear hys hB hbw hT2 lF lO lL lR mF mO mL cN fN b2 f1
        by_cases hE : showE F o = 0
        · have EV := Lib.hid (showV_ok false [] hE)
          rw [if_pos hE] at hys2
          have q1 : (ys.length : Int) = 2 * (ws.length : Int) := by omega
          clear hys2 hE
          generalize ys.length = yl at *
          generalize showS F o false [] = SV at *
          gi_wp2
          refine ⟨trivial, ?_⟩
          refine (callsIn_wide.2 (show_any F o false [] _ HBW.out HF.out (by decide))).mono ?_
          rintro e W3 ⟨rfl, hb3⟩
          rw [EV.out]
          have cL3 := cell_of_row W3 (w.heap.size + 1 + 1) 0 _ _ _ ((hb3.block (w.heap.size + 1 + 1) (by omega)).trans kL)
          have c13 : W3.cell? ⟨w.heap.size + 7, 0, none⟩ = some (.int .i64 yl) := (hb3.cell (p := ⟨w.heap.size + 7, 0, none⟩) (by simp only; omega)).trans c1
          have HB3 := Lib.hid hb3
          clear hb3 c1 cF cO
          gi_wp2
          all_goals
            refine ⟨trivial, ?_⟩
            refine (callsIn_wide.2 (awake_any _ (HBW.out.below HB3.out))).mono ?_
            rintro e W4 ⟨rfl, hb4⟩
            have s3 := HB3.out.size
            have s4 := hb4.size
            have kR4 := (hb4.block (w.heap.size + 1 + 1 + 1) (by omega)).trans ((HB3.out.block (w.heap.size + 1 + 1 + 1) (by omega)).trans kR)
            have cR4 := cell_of_row W4 (w.heap.size + 1 + 1 + 1) 0 _ _ _ kR4
            have fR4 := frozen_of_row W4 (w.heap.size + 1 + 1 + 1) 0 _ _ kR4
            have hK4 : (W4.setCell ⟨w.heap.size + 1 + 1 + 1, 0, none⟩ (.bool true)).heap[D]? = some (.deferred (some [])) := (heap_setCell_other _ _ _ _ (by simp; omega)).trans ((hb4.block D (by omega)).trans ((HB3.out.block D (by omega)).trans HK.out))
            have cE : (W4.setCell ⟨w.heap.size + 1 + 1 + 1, 0, none⟩ (.bool true)).cell? ⟨w.heap.size + 1 + 1 + 1, 0, none⟩ = some (.bool true) := World.cell?_setCell_same _ _ _ cR4
            have cE2 : ((W4.setCell ⟨w.heap.size + 1 + 1 + 1, 0, none⟩ (.bool true)).putObj D (.deferred none)).cell? ⟨w.heap.size + 1 + 1 + 1, 0, none⟩ = some (.bool true) := by
              unfold World.cell? at cE ⊢
              first
              | rw [World.putObj_heap_other (show w.heap.size + 1 + 1 + 1 ≠ D by omega)]
              | rw [World.putObj_heap_other (show D ≠ w.heap.size + 1 + 1 + 1 by omega)]
              exact cE
            have hB4 : Below w.heap.size w (W4.setCell ⟨w.heap.size + 1 + 1 + 1, 0, none⟩ (.bool true)) := (HB.out.trans ((HB3.out.mono (by omega)).trans (hb4.mono (by omega)))).setCell (by simp only; omega) _
            have HK4 := Lib.hid hK4
            have HB4 := Lib.hid hB4
            have HE2 := Lib.hid cE2
            clear hK4 hB4 cE cE2 hb4 kR kR4 kL
            gi_wp2
            refine ⟨by simp, .inl ⟨_, _, rfl, run_takeDeferred HK4.out, ?_⟩⟩
            refine ⟨.bool true, ?_, rfl, HB4.out.trans (belowK_b (w := w) (Nat.le_refl _) _ D _ _ (by omega) HK4.out rfl rfl)⟩
            simp [results, Tryd.f7, go_sem, HE2.out]
        · have EV := Lib.hid (showV_bad (l := F) (off := o) false [])
          rw [if_neg hE] at hys2
          have q1 : (ys.length : Int) = 0 := by omega
          generalize showS F o false [] = SV at *
          generalize showE F o = E at *
          have q2 : (E == 0) = false := beq_eq_false_iff_ne.2 hE
          have q3 : (E != 0) = true := by rw [bne_iff_ne]; exact hE
          clear hys2 hE
          generalize ys.length = yl at *
          gi_wp2
          refine ⟨trivial, ?_⟩
          refine (callsIn_wide.2 (show_any F o false [] _ HBW.out HF.out (by decide))).mono ?_
          rintro e W3 ⟨rfl, hb3⟩
          rw [EV.out]
          have cL3 := cell_of_row W3 (w.heap.size + 1 + 1) 0 _ _ _ ((hb3.block (w.heap.size + 1 + 1) (by omega)).trans kL)
          have c13 : W3.cell? ⟨w.heap.size + 7, 0, none⟩ = some (.int .i64 yl) := (hb3.cell (p := ⟨w.heap.size + 7, 0, none⟩) (by simp only; omega)).trans c1
          have HB3 := Lib.hid hb3
          clear hb3 c1 cF cO
          gi_wp2
          all_goals
            refine ⟨trivial, ?_⟩
            refine (callsIn_wide.2 (awake_any _ (HBW.out.below HB3.out))).mono ?_
            rintro e W4 ⟨rfl, hb4⟩
            have s3 := HB3.out.size
            have s4 := hb4.size
            have kR4 := (hb4.block (w.heap.size + 1 + 1 + 1) (by omega)).trans ((HB3.out.block (w.heap.size + 1 + 1 + 1) (by omega)).trans kR)
            have cR4 := cell_of_row W4 (w.heap.size + 1 + 1 + 1) 0 _ _ _ kR4
            have fR4 := frozen_of_row W4 (w.heap.size + 1 + 1 + 1) 0 _ _ kR4
            have hK4 : (W4.setCell ⟨w.heap.size + 1 + 1 + 1, 0, none⟩ (.bool true)).heap[D]? = some (.deferred (some [])) := (heap_setCell_other _ _ _ _ (by simp; omega)).trans ((hb4.block D (by omega)).trans ((HB3.out.block D (by omega)).trans HK.out))
            have cE : (W4.setCell ⟨w.heap.size + 1 + 1 + 1, 0, none⟩ (.bool true)).cell? ⟨w.heap.size + 1 + 1 + 1, 0, none⟩ = some (.bool true) := World.cell?_setCell_same _ _ _ cR4
            have cE2 : ((W4.setCell ⟨w.heap.size + 1 + 1 + 1, 0, none⟩ (.bool true)).putObj D (.deferred none)).cell? ⟨w.heap.size + 1 + 1 + 1, 0, none⟩ = some (.bool true) := by
              unfold World.cell? at cE ⊢
              first
              | rw [World.putObj_heap_other (show w.heap.size + 1 + 1 + 1 ≠ D by omega)]
              | rw [World.putObj_heap_other (show D ≠ w.heap.size + 1 + 1 + 1 by omega)]
              exact cE
            have hB4 : Below w.heap.size w (W4.setCell ⟨w.heap.size + 1 + 1 + 1, 0, none⟩ (.bool true)) := (HB.out.trans ((HB3.out.mono (by omega)).trans (hb4.mono (by omega)))).setCell (by simp only; omega) _
            have HK4 := Lib.hid hK4
            have HB4 := Lib.hid hB4
            have HE2 := Lib.hid cE2
            clear hK4 hB4 cE cE2 hb4 kR kR4 kL
            gi_wp2
            refine ⟨by simp, .inl ⟨_, _, rfl, run_takeDeferred HK4.out, ?_⟩⟩
            refine ⟨.bool true, ?_, rfl, HB4.out.trans (belowK_b (w := w) (Nat.le_refl _) _ D _ _ (by omega) HK4.out rfl rfl)⟩
            simp [results, Tryd.f7, go_sem, HE2.out]
end abbrGoes
end Go.Proofs.YtakpbgjmblbaiaaDoor
