/-
  THE WALK of lexer.Lines, and its iterator's contract: an iterator that goes through an iterator; what it hands over lies in memory.
-/
import Derived.Test.YtdneodlboggcnaaDoorLexAwake
namespace Go.Proofs.YtdneodlboggcnaaDoor
open Go Go.RowKit
attribute [local go_sem] Oper.semAt_some
/-- what is handed over: the line's number, its words, what is wrong with it, where the words lie -/
structure LI where
  k : Int
  ws : List (List UInt8)
  e : Int
  v : Value
def LI.st (x : LI) : Int × List (List UInt8) × Int := (x.k, x.ws, x.e)
abbrev encl (x : LI) : Array Value := #[.agg #[.int .i64 x.k, x.v], .int .i64 x.e]
abbrev YT : Nat := 47
/-- what a round keeps: the iterator's own blocks, the library's number, what is no cells -/
def KeptL (H : Nat) (W W' : World) : Prop := KF H W W' ∧ (∀ k, H ≤ k → k < H + 5 → W'.heap[k]? = W.heap[k]?) ∧ W'.heap[gm]? = W.heap[gm]?
theorem keptL_t {H : Nat} {A B C : World} (h : KeptL H A B) (h' : KeptL H B C) : KeptL H A C := ⟨h.1.trans h'.1, fun k a b => (h'.2.1 k a b).trans (h.2.1 k a b), h'.2.2.trans h.2.2⟩
theorem llines_any (l : List UInt8) (w : World) :
    Calls Tryd.prog 14 #[.string ⟨l.toArray⟩] w fun e w' => e = .returned (.func (.func 19) #[] #[.pointer (some ⟨w.heap.size, 0, none⟩)]) ∧ w' = w.alloc (boxS l) := by
  go_enter Tryd.func14, Tryd.ntmps14
  go_wp2_with fail
  go_ret
  exact ⟨rfl, rfl⟩
theorem suffix_any (p : List UInt8) (w : World) (hp : p.length ≤ 1000) : Calls Tryd.prog 21 #[.string ⟨p.toArray⟩, .string ⟨#[10]⟩] w fun e w' => e = .returned (.string ⟨(chop p).toArray⟩) ∧ w = w' :=
  (Tryd.strings_TrimSuffix ⟨p.toArray⟩ ⟨#[10]⟩ w (by show p.toArray.size ≤ _; simp; omega)).mono fun _ _ ⟨h1, h2⟩ => ⟨by unfold chop; simpa using h1, h2.symm⟩
abbrev linesIt : Nat := 34
theorem enters_lines (args : Array Value) (w : World) : (callFunc linesIt args).run Tryd.prog w = .ok (.enter linesIt args) w := enters_of Tryd.func34 (by kernel_rfl) rfl args w
theorem round_any {m m' l l0 : Nat} {P : Program} {f : FuncId} {tmps : Array Value} {assign body : Code} {w : World} {R : Ending → World → Prop} (h : RoundIn Fence.wide m P l f tmps assign body w R) : RoundIn (Fence.wide.inRound l0) m' P l f tmps assign body w R :=
  ⟨h.1, fun c cs _ => h.2 c cs (room_wide _)⟩
theorem kf_below {H : Nat} {A B : World} (h : Below A.heap.size A B) : KF H A B := ⟨h.size, fun k _ _ h1 _ => (h.block k (Array.getElem?_eq_some_iff.1 h1).1).trans h1⟩
theorem chop_len (p : List UInt8) : (chop p).length ≤ p.length := by
  unfold chop Lib.trimSuffix
  split
  · simp
  · exact Nat.le_refl _
theorem prn_mem_len : ∀ {l p : List UInt8}, p ∈ prn l → p.length ≤ l.length
  | [], p, h => by simp [prn] at h
  | c :: t, p, h => by
    by_cases hc : c = 10
    · subst hc
      rw [prn_nl] at h
      rcases List.mem_cons.1 h with rfl | h
      · simp
      · have := prn_mem_len h; simp; omega
    · rw [prn_c hc] at h
      cases hq : prn t with
      | nil =>
        rw [hq] at h
        have : p = [c] := by simpa [hd1] using h
        rw [this]; simp
      | cons q qs =>
        rw [hq] at h
        rcases List.mem_cons.1 (show p ∈ (c :: q) :: qs from h) with rfl | h
        · have := prn_mem_len (l := t) (p := q) (by rw [hq]; simp)
          simp; omega
        · have := prn_mem_len (l := t) (p := p) (by rw [hq]; simp [h])
          simp; omega
theorem prn_count (l : List UInt8) : (prn l).length ≤ l.length := by
  have h1 := prn_prt (l.length + 1) l (by omega)
  have h2 := prt_count l
  rw [← h1] at h2
  simpa using h2
/-- no line so far is wrong -/
theorem endE_ok {done : List LI} (h : ∀ x ∈ done, x.e = 0) : endE (done.map LI.st) = 0 := by
  unfold endE
  rw [List.getLastD_eq_getLast?]
  cases hg : ((done.map LI.st).map (·.2.2)).getLast? with
  | none => rfl
  | some z =>
    have := List.mem_of_getLast? hg
    simp only [List.map_map, List.mem_map] at this
    obtain ⟨x, hx, rfl⟩ := this
    exact h x hx
theorem its_one_skip {k : Int} {p : List UInt8} (h1 : (lexW p).1 = 0) (h2 : (lexW p).2 = []) : its k [p] = [] := by
  unfold its
  rw [if_neg (by rw [h1]; simp), if_pos h2]
  rfl
theorem its_one_err {k : Int} {p : List UInt8} (h1 : (lexW p).1 ≠ 0) : its k [p] = [(k, (lexW p).2, (lexW p).1)] := by
  unfold its
  rw [if_pos h1]
theorem its_one_ok {k : Int} {p : List UInt8} (h1 : (lexW p).1 = 0) (h2 : (lexW p).2 ≠ []) : its k [p] = [(k, (lexW p).2, 0)] := by
  unfold its
  rw [if_neg (by rw [h1]; simp), if_neg h2]
  rfl
theorem its_snoc {done : List LI} {xs : List (List UInt8)} (hd : done.map LI.st = its 1 xs) (h : ∀ x ∈ done, x.e = 0) (ys : List (List UInt8)) : its 1 (xs ++ ys) = done.map LI.st ++ its (1 + xs.length) ys := by
  rw [its_app, ← hd, endE_ok h]
  simp
theorem prefix_snoc {α : Type} {pre L : List α} {p : α} (h : pre <+: L) (hp : L[pre.length]? = some p) : pre ++ [p] <+: L := by
  obtain ⟨t, rfl⟩ := h
  rw [List.getElem?_append_right (Nat.le_refl _), Nat.sub_self] at hp
  cases t with
  | nil => simp at hp
  | cons q t =>
    obtain rfl : q = p := by simpa using hp
    exact ⟨t, by simp⟩
theorem its_get {s : List UInt8} {done : List LI} {pre : List (List UInt8)} {p : List UInt8} (hp : pre ++ [p] <+: prn s) (hd : done.map LI.st = its 1 (pre.map chop)) (hok : ∀ x ∈ done, x.e = 0) (hpr : (prn s).map chop = prt s) {z : Int × List (List UInt8) × Int} (hz : its (1 + pre.length) [chop p] = [z]) :
    (its 1 (prt s))[done.length]? = some z ∧ its 1 ((pre ++ [p]).map chop) = done.map LI.st ++ [z] := by
  obtain ⟨t, ht⟩ := hp
  have e : prt s = pre.map chop ++ ([chop p] ++ t.map chop) := by rw [← hpr, ← ht]; simp
  have h1 := its_snoc hd hok [chop p]
  rw [List.length_map, hz] at h1
  refine ⟨?_, by rw [List.map_append]; exact h1⟩
  rw [e, its_snoc hd hok, List.length_map, its_app, hz]
  split <;> simp
theorem its_get2 {s : List UInt8} {done : List LI} {pre : List (List UInt8)} {p : List UInt8} (hp : pre ++ [p] <+: prn s) (hpr : (prn s).map chop = prt s) {z : Int × List (List UInt8) × Int} (h : its 1 ((pre ++ [p]).map chop) = done.map LI.st ++ [z]) : done.map LI.st ++ [z] <+: its 1 (prt s) := by
  obtain ⟨t, ht⟩ := hp
  rw [← hpr, ← ht, List.map_append, its_app, h]
  split
  · exact List.prefix_refl _
  · exact List.prefix_append _ _
theorem its_err {s : List UInt8} {pre : List (List UInt8)} (hp : pre <+: prn s) (hpr : (prn s).map chop = prt s) (he : endE (its 1 (pre.map chop)) ≠ 0) : its 1 (prt s) = its 1 (pre.map chop) := by
  obtain ⟨t, ht⟩ := hp
  rw [← hpr, ← ht, List.map_append, its_app, if_pos he]
set_option maxRecDepth 100000 in
set_option maxHeartbeats 4000000 in
theorem llines1_in (n l Bt : Nat) (s : List UInt8) (hs : s.length ≤ 1000) (J Jx : List LI → World → Prop) (W : World) (hBt : Bt < W.heap.size)
    (hJ : ∀ s A B, J s A → Dirt (fun k => W.heap.size ≤ k ∧ k < W.heap.size + 5) A B → J s B)
    (hJx : ∀ s A B, Jx s A → Dirt (fun k => W.heap.size ≤ k ∧ k < W.heap.size + 5) A B → Jx s B)
    (hY : ∀ pre x W1, J pre W1 → pre.length < (its 1 (prt s)).length → ((its 1 (prt s))[pre.length]? = some x.st ∧ SL (W.heap.size + 5) W1 x.v x.ws ∧ W.heap.size + 5 ≤ W1.heap.size) → YieldAt Fence.wide (n - 1) Tryd.prog l (encl x) W1 fun e W' =>
      (e = .returned (.bool true) ∧ J (pre ++ [x]) W' ∧ KeptL W.heap.size W1 W') ∨ (e = .returned (.bool false) ∧ Jx (pre ++ [x]) W' ∧ KF W.heap.size W1 W'))
    (hn : 1 ≤ n) (h1 : W.heap[Bt]? = some (boxS s)) (hB : Big W) (h0 : J [] W) :
    CallsIn Fence.wide n Tryd.prog 19 #[.func (.yield l) #[] #[], .pointer (some ⟨Bt, 0, none⟩)] W fun e W' => (∃ v, e = .returned v) ∧
      ((∃ ys : List LI, ys.map LI.st = its 1 (prt s) ∧ J ys W') ∨ (∃ pre : List LI, pre.map LI.st <+: its 1 (prt s) ∧ Jx pre W')) := by
  refine callsIn_of_wp_marks Tryd.func19 rfl trivial ?_ rfl
  simp only [Tryd.ntmps19, List.size_toArray, List.length_cons, List.length_nil, Nat.reduceAdd, Nat.reduceSub, Array.replicate_succ, Array.replicate_zero, List.push_toArray, List.append_toArray, List.nil_append, List.cons_append]
  have HJ := Lib.hid hJ
  have HJx := Lib.hid hJx
  have HY := Lib.hid hY
  have H0 := Lib.hid h0
  have HBg := Lib.hid hB
  have c1 := cell_of_row W Bt 0 _ _ _ h1
  have hgm : gm < W.heap.size := hB.lt
  clear hJ hJx hY h0 hB
  gi_wp2
  refine ⟨trivial, ?_⟩
  refine (callsIn_wide.2 (lines_any s _)).mono ?_
  rintro e W5 ⟨rfl, hW5⟩
  simp only [World.size_alloc]
  have ky : W5.heap[W.heap.size]? = some (.cells #[.func (.yield l) #[] #[]] YT (0, 0)) := by
    rw [hW5, Below.heap_alloc _ _ _ (by simp only [World.size_alloc]; omega), Below.heap_alloc _ _ _ (by simp only [World.size_alloc]; omega)]
    exact heap_alloc_new W _
  have ki : W5.heap[W.heap.size + 1]? = some (boxI 0) := by
    rw [hW5, Below.heap_alloc _ _ _ (by simp only [World.size_alloc]; omega)]
    have := heap_alloc_new (W.alloc (.cells #[.func (.yield l) #[] #[]] YT)) (boxI 0)
    simpa using this
  have ks : W5.heap[W.heap.size + 1 + 1]? = some (boxS s) := by
    rw [hW5]
    have := heap_alloc_new ((W.alloc (.cells #[.func (.yield l) #[] #[]] YT)).alloc (boxI 0)) (boxS s)
    simpa using this
  have b5 : Below W.heap.size W W5 := by
    rw [hW5]
    exact (((Below.refl _ _).alloc (Nat.le_refl _) _).alloc (by simp only [World.size_alloc]; omega) _).alloc (by simp only [World.size_alloc]; omega) _
  have s5 : W5.heap.size = W.heap.size + 3 := by rw [hW5]; simp
  clear hW5
  gi_wp2
  have hJ5 := HJ.out _ W W5 H0.out (Dirt.of_below b5)
  have hB5 := HBg.out.below b5
  have HPr := Lib.hid (prn_prt (s.length + 1) s (by omega))
  have HPc := Lib.hid (prn_count s)
  refine wpIn_rangeFunc_dirt rfl hn (gf := linesIt) (lb := #[.pointer (some ⟨W.heap.size + 1 + 1, 0, none⟩)]) rfl trivial enters_lines
    (lines_stops (n - 1) (W.heap.size + 1 + 1) s hs W5 ks (W5.heap.size + 2))
    (by omega) (by omega) (fun h h' => h'.trans h)
    (fun V l ob ob' hle hlt h2 h3 h4 => World.putObj_heap_other (by omega)) (Below.refl _ _) (fun _ => rfl)
    (fun pre V => pre <+: prn s ∧ (∃ done : List LI, done.map LI.st = its 1 (pre.map chop) ∧ (∀ x ∈ done, x.e = 0) ∧ J done V) ∧ V.heap[W.heap.size + 1]? = some (boxI pre.length) ∧ V.heap[W.heap.size]? = some (.cells #[.func (.yield l) #[] #[]] YT (0, 0)) ∧ W5.heap.size ≤ V.heap.size ∧ Big V)
    (fun c pre V => c = .ret ∧ ((∃ done : List LI, done.map LI.st = its 1 (prt s) ∧ J done V) ∨ (∃ done : List LI, done.map LI.st <+: its 1 (prt s) ∧ Jx done V)))
    (fun t A B h hd => ⟨h.1, h.2.1.elim fun done hd2 => ⟨done, hd2.1, hd2.2.1, HJ.out _ A B hd2.2.2 (hd.mono (fun k hk => by omega))⟩, hd.heap h.2.2.1 (by omega), hd.heap h.2.2.2.1 (by omega), Nat.le_trans h.2.2.2.2.1 hd.size, h.2.2.2.2.2.heap (hd.same _ h.2.2.2.2.2.lt (by omega))⟩)
    (fun c t A B h hd => ⟨h.1, h.2.imp (fun ⟨done, h1, h2⟩ => ⟨done, h1, HJ.out _ A B h2 (hd.mono (fun k hk => by omega))⟩) (fun ⟨done, h1, h2⟩ => ⟨done, h1, HJx.out _ A B h2 (hd.mono (fun k hk => by omega))⟩)⟩)
    ⟨List.nil_prefix, ⟨[], rfl, (fun x h => by cases h), hJ5⟩, ki, ky, Nat.le_refl _, hB5⟩
    ?a1
    (fun pre p V => (pre.length < (prn s).length ∧ (prn s)[pre.length]? = some p) ∧ pre ++ [p] <+: prn s ∧ (∃ done : List LI, done.map LI.st = its 1 (pre.map chop) ∧ (∀ x ∈ done, x.e = 0) ∧ J done V) ∧ V.heap[W.heap.size + 1]? = some (boxI pre.length) ∧ V.heap[W.heap.size]? = some (.cells #[.func (.yield l) #[] #[]] YT (0, 0)) ∧ W5.heap.size + 2 ≤ V.heap.size ∧ Big V)
    (fun pre t A B h hd => ⟨h.1, h.2.1, h.2.2.1.elim fun done hd2 => ⟨done, hd2.1, hd2.2.1, HJ.out _ A B hd2.2.2 (hd.mono (fun k hk => by omega))⟩, hd.heap h.2.2.2.1 (by omega), hd.heap h.2.2.2.2.1 (by omega), Nat.le_trans h.2.2.2.2.2.1 hd.size, h.2.2.2.2.2.2.heap (hd.same _ h.2.2.2.2.2.2.lt (by omega))⟩)
    ?assign ?body ?done ?stop
  case assign =>
    rintro l' pre p V K hI hlen hpx hsz hK
    have HI := Lib.hid hI
    have HK := Lib.hid hK
    have HPx := Lib.hid hpx
    clear hI hK hpx
    gi_wp2
    exact HK.out _ (KF.refl _ _) rfl ⟨⟨hlen, HPx.out⟩, prefix_snoc HI.out.1 HPx.out, HI.out.2.1, HI.out.2.2.1, HI.out.2.2.2.1, hsz, HI.out.2.2.2.2.2⟩
  case done =>
    rintro V ys hys ⟨_, ⟨done, hd, _, hJs⟩, _⟩ hK
    subst hys
    have HJs := Lib.hid hJs
    have HD := Lib.hid hd
    clear hJs hd
    gi_wp2
    refine ⟨by simp, .inl ⟨_, _, rfl, run_takeDeferred hK, ?_⟩⟩
    exact ⟨_, results_none rfl _ _ _, ⟨_, rfl⟩, .inl ⟨done, by rw [HD.out, HPr.out], HJ.out _ _ _ HJs.out (Dirt.putObj _ _ _ (by show W.heap.size ≤ W5.heap.size ∧ _; omega))⟩⟩
  case stop =>
    rintro V c pre hpre ⟨rfl, hJs⟩ hK
    have HJs := Lib.hid hJs
    clear hJs
    gi_wp2
    refine ⟨by simp, .inl ⟨_, _, rfl, run_takeDeferred hK, ?_⟩⟩
    refine ⟨_, results_none rfl _ _ _, ⟨_, rfl⟩, ?_⟩
    exact HJs.out.imp (fun ⟨done, h1, h2⟩ => ⟨done, h1, HJ.out _ _ _ h2 (Dirt.putObj _ _ _ (by show W.heap.size ≤ W5.heap.size ∧ _; omega))⟩) (fun ⟨done, h1, h2⟩ => ⟨done, h1, HJx.out _ _ _ h2 (Dirt.putObj _ _ _ (by show W.heap.size ≤ W5.heap.size ∧ _; omega))⟩)
  case body =>
    rintro l' pre p V ⟨⟨hlen, hpx⟩, hpre, ⟨done, hd, hok, hJs⟩, hi, hy, hsz, hBg⟩ hlen2
    have ci : V.cell? ⟨W.heap.size + 1, 0, none⟩ = some (.int .i64 pre.length) := cell_of_row V _ 0 _ _ _ hi
    have fi := frozen_of_row V (W.heap.size + 1) 0 _ _ hi
    have hpl : p.length ≤ 1000 := by have := prn_mem_len (List.mem_of_getElem? hpx); omega
    have hcl : (chop p).length ≤ 1000 := by have := chop_len p; omega
    have hkb : (pre.length : Int) ≤ 1000 := by have := HPc.out; omega
    have hi1 : (V.setCell ⟨W.heap.size + 1, 0, none⟩ (.int .i64 (pre.length + 1))).heap[W.heap.size + 1]? = some (boxI (pre.length + 1)) := heap_setCell_same V _ 0 _ _ (.int .i64 (pre.length + 1)) hi
    have hy1 : (V.setCell ⟨W.heap.size + 1, 0, none⟩ (.int .i64 (pre.length + 1))).heap[W.heap.size]? = some (.cells #[.func (.yield l) #[] #[]] YT (0, 0)) := (heap_setCell_other _ _ _ _ (by simp only; omega)).trans hy
    have hJ1 := HJ.out _ _ _ hJs (Dirt.setCell V ⟨W.heap.size + 1, 0, none⟩ (.int .i64 (pre.length + 1)) (by simp only; omega))
    have hB1 : Big (V.setCell ⟨W.heap.size + 1, 0, none⟩ (.int .i64 (pre.length + 1))) := hBg.heap (heap_setCell_other _ _ _ _ (by simp only; omega))
    have HI1 := Lib.hid hi1
    have HY1 := Lib.hid hy1
    have HJ1 := Lib.hid hJ1
    have HB1 := Lib.hid hB1
    have HPre := Lib.hid hpre
    have HD := Lib.hid hd
    have HOk := Lib.hid hok
    have HV := Lib.hid (show KF W5.heap.size V (V.setCell ⟨W.heap.size + 1, 0, none⟩ (.int .i64 (pre.length + 1))) from KF.of_others (KeepsOthers.setCell _ _ _))
    have HVs := Lib.hid (show (V.setCell ⟨W.heap.size + 1, 0, none⟩ (.int .i64 (pre.length + 1))).heap[W.heap.size + 1 + 1]? = V.heap[W.heap.size + 1 + 1]? from heap_setCell_other _ _ _ _ (by simp only; omega))
    have hsz1 : W5.heap.size + 2 ≤ (V.setCell ⟨W.heap.size + 1, 0, none⟩ (.int .i64 (pre.length + 1))).heap.size := by simp only [World.size_setCell]; omega
    clear hi1 hy1 hJ1 hB1 hpre hd hok hi hy hJs hBg hpx b5 hJ5 hB5 c1 h1 ks ky ki
    gi_wp2
    refine ⟨trivial, (fun h => by cases h), ?_⟩
    refine (CallsIn.inRound l' (callsIn_wide.2 (suffix_any p _ hpl))).mono ?_
    rintro e V1 ⟨rfl, rfl⟩
    generalize V.setCell ⟨W.heap.size + 1, 0, none⟩ (.int .i64 (pre.length + 1)) = V1 at *
    clear ci fi
    gi_wp2
    refine ⟨trivial, (fun h => by cases h), ?_⟩
    refine (CallsIn.inRound l' (callsIn_wide.2 (lwords_any (chop p) _ hcl HB1.out))).mono ?_
    rintro e V2 ⟨v, rfl, hsl, hb2⟩
    have hszw := hb2.size
    have hi2 := (hb2.block (W.heap.size + 1) (by omega)).trans HI1.out
    have hy2 := (hb2.block W.heap.size (by omega)).trans HY1.out
    have hJ2 := HJ.out _ _ _ HJ1.out (Dirt.of_below hb2)
    have HB2 := Lib.hid (HB1.out.below hb2)
    have HI2 := Lib.hid hi2
    have HY2 := Lib.hid hy2
    have HJ2 := Lib.hid hJ2
    have HS2 := Lib.hid (hsl.mono (b' := W.heap.size + 5) (by omega))
    have cy2 : V2.cell? ⟨W.heap.size, 0, none⟩ = some (.func (.yield l) #[] #[]) := cell_of_row V2 _ 0 _ _ _ hy2
    have ci2 : V2.cell? ⟨W.heap.size + 1, 0, none⟩ = some (.int .i64 (pre.length + 1)) := cell_of_row V2 _ 0 _ _ _ hi2
    have HV2 := Lib.hid (HV.out.trans (kf_below hb2))
    have HVs2 := Lib.hid ((hb2.block (W.heap.size + 1 + 1) (by omega)).trans HVs.out)
    obtain ⟨ad, cap, rfl, _⟩ := hsl
    obtain ⟨E, hE⟩ : ∃ E, (lexW (chop p)).1 = E := ⟨_, rfl⟩
    obtain ⟨ws, hws⟩ : ∃ ws, (lexW (chop p)).2 = ws := ⟨_, rfl⟩
    obtain ⟨N, hN⟩ : ∃ N, ws.length = N := ⟨_, rfl⟩
    have HE := Lib.hid hE
    have HWs := Lib.hid hws
    have HN := Lib.hid hN
    rw [hE, hws, hN]
    rw [hws, hN] at HS2
    clear hE hws hN hi2 hy2 hJ2 hb2
    by_cases e0 : E = 0
    · subst e0
      by_cases n0 : ws = []
      · have HSk := Lib.hid (its_one_skip (k := 1 + pre.length) HE.out (by rw [HWs.out, n0]))
        obtain rfl : N = 0 := by rw [← HN.out, n0]; rfl
        clear n0
        gi_wp2
        refine ⟨HV2.out, HVs2.out, HPre.out, ⟨done, ?_, HOk.out, HJ2.out⟩, ?_, HY2.out, by omega, HB2.out⟩
        · rw [List.map_append, its_snoc HD.out HOk.out, List.length_map]
          simp [HSk.out]
        · have := HI2.out
          simpa using this
      · have hn1 : (N : Int) ≠ 0 := by rw [← HN.out]; simpa using n0
        have hnq : ((N : Int) == 0) = false := beq_eq_false_iff_ne.2 hn1
        obtain ⟨hg, hg2⟩ := its_get HPre.out HD.out HOk.out HPr.out (its_one_ok (k := 1 + pre.length) HE.out (by rw [HWs.out]; exact n0))
        rw [HWs.out] at hg hg2
        have HG2 := Lib.hid hg2
        have hlt := (List.getElem?_eq_some_iff.1 hg).1
        obtain ⟨fn, tmps, assign, body, hyy, hR⟩ := HY.out done ⟨(pre.length : Int) + 1, ws, 0, .slice ad N cap⟩ V2 HJ2.out hlt ⟨by rw [hg]; simp [LI.st]; omega, HS2.out, by omega⟩
        dsimp only [encl] at hyy
        clear hg hg2 n0 hn1
        gi_wp2
        refine ⟨(fun h => by cases h), ?_⟩
        refine (round_any hR).mono ?_
        rintro e V3 (⟨rfl, hJ3, hk3⟩ | ⟨rfl, hJx3, hf3⟩)
        · have hi3 := (hk3.2.1 (W.heap.size + 1) (by omega) (by omega)).trans HI2.out
          have hy3 := (hk3.2.1 W.heap.size (by omega) (by omega)).trans HY2.out
          have HK3 := Lib.hid hk3
          have HJ3 := Lib.hid hJ3
          have HI3 := Lib.hid hi3
          have HY3 := Lib.hid hy3
          clear hi3 hy3 hk3 hJ3 cy2 ci2
          gi_wp2
          have hsz3 := HK3.out.1.size
          refine ⟨HV2.out.trans (HK3.out.1.mono (by omega)), (HK3.out.2.1 (W.heap.size + 1 + 1) (by omega) (by omega)).trans HVs2.out, HPre.out, ⟨_, by rw [HG2.out, List.map_append]; simp [LI.st]; omega, ?_, HJ3.out⟩, ?_, HY3.out, by omega, HB2.out.heap HK3.out.2.2⟩
          · intro x hx
            rcases List.mem_append.1 hx with hx | hx
            · exact HOk.out x hx
            · rw [List.mem_singleton.1 hx]
          · have := HI3.out
            simpa using this
        · have HJ3 := Lib.hid hJx3
          clear hJx3 cy2 ci2
          gi_wp2
          refine ⟨HV2.out.trans (hf3.mono (by omega)), rfl, .inr ⟨_, ?_, HJ3.out⟩⟩
          have h2 := its_get2 HPre.out HPr.out HG2.out
          rw [List.map_append]
          refine List.IsPrefix.trans ?_ h2
          simp [LI.st]
          omega
    · have he0 : (E == 0) = false := beq_eq_false_iff_ne.2 e0
      have he1 : (E != 0) = true := by rw [bne_iff_ne]; exact e0
      have hws0 : ws = [] := by rw [← HWs.out]; exact lexW_err (by rw [HE.out]; exact e0)
      obtain ⟨hg, hg2⟩ := its_get HPre.out HD.out HOk.out HPr.out (its_one_err (k := 1 + pre.length) (by rw [HE.out]; exact e0))
      rw [HWs.out, HE.out] at hg hg2
      have HG2 := Lib.hid hg2
      have HEnd := Lib.hid (its_err (pre := pre ++ [p]) HPre.out HPr.out (by rw [hg2]; simp [endE]; exact e0))
      have hlt := (List.getElem?_eq_some_iff.1 hg).1
      obtain ⟨fn, tmps, assign, body, hyy, hR⟩ := HY.out done ⟨(pre.length : Int) + 1, ws, E, .slice ad N cap⟩ V2 HJ2.out hlt ⟨by rw [hg]; simp [LI.st]; omega, HS2.out, by omega⟩
      dsimp only [encl] at hyy
      clear hg hg2 hws0 e0
      gi_wp2
      refine ⟨(fun h => by cases h), ?_⟩
      refine (round_any hR).mono ?_
      rintro e V3 (⟨rfl, hJ3, hk3⟩ | ⟨rfl, hJx3, hf3⟩)
      · have HK3 := Lib.hid hk3
        have HJ3 := Lib.hid hJ3
        clear hk3 hJ3 cy2 ci2
        gi_wp2
        refine ⟨HV2.out.trans (HK3.out.1.mono (by omega)), rfl, .inl ⟨_, ?_, HJ3.out⟩⟩
        rw [HEnd.out, HG2.out, List.map_append]
        simp [LI.st]
        omega
      · have HJ3 := Lib.hid hJx3
        clear hJx3 cy2 ci2
        gi_wp2
        refine ⟨HV2.out.trans (hf3.mono (by omega)), rfl, .inr ⟨_, ?_, HJ3.out⟩⟩
        have h2 := its_get2 HPre.out HPr.out HG2.out
        rw [List.map_append]
        refine List.IsPrefix.trans ?_ h2
        simp [LI.st]
        omega
theorem llines_stops (n Bt : Nat) (s : List UInt8) (hs : s.length ≤ 1000) (hn : 1 ≤ n) (w : World) (h1 : w.heap[Bt]? = some (boxS s)) (hB : Big w) (H : Nat) :
    SeqDirt Fence.wide n Tryd.prog 19 #[.pointer (some ⟨Bt, 0, none⟩)] encl (KeptL H) H (fun k => H ≤ k ∧ k < H + 5) (fun ys => ys.map LI.st = its 1 (prt s)) (fun pre => pre.map LI.st <+: its 1 (prt s)) (its 1 (prt s)).length (fun pre x W => (its 1 (prt s))[pre.length]? = some x.st ∧ SL (H + 5) W x.v x.ws ∧ H + 5 ≤ W.heap.size) w := by
  intro l J Jx W hWb hH hJ hJx hY h0
  subst hH
  have hb := (Array.getElem?_eq_some_iff.1 h1).1
  exact llines1_in n l Bt s hs J Jx W (by have := hWb.size; omega) hJ hJx hY hn ((hWb.block Bt hb).trans h1) (hB.below hWb) h0
end Go.Proofs.YtdneodlboggcnaaDoor
