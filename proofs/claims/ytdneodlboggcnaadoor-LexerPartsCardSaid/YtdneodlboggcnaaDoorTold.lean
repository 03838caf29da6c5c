/-
  THE WALK of the laws' own told: a range over Lines.
-/
import Derived.Test.YtdneodlboggcnaaDoorLineIt
import Derived.Test.YtdneodlboggcnaaDoorDirtSeqA
import Derived.Deep.Cut
namespace Go.Proofs.YtdneodlboggcnaaDoor
open Go Go.RowKit
attribute [local go_sem] Oper.semAt_some
abbrev LT : TypeId := 34
abbrev lcells (xs : List LI) : List Value := xs.flatMap fun x => [.int .i64 x.k, x.v]
theorem lcells_len (xs : List LI) : (lcells xs).length = xs.length * 2 := by
  induction xs with
  | nil => rfl
  | cons x xs ih => simp [lcells] at ih ⊢; omega
theorem lcells_snoc (xs : List LI) (x : LI) : lcells (xs ++ [x]) = lcells xs ++ [.int .i64 x.k, x.v] := by simp [lcells]
theorem lcells_get : ∀ (xs : List LI) (j : Nat) (x : LI), xs[j]? = some x → (lcells xs)[2 * j]? = some (.int .i64 x.k) ∧ (lcells xs)[2 * j + 1]? = some x.v
  | [], j, x, h => by simp at h
  | y :: ys, 0, x, h => by
    obtain rfl : y = x := by simpa using h
    exact ⟨rfl, rfl⟩
  | y :: ys, j + 1, x, h => by
    have ih := lcells_get ys j x (by simpa using h)
    have e : lcells (y :: ys) = .int .i64 y.k :: y.v :: lcells ys := by simp [lcells]
    rw [e, show 2 * (j + 1) = 2 * j + 1 + 1 by omega]
    exact ⟨by simpa using ih.1, by simpa using ih.2⟩
/-- a slice of lines of the call's own -/
def OwnL (w : World) (B : Nat) (v : Value) (xs : List LI) : Prop := w.ownsRow B LT 2 v xs.length (lcells xs)
theorem lineInfo : (Tryd.prog.info? LT).map (fun i => (i.zero, i.size, i.bytes)) = some (some (.agg #[.int .i64 0, .slice none 0 0]), 2, 32) := by kernel_rfl
theorem wpListIn_append_line {F : Fence} {n : Nat} {ops : Array Oper} {rest : List Oper} {o : Oper} {a : Act} {w : World} {Q : Exit → Act → World → Prop} (hgd : o.guard = none) (s x : Operand)
    (ho : o.op = .call { callee := .builtin .append, args := #[s, x], argTypes := #[29, 29] }) (B : Nat) (v : Value) (xs : List LI) (y : LI) (hy : y.v.oneCell' = true) (hs : a.eval s = v) (hown : OwnL w B v xs)
    (b c : Nat) (hx : a.eval x = .slice (some ⟨b, 0, none⟩) 1 c) (hc : w.cell? ⟨b, 0, none⟩ = some (.int .i64 y.k)) (hc1 : w.cell? ⟨b, 1, none⟩ = some y.v) (hn : xs.length ≤ 100000) (hB : B ≤ w.heap.size)
    (h : ∀ v' w', OwnL w' B v' (xs ++ [y]) → Dirt (fun k => v.ownBlock = some k) w w' → wpListIn F n Tryd.prog ops Q rest (a.put o.dst v') w') : wpListIn F n Tryd.prog ops Q (o :: rest) a w := by
  obtain ⟨i0, hi, hz0, hz1, hz2⟩ := info_parts lineInfo
  refine wpListIn_append_own w hgd s x _ ho B LT i0 _ 2 32 Tryd.underlying29 hi hz0 hz1 hz2 rfl (by omega) v xs.length _ hs hown ⟨b, 0, none⟩ 1 c [.int .i64 y.k, y.v] hx (by simp) ?_ ?_ (by unfold maxLen; omega) (by omega) hB ?_
  · intro j u hu
    match j, hu with
    | 0, hu => simp at hu; subst hu; simpa [Addr.add] using hc
    | 1, hu => simp at hu; subst hu; simpa [Addr.add] using hc1
  · intro u hu
    simp at hu
    rcases hu with rfl | rfl
    · rfl
    · exact hy
  · intro v' w' hown' hg _
    refine h v' w' ?_ ⟨hg.os, hg.tape, hg.output, hg.size, fun k hk hd => hg.block k hk fun e => hd e.symm⟩
    unfold OwnL
    rw [lcells_snoc, List.length_append]
    exact hown'
theorem OwnL.dirt {D : Nat → Prop} {A B : World} {b : Nat} {v : Value} {xs : List LI} (h : OwnL A b v xs) (hd : Dirt D A B) (hD : ∀ k, D k → k < b) : OwnL B b v xs := by
  refine ⟨h.1, ?_⟩
  rcases h.2 with hn | ⟨g, cap, cur, hv, hg, hh, r⟩
  · exact .inl hn
  · exact .inr ⟨g, cap, cur, hv, hg, hd.heap hh (fun e => by have := hD g e; omega), r⟩
theorem OwnL.block {w : World} {B : Nat} {v : Value} {xs : List LI} {k : Nat} (h : OwnL w B v xs) (hk : v.ownBlock = some k) : B ≤ k ∧ ∃ cur, w.heap[k]? = some (.cells cur LT (0, 0)) := by
  rcases h.2 with ⟨rfl, _⟩ | ⟨g, cap, cur, rfl, hg, hh, _⟩
  · cases hk
  · obtain rfl : g = k := by simpa [Value.ownBlock] using hk
    exact ⟨hg, cur, hh⟩
theorem OwnL.kf {H : Nat} {w w' : World} {B : Nat} {v : Value} {xs : List LI} {ob : Obj} (h : OwnL w B v xs) (hd : Dirt (fun k => v.ownBlock = some k) (w.alloc ob) w') : KF H w w' :=
  ⟨by have := hd.size; simp only [World.size_alloc] at this; omega, fun k o _ h1 h2 => hd.heap ((Below.heap_alloc _ _ _ (Array.getElem?_eq_some_iff.1 h1).1).trans h1) fun e => by
    obtain ⟨_, cur, hc⟩ := h.block e
    rw [h1] at hc
    cases hc
    cases h2⟩
theorem OwnL.low {w w' : World} {B : Nat} {v : Value} {xs : List LI} {ob : Obj} (h : OwnL w B v xs) (hd : Dirt (fun k => v.ownBlock = some k) (w.alloc ob) w') {k : Nat} (hk : k < B) (hB : B ≤ w.heap.size) : w'.heap[k]? = w.heap[k]? :=
  (hd.same k (by simp only [World.size_alloc]; omega) fun e => by have := (h.block e).1; omega).trans (Below.heap_alloc _ _ _ (by omega))
theorem OwnL.below {n₀ : Nat} {u w w' : World} {B : Nat} {v : Value} {xs : List LI} {ob : Obj} (h : OwnL w B v xs) (hd : Dirt (fun k => v.ownBlock = some k) (w.alloc ob) w') (hb : Below n₀ u w) (hn : n₀ ≤ B) (hB : B ≤ w.heap.size) : Below n₀ u w' :=
  hd.below (hb.alloc (by omega) _) (fun k hk => by have := (h.block hk).1; omega) (by simp only [World.size_alloc]; omega)
/-- texts stay while rows of lines are written -/
theorem SL.line {D : Nat → Prop} {A B : World} {b : Nat} {v : Value} {ws : List (List UInt8)} (h : SL b A v ws) (hd : Dirt D A B) (hD : ∀ k, D k → ∀ s, A.cell? ⟨k, 0, none⟩ ≠ some (.string s)) : SL b B v ws := by
  obtain ⟨ad, cap, hv, h⟩ := h
  refine ⟨ad, cap, hv, ?_⟩
  rcases h with h | ⟨g, hg, hb, hl, ht⟩
  · exact .inl h
  · by_cases hw : ws = []
    · exact .inl hw
    · have h0 := ht 0 (List.length_pos_iff.2 hw)
      refine .inr ⟨g, hg, hb, Nat.lt_of_lt_of_le hl hd.size, fun j hj => ?_⟩
      rw [World.cell?_of_block (a := ⟨g, j, none⟩) (hd.same g hl fun e => hD g e _ h0)]
      exact ht j hj
/-- a slice of lines, in blocks from B on -/
def LLs (B : Nat) (w : World) (v : Value) (xs : List LI) : Prop := (∃ ad cap, v = .slice ad xs.length cap ∧ (xs = [] ∨ ∃ g, ad = some ⟨g, 0, none⟩ ∧ B ≤ g ∧ g < w.heap.size ∧
    ∀ j x, xs[j]? = some x → w.cell? ⟨g, 2 * j, none⟩ = some (.int .i64 x.k) ∧ w.cell? ⟨g, 2 * j + 1, none⟩ = some x.v)) ∧ ∀ x ∈ xs, SL B w x.v x.ws
theorem OwnL.lls {w : World} {B : Nat} {v : Value} {xs : List LI} (h : OwnL w B v xs) : ∃ ad cap, v = .slice ad xs.length cap ∧ (xs = [] ∨ ∃ g, ad = some ⟨g, 0, none⟩ ∧ B ≤ g ∧ g < w.heap.size ∧
    ∀ j x, xs[j]? = some x → w.cell? ⟨g, 2 * j, none⟩ = some (.int .i64 x.k) ∧ w.cell? ⟨g, 2 * j + 1, none⟩ = some x.v) := by
  have h' := h
  obtain ⟨hl, h2⟩ := h'
  rcases h2 with ⟨rfl, h0⟩ | ⟨g, cap, cur, rfl, hg, hh, hn, hm, hs, ht⟩
  · exact ⟨none, 0, by rw [h0], .inl (List.length_eq_zero_iff.1 h0)⟩
  · refine ⟨_, cap, rfl, .inr ⟨g, rfl, hg, (Array.getElem?_eq_some_iff.1 hh).1, fun j x hx => ?_⟩⟩
    have hj := (List.getElem?_eq_some_iff.1 hx).1
    have hc := lcells_get xs j x hx
    exact ⟨by rw [World.ownsRow.cellAt h (2 * j) (by omega)]; exact hc.1, by rw [World.ownsRow.cellAt h (2 * j + 1) (by omega)]; exact hc.2⟩
theorem LLs.below {A B : World} {b : Nat} {v : Value} {xs : List LI} (h : LLs b A v xs) (hb : Below A.heap.size A B) : LLs b B v xs := by
  obtain ⟨⟨ad, cap, hv, h1⟩, h2⟩ := h
  refine ⟨⟨ad, cap, hv, h1.imp id fun ⟨g, e1, e2, e3, e4⟩ => ⟨g, e1, e2, Nat.lt_of_lt_of_le e3 hb.size, fun j x hx => ?_⟩⟩, fun x hx => (h2 x hx).below hb⟩
  have := e4 j x hx
  exact ⟨(hb.cell (p := ⟨g, 2 * j, none⟩) e3).trans this.1, (hb.cell (p := ⟨g, 2 * j + 1, none⟩) e3).trans this.2⟩
theorem LLs.dirt {D : Nat → Prop} {A B : World} {b : Nat} {v : Value} {xs : List LI} (h : LLs b A v xs) (hd : Dirt D A B) (hD : ∀ k, D k → k < b) : LLs b B v xs := by
  obtain ⟨⟨ad, cap, hv, h1⟩, h2⟩ := h
  refine ⟨⟨ad, cap, hv, h1.imp id fun ⟨g, e1, e2, e3, e4⟩ => ⟨g, e1, e2, Nat.lt_of_lt_of_le e3 hd.size, fun j x hx => ?_⟩⟩, fun x hx => (h2 x hx).dirt hd hD⟩
  have := e4 j x hx
  have hs := hd.same g e3 fun e => by have := hD g e; omega
  exact ⟨(World.cell?_of_block (a := ⟨g, 2 * j, none⟩) hs).trans this.1, (World.cell?_of_block (a := ⟨g, 2 * j + 1, none⟩) hs).trans this.2⟩
theorem LLs.mono {A : World} {b b' : Nat} {v : Value} {xs : List LI} (h : LLs b A v xs) (hb : b' ≤ b) : LLs b' A v xs := by
  obtain ⟨⟨ad, cap, hv, h1⟩, h2⟩ := h
  exact ⟨⟨ad, cap, hv, h1.imp id fun ⟨g, e1, e2, e3⟩ => ⟨g, e1, by omega, e3⟩⟩, fun x hx => (h2 x hx).mono hb⟩
theorem told_res (tmps : Array Value) (W : World) (b b' b2 : Nat) (v1 v2 v3 : Value) (hp : tmps[2]?.getD undef = .pointer (some ⟨b, 0, none⟩)) (hq : tmps[3]?.getD undef = .pointer (some ⟨b', 0, none⟩)) (hr : tmps[4]?.getD undef = .pointer (some ⟨b2, 0, none⟩))
    (c1 : W.cell? ⟨b, 0, none⟩ = some v1) (c2 : W.cell? ⟨b', 0, none⟩ = some v2) (c3 : W.cell? ⟨b2, 0, none⟩ = some v3) :
    (results Tryd.f10 tmps).run Tryd.prog W = .ok (.tuple #[v1, v2, v3]) W := by
  simp [results, Tryd.f10, go_sem, hp, hq, hr, c1, c2, c3]
abbrev boxL (v : Value) : Obj := .cells #[v] 29 (0, 0)
abbrev boxB (b : Bool) : Obj := .cells #[.bool b] 4 (0, 0)
abbrev llinesIt : Nat := 19
theorem enters_llines (args : Array Value) (w : World) : (callFunc llinesIt args).run Tryd.prog w = .ok (.enter llinesIt args) w := enters_of Tryd.func19 (by kernel_rfl) rfl args w
theorem eq_nil (a : Value) (w : World) : (binOp .eql 40 (.func (.func 19) #[] #[a]) .nilFunc).run Tryd.prog w = .ok (.bool false) w := by
  first
  | rfl
  | simp [binOp, go_sem]
/-- all lines that are told but the last one are right -/
theorem its_end : ∀ (ps : List (List UInt8)) (k : Int) (xs : List (Int × List (List UInt8) × Int)) (y : Int × List (List UInt8) × Int), xs <+: its k ps → (its k ps)[xs.length]? = some y → endE xs = 0
  | [], k, xs, y, h, hy => by simp [its] at hy
  | p :: ps, k, xs, y, h, hy => by
    cases xs with
    | nil => rfl
    | cons z xs =>
      by_cases h1 : (lexW p).1 ≠ 0
      · have e : its k (p :: ps) = [(k, (lexW p).2, (lexW p).1)] := by unfold its; exact if_pos h1
        rw [e] at hy
        simp at hy
      · by_cases h2 : (lexW p).2 = []
        · have e : its k (p :: ps) = its (k + 1) ps := by
            conv => lhs; unfold its
            rw [if_neg h1, if_pos h2]
          rw [e] at h hy
          exact its_end ps (k + 1) (z :: xs) y h hy
        · have e : its k (p :: ps) = (k, (lexW p).2, 0) :: its (k + 1) ps := by
            conv => lhs; unfold its
            rw [if_neg h1, if_neg h2]
          rw [e] at h hy
          obtain ⟨hz, h'⟩ := List.cons_prefix_cons.1 h
          rw [List.length_cons, List.getElem?_cons_succ] at hy
          rw [endE_cons _ _ (by rw [hz])]
          exact its_end ps (k + 1) xs y h' hy
/-- told's state behind some lines -/
structure TI (w : World) (T : List (Int × List (List UInt8) × Int)) (pre : List LI) (V : World) : Prop where
  pr : pre.map LI.st <+: T
  own : ∃ v, V.heap[w.heap.size + 4]? = some (boxL v) ∧ OwnL V (w.heap.size + 13) v pre ∧ (pre = [] → v = .slice none 0 0)
  sl : ∀ x ∈ pre, SL (w.heap.size + 13) V x.v x.ws
  la : V.heap[w.heap.size + 4 + 1]? = some (boxE (endE (pre.map LI.st)))
  r0 : V.heap[w.heap.size]? = some (boxL (.slice none 0 0))
  r1 : V.heap[w.heap.size + 1]? = some (boxE 0)
  r2 : V.heap[w.heap.size + 1 + 1]? = some (boxB false)
  sz : w.heap.size + 6 ≤ V.heap.size
  bl : Below w.heap.size w V
theorem TI.dirt {w : World} {T : List (Int × List (List UInt8) × Int)} {pre : List LI} {A B : World} {D : Nat → Prop} (h : TI w T pre A) (hd : Dirt D A B) (hD : ∀ k, D k → w.heap.size + 6 ≤ k ∧ k < w.heap.size + 13) : TI w T pre B where
  pr := h.pr
  own := h.own.elim fun v hv => ⟨v, hd.heap hv.1 (fun e => by have := hD _ e; omega), hv.2.1.dirt hd (fun k hk => by have := hD _ hk; omega), hv.2.2⟩
  sl := fun x hx => (h.sl x hx).dirt hd (fun k hk => by have := hD _ hk; omega)
  la := hd.heap h.la (fun e => by have := hD _ e; omega)
  r0 := hd.heap h.r0 (fun e => by have := hD _ e; omega)
  r1 := hd.heap h.r1 (fun e => by have := hD _ e; omega)
  r2 := hd.heap h.r2 (fun e => by have := hD _ e; omega)
  sz := Nat.le_trans h.sz hd.size
  bl := hd.below h.bl (fun k hk => by have := hD _ hk; omega) (by have := h.sz; omega)
abbrev ptr (b : Nat) : Value := .pointer (some ⟨b, 0, none⟩)
/-- the frame of a round -/
abbrev toldAct (l : List UInt8) (s : Nat) (k e : Int) (v : Value) (b : Nat) : Act :=
  { tmps := #[.string ⟨l.toArray⟩, undef, ptr s, ptr (s + 1), ptr (s + 1 + 1), .func (.func 19) #[] #[ptr (s + 1 + 1 + 1)], ptr (s + 4), ptr (s + 4 + 1), ptr b, .int .i64 e, .string ⟨l.toArray⟩,
      .func (.func 19) #[] #[ptr (s + 1 + 1 + 1)], .func (.func 19) #[] #[ptr (s + 1 + 1 + 1)], .bool false, .func (.func 19) #[] #[ptr (s + 1 + 1 + 1)],
      .agg #[.int .i64 k, v], .int .i64 e, undef, undef, undef, undef, undef, undef, undef, undef, undef, undef, undef, undef, undef, undef], defers := [] }
set_option maxRecDepth 100000 in
set_option maxHeartbeats 4000000 in
theorem told_any (l : List UInt8) (w : World) (hl : l.length ≤ 401) (hB : Big w) :
    Calls Tryd.prog 10 #[.string ⟨l.toArray⟩] w fun e w' => ∃ (v : Value) (xs : List LI), e = .returned (.tuple #[v, .int .i64 (endE (its 1 (prt l))), .bool true]) ∧ xs.map LI.st = its 1 (prt l) ∧ LLs w.heap.size w' v xs ∧ Below w.heap.size w w' := by
  have HBg := Lib.hid hB
  have hgm : gm < w.heap.size := hB.lt
  clear hB
  refine (callsIn_wide (n := 9)).1 ?_
  refine callsIn_of_wp_marks Tryd.func10 rfl trivial ?_ rfl
  simp only [Tryd.ntmps10, List.size_toArray, List.length_cons, List.length_nil, Nat.reduceAdd, Nat.reduceSub, Array.replicate_succ, Array.replicate_zero, List.push_toArray, List.append_toArray, List.nil_append, List.cons_append]
  refine wpIn_wide.2 ?_
  go_wp2_with fail
  refine (llines_any l _).mono ?_
  rintro e W4 ⟨rfl, hW4⟩
  simp only [World.size_alloc]
  have RN := eq_nil (.pointer (some ⟨w.heap.size + 1 + 1 + 1, 0, none⟩)) W4
  have s4 : W4.heap.size = w.heap.size + 4 := by rw [hW4]; simp
  have HW4 := Lib.hid hW4
  clear hW4
  go_wp2_with fail
  have hk : ((W4.alloc (.cells #[.slice none 0 0] 29)).alloc (.cells #[.int .i64 0] 24)).heap.size = w.heap.size + 6 := by simp only [World.size_alloc]; omega
  have b4 : Below w.heap.size w W4 := by
    rw [HW4.out]
    exact ((((Below.refl _ _).alloc (Nat.le_refl _) _).alloc (by simp only [World.size_alloc]; omega) _).alloc (by simp only [World.size_alloc]; omega) _).alloc (by simp only [World.size_alloc]; omega) _
  have j0 : W4.heap[w.heap.size]? = some (boxL (.slice none 0 0)) := by
    rw [HW4.out, Below.heap_alloc _ _ _ (by simp only [World.size_alloc]; omega), Below.heap_alloc _ _ _ (by simp only [World.size_alloc]; omega), Below.heap_alloc _ _ _ (by simp only [World.size_alloc]; omega)]
    exact heap_alloc_new w _
  have j1 : W4.heap[w.heap.size + 1]? = some (boxE 0) := by
    rw [HW4.out, Below.heap_alloc _ _ _ (by simp only [World.size_alloc]; omega), Below.heap_alloc _ _ _ (by simp only [World.size_alloc]; omega)]
    have := heap_alloc_new (w.alloc (boxL (.slice none 0 0))) (boxE 0)
    simpa using this
  have j2 : W4.heap[w.heap.size + 1 + 1]? = some (boxB false) := by
    rw [HW4.out, Below.heap_alloc _ _ _ (by simp only [World.size_alloc]; omega)]
    have := heap_alloc_new ((w.alloc (boxL (.slice none 0 0))).alloc (boxE 0)) (boxB false)
    simpa using this
  have j3 : W4.heap[w.heap.size + 1 + 1 + 1]? = some (boxS l) := by
    rw [HW4.out]
    have := heap_alloc_new (((w.alloc (boxL (.slice none 0 0))).alloc (boxE 0)).alloc (boxB false)) (boxS l)
    simpa using this
  generalize hW6 : (W4.alloc (.cells #[.slice none 0 0] 29)).alloc (.cells #[.int .i64 0] 24) = W6 at hk ⊢
  have b6 : Below W4.heap.size W4 W6 := by
    rw [← hW6]
    exact ((Below.refl _ _).alloc (Nat.le_refl _) _).alloc (by simp only [World.size_alloc]; omega) _
  have k4 : W6.heap[w.heap.size + 4]? = some (boxL (.slice none 0 0)) := by
    rw [← hW6, ← s4, Below.heap_alloc _ _ _ (by simp only [World.size_alloc]; omega)]
    exact heap_alloc_new W4 _
  have k5 : W6.heap[w.heap.size + 4 + 1]? = some (boxE 0) := by
    rw [← hW6, ← s4]
    have := heap_alloc_new (W4.alloc (boxL (.slice none 0 0))) (boxE 0)
    simpa using this
  have k0 := (b6.block w.heap.size (by omega)).trans j0
  have k1 := (b6.block (w.heap.size + 1) (by omega)).trans j1
  have k2 := (b6.block (w.heap.size + 1 + 1) (by omega)).trans j2
  have k3 := (b6.block (w.heap.size + 1 + 1 + 1) (by omega)).trans j3
  have bl6 := b4.trans (b6.mono (by omega))
  have g6 : Big W6 := HBg.out.heap (bl6.block _ hgm)
  clear hW6 b6 j0 j1 j2 j3 b4 HW4
  refine (wpIn_wide (n := 9)).1 ?_
  refine wpIn_rangeFunc_dirtA (n := 9) rfl (by decide) (gf := llinesIt) (lb := #[.pointer (some ⟨w.heap.size + 1 + 1 + 1, 0, none⟩)]) rfl trivial enters_llines
    (llines_stops (9 - 1) (w.heap.size + 1 + 1 + 1) l (by omega) (by decide) W6 k3 g6 (W6.heap.size + 2))
    (by omega) (by omega) keptL_t
    (fun V q ob ob' hle hlt h2 h3 h4 => ⟨KF.put _ _ _ _ (by omega), fun k ha hb => World.putObj_heap_other (by omega), World.putObj_heap_other (by omega)⟩) (Below.refl _ _) (fun _ => rfl)
    (fun pre V => TI w (its 1 (prt l)) pre V)
    (fun c pre V => False)
    (fun t A B h hd => h.dirt hd (fun k hk' => by omega))
    (fun c t A B h hd => h.elim)
    ⟨List.nil_prefix, ⟨_, k4, World.ownsRow_nil _ _ _ _, fun _ => rfl⟩, (fun x h => by cases h), k5, k0, k1, k2, by omega, bl6⟩
    (fun pre x a2 V => TI w (its 1 (prt l)) pre V ∧ pre.length ≤ 400 ∧ endE (pre.map LI.st) = 0 ∧ (its 1 (prt l))[pre.length]? = some x.st ∧ SL (w.heap.size + 13) V x.v x.ws ∧ ∃ b, a2 = toldAct l w.heap.size x.k x.e x.v b ∧ w.heap.size + 13 ≤ b ∧ b < V.heap.size ∧ V.heap[b]? = some (.cells #[.int .i64 x.k, x.v] LT (0, 0)))
    (fun pre x a2 A B h hd => ⟨h.1.dirt hd (fun k hk' => by omega), h.2.1, h.2.2.1, h.2.2.2.1, h.2.2.2.2.1.dirt hd (fun k hk' => by omega), h.2.2.2.2.2.elim fun b hb => ⟨b, hb.1, hb.2.1, Nat.lt_of_lt_of_le hb.2.2.1 hd.size, hd.heap hb.2.2.2 (by omega)⟩⟩)
    ?assign ?body ?done ?stop
  case assign =>
    rintro l' pre ⟨k, ws, e, v⟩ V K hI hlen ⟨hpx, hsl, hsz⟩ hsz2 hK
    have HS := Lib.hid (show SL (w.heap.size + 13) V v ws from by
      have := hsl
      rw [hk] at this
      exact this)
    obtain ⟨ad, cap, hv, _⟩ := hsl
    simp only at hv
    subst hv
    obtain ⟨N, hN⟩ : ∃ N, ws.length = N := ⟨_, rfl⟩
    rw [hN] at HS hK ⊢
    have HI := Lib.hid hI
    have HK := Lib.hid hK
    have HX := Lib.hid hpx
    clear hI hK hpx hN
    gi_wp2
    have hbl : Below V.heap.size V (V.alloc (.cells #[.int .i64 k, .slice ad N cap] LT)) := (Below.refl _ _).alloc (Nat.le_refl _) _
    refine HK.out _ _ (kf_below hbl) ⟨kf_below hbl, fun j h1 h2 => hbl.block j (by omega), hbl.block _ (by omega)⟩ ⟨HI.out.dirt (D := fun _ => False) (Dirt.of_below hbl) (fun _ h => h.elim), ?_, ?_, HX.out, HS.out.below hbl, V.heap.size, rfl, by omega, by simp, heap_alloc_new V _⟩
    · have := its_len 1 (prt l)
      have := prt_count l
      omega
    · exact its_end _ 1 _ _ HI.out.pr (by rw [List.length_map]; exact HX.out)
  case done =>
    rintro V ys hys hI hK
    have HI := Lib.hid hI
    obtain ⟨v, hv, hO, _⟩ := hI.own
    obtain ⟨⟨ad, cap, hvv, hrow⟩, hS⟩ : LLs (w.heap.size + 13) V v ys := ⟨hO.lls, hI.sl⟩
    have HLs := Lib.hid (show LLs (w.heap.size + 13) V v ys from ⟨hO.lls, hI.sl⟩)
    have hys2 : ys.map LI.st = its 1 (prt l) := hys
    obtain ⟨N, hN⟩ : ∃ N, ys.length = N := ⟨_, rfl⟩
    rw [hN] at hvv
    subst hvv
    obtain ⟨E, hE⟩ : ∃ E, endE (its 1 (prt l)) = E := ⟨_, rfl⟩
    have hla := hI.la
    rw [hys2, hE] at hla
    have HE := Lib.hid hE
    have HYs := Lib.hid hys2
    have cs : V.cell? ⟨w.heap.size + 4, 0, none⟩ = some (.slice ad N cap) := cell_of_row V _ 0 _ _ _ hv
    have cl : V.cell? ⟨w.heap.size + 4 + 1, 0, none⟩ = some (.int .i64 E) := cell_of_row V _ 0 _ _ _ hla
    have c0 := cell_of_row V _ 0 _ _ _ hI.r0
    have c1 := cell_of_row V _ 0 _ _ _ hI.r1
    have c2 := cell_of_row V _ 0 _ _ _ hI.r2
    have f0 := frozen_of_row V w.heap.size 0 _ _ hI.r0
    have f1 := frozen_of_row V (w.heap.size + 1) 0 _ _ hI.r1
    have f2 := frozen_of_row V (w.heap.size + 1 + 1) 0 _ _ hI.r2
    have HK := Lib.hid hK
    clear hrow hS hys hys2 hN hE hla hv hO hI hK k0 k1 k2 k3 k4 k5 bl6 g6
    go_wp2_with fail
    go_region
    all_goals go_wp2_with fail
    all_goals
      generalize hV9 : (((V.setCell ⟨w.heap.size, 0, none⟩ (.slice ad N cap)).setCell ⟨w.heap.size + 1, 0, none⟩ (.int .i64 E)).setCell ⟨w.heap.size + 1 + 1, 0, none⟩ (.bool true)).drew = V9
      have hI := HI.out
      have z0 : V9.heap[w.heap.size]? = some (boxL (.slice ad N cap)) := by
        rw [← hV9]
        exact (heap_setCell_other _ _ _ _ (by simp only; omega)).trans ((heap_setCell_other _ _ _ _ (by simp only; omega)).trans (heap_setCell_same V _ 0 _ _ (.slice ad N cap) hI.r0))
      have z1 : V9.heap[w.heap.size + 1]? = some (boxE E) := by
        rw [← hV9]
        exact (heap_setCell_other _ _ _ _ (by simp only; omega)).trans (heap_setCell_same _ _ 0 _ _ (.int .i64 E) ((heap_setCell_other _ _ _ _ (by simp only; omega)).trans hI.r1))
      have z2 : V9.heap[w.heap.size + 1 + 1]? = some (boxB true) := by
        rw [← hV9]
        exact heap_setCell_same _ _ 0 _ _ (.bool true) ((heap_setCell_other _ _ _ _ (by simp only; omega)).trans ((heap_setCell_other _ _ _ _ (by simp only; omega)).trans hI.r2))
      have z6 : V9.heap[W6.heap.size]? = some (.deferred (some [])) := by
        rw [← hV9]
        exact (heap_setCell_other _ _ _ _ (by simp only; omega)).trans ((heap_setCell_other _ _ _ _ (by simp only; omega)).trans ((heap_setCell_other _ _ _ _ (by simp only; omega)).trans HK.out))
      have zb : Below w.heap.size w V9 := by
        rw [← hV9]
        exact (((hI.bl.setCell (by simp only; omega) _).setCell (by simp only; omega) _).setCell (by simp only; omega) _).drew
      have zd : Dirt (fun k => k < w.heap.size + 3) V V9 := by
        rw [← hV9]
        exact (((Dirt.setCell _ _ _ (by simp only; omega)).trans (Dirt.setCell _ _ _ (by simp only; omega))).trans (Dirt.setCell _ _ _ (by simp only; omega))).trans (Dirt.drew _)
      clear hV9
      refine ⟨by simp, .inl ⟨_, _, rfl, run_takeDeferred z6, ?_⟩⟩
      refine ⟨_, told_res _ _ w.heap.size (w.heap.size + 1) (w.heap.size + 1 + 1) _ _ _ rfl rfl rfl (cell_of_row _ _ 0 _ _ _ ((World.putObj_heap_other (by omega)).trans z0)) (cell_of_row _ _ 0 _ _ _ ((World.putObj_heap_other (by omega)).trans z1)) (cell_of_row _ _ 0 _ _ _ ((World.putObj_heap_other (by omega)).trans z2)), ?_⟩
      refine ⟨_, ys, by rw [HE.out]; rfl, HYs.out, ?_, below_put zb (by omega) _⟩
      exact ((HLs.out.dirt (D := fun k => k < w.heap.size + 13) ((zd.mono (fun k hk => by omega)).trans (Dirt.putObj _ _ _ (by show W6.heap.size < _; omega))) (fun k h => h)).mono (by omega))
  case stop =>
    rintro V c pre hpre hI hK
    exact hI.elim
  case body =>
    rintro l' pre ⟨k, ws, e, v⟩ a2 V ⟨hI, hpl, hen, hpx, hsl, b, rfl, hb1, hb2, hb3⟩ hlen
    have HI := Lib.hid hI
    have HS := Lib.hid (show SL (w.heap.size + 13) V v ws from hsl)
    obtain ⟨ad, cap, hv, _⟩ := hsl
    simp only at hv
    subst hv
    obtain ⟨N, hN⟩ : ∃ N, ws.length = N := ⟨_, rfl⟩
    rw [hN] at HS hb3 ⊢
    obtain ⟨v0, hv0, hO, hnil⟩ := hI.own
    have HO := Lib.hid hO
    obtain ⟨ad0, cap0, hvv, _⟩ := hO.lls
    subst hvv
    obtain ⟨M, hM⟩ : ∃ M, pre.length = M := ⟨_, rfl⟩
    have HNl := Lib.hid hnil
    have hM4 : (M : Int) ≤ 400 := by omega
    rw [hM] at hv0 HO HNl
    have cs : V.cell? ⟨w.heap.size + 4, 0, none⟩ = some (.slice ad0 M cap0) := cell_of_row V _ 0 _ _ _ hv0
    have fs := frozen_of_row V (w.heap.size + 4) 0 _ _ hv0
    have hla := hI.la
    rw [hen] at hla
    have cl : V.cell? ⟨w.heap.size + 4 + 1, 0, none⟩ = some (.int .i64 0) := cell_of_row V _ 0 _ _ _ hla
    have fl := frozen_of_row V (w.heap.size + 4 + 1) 0 _ _ hla
    have e0 : V.cell? ⟨b, 0, none⟩ = some (.int .i64 k) := cell_of_row V _ 0 _ _ _ hb3
    have e1 : V.cell? ⟨b, 1, none⟩ = some (.slice ad N cap) := cell_of_row V _ 1 _ _ _ hb3
    have cn0 : (V.alloc (.cells #[.int .i64 k, .slice ad N cap] LT)).cell? ⟨V.heap.size, 0, none⟩ = some (.int .i64 k) := World.cell?_alloc_mark V _ _ _ 0
    have cn1 : (V.alloc (.cells #[.int .i64 k, .slice ad N cap] LT)).cell? ⟨V.heap.size, 1, none⟩ = some (.slice ad N cap) := World.cell?_alloc_mark V _ _ _ 1
    have HX := Lib.hid hpx
    have HEn := Lib.hid hen
    have HMm := Lib.hid hM
    clear hI hpx hen hN hO hnil hv0 hla hb3 hM k0 k1 k2 k3 k4 k5 bl6 g6
    gi_wp2_with (gi_at_builtin; go_loud (refine wpListIn_append_line rfl _ _ rfl (w.heap.size + 13) _ pre ⟨k, ws, e, .slice ad N cap⟩ rfl (by rfl) (World.ownsRow.alloc HO.out _) V.heap.size 1 (by rfl) cn0 cn1 (by omega) (by simp only [World.size_alloc]; omega) ?_))
    intro v' w' hown' hd'
    obtain ⟨ad', cap', hv', _⟩ := hown'.lls
    obtain ⟨n', hn'⟩ : ∃ n', (pre ++ [(⟨k, ws, e, .slice ad N cap⟩ : LI)]).length = n' := ⟨_, rfl⟩
    rw [hn'] at hv'
    subst hv'
    clear hn'
    have hI := HI.out
    have hszV := hd'.size
    simp only [World.size_alloc] at hszV
    have hs' : w'.heap[w.heap.size + 4]? = some (boxL (.slice ad0 M cap0)) := (HO.out.low hd' (by omega) (by omega)).trans (by
      obtain ⟨v9, h9, _⟩ := hI.own
      have e9 := cell_of_row V _ 0 _ _ _ h9
      rw [cs] at e9
      obtain rfl : Value.slice ad0 M cap0 = v9 := by simpa using e9
      exact h9)
    have hl' : w'.heap[w.heap.size + 4 + 1]? = some (boxE 0) := (HO.out.low hd' (by omega) (by omega)).trans (by rw [← HEn.out]; exact hI.la)
    have cs' : w'.cell? ⟨w.heap.size + 4, 0, none⟩ = some (.slice ad0 M cap0) := cell_of_row w' _ 0 _ _ _ hs'
    have fs' := frozen_of_row w' (w.heap.size + 4) 0 _ _ hs'
    have cl' : w'.cell? ⟨w.heap.size + 4 + 1, 0, none⟩ = some (.int .i64 0) := cell_of_row w' _ 0 _ _ _ hl'
    have fl' := frozen_of_row w' (w.heap.size + 4 + 1) 0 _ _ hl'
    have HS' := Lib.hid hs'
    have HL' := Lib.hid hl'
    have HD' := Lib.hid hd'
    have HW' := Lib.hid hown'
    clear hs' hl' hd' hown' cs fs cl fl e0 e1 cn0 cn1 hI
    gi_wp2
    have hd' := HD'.out
    have hI := HI.out
    have d4 : Dirt (fun k => k = w.heap.size + 4 ∨ k = w.heap.size + 4 + 1) w' ((w'.setCell ⟨w.heap.size + 4, 0, none⟩ (.slice ad' n' cap')).setCell ⟨w.heap.size + 4 + 1, 0, none⟩ (.int .i64 e)) := (Dirt.setCell _ _ _ (.inl rfl)).trans (Dirt.setCell _ _ _ (.inr rfl))
    have keep : ∀ j, j < w.heap.size + 13 → j ≠ w.heap.size + 4 → j ≠ w.heap.size + 4 + 1 → ((w'.setCell ⟨w.heap.size + 4, 0, none⟩ (.slice ad' n' cap')).setCell ⟨w.heap.size + 4 + 1, 0, none⟩ (.int .i64 e)).heap[j]? = V.heap[j]? := fun j h1 h2 h3 =>
      (heap_setCell_other _ _ _ _ (by simpa using h3)).trans ((heap_setCell_other _ _ _ _ (by simpa using h2)).trans (HO.out.low hd' (by omega) (by omega)))
    have kf : ∀ H, KF H V ((w'.setCell ⟨w.heap.size + 4, 0, none⟩ (.slice ad' n' cap')).setCell ⟨w.heap.size + 4 + 1, 0, none⟩ (.int .i64 e)) := fun H => (HO.out.kf hd').trans (KF.of_others ((KeepsOthers.setCell _ _ _).trans (KeepsOthers.setCell _ _ _)))
    have hgk : gm < w.heap.size := hgm
    refine ⟨kf _, ⟨kf _, fun j h1 h2 => keep j (by omega) (by omega) (by omega), keep _ (by omega) (by omega) (by omega)⟩, ?_⟩
    refine ⟨?_, ⟨.slice ad' n' cap', ?_, HW'.out.dirt d4 (fun k hk => by omega), fun h => absurd h (by simp)⟩, ?_, ?_, (keep _ (by omega) (by omega) (by omega)).trans hI.r0, (keep _ (by omega) (by omega) (by omega)).trans hI.r1, (keep _ (by omega) (by omega) (by omega)).trans hI.r2, by simp only [World.size_setCell]; have := hI.sz; omega, ?_⟩
    · rw [List.map_append]
      exact prefix_snoc hI.pr (by rw [List.length_map]; exact HX.out)
    · exact (heap_setCell_other _ _ _ _ (by simp only; omega)).trans (heap_setCell_same w' _ 0 _ _ (.slice ad' n' cap') HS'.out)
    · have hown : ∀ j, (Value.slice ad0 M cap0).ownBlock = some j → ∀ z, (V.alloc (.cells #[.int .i64 k, .slice ad N cap] LT)).cell? ⟨j, 0, none⟩ ≠ some (.string z) := by
        intro j hj z hz
        cases hp : pre with
        | nil =>
          rw [HNl.out hp] at hj
          cases hj
        | cons y ys =>
          have hjB := (HO.out.block hj)
          have hjl : j < V.heap.size := hjB.2.elim fun cur hc => (Array.getElem?_eq_some_iff.1 hc).1
          obtain ⟨ad9, cap9, h9, h9'⟩ := HO.out.lls
          rcases h9' with h9' | ⟨g, hg, _, _, hrow⟩
          · rw [hp] at h9'; cases h9'
          · simp only [Value.slice.injEq] at h9
            rw [hg] at h9
            rw [h9.1] at hj
            obtain rfl : g = j := by simpa [Value.ownBlock] using hj
            have := (hrow 0 y (by rw [hp]; rfl)).1
            rw [World.cell?_of_block (a := ⟨g, 0, none⟩) (Below.heap_alloc V _ g hjl)] at hz
            rw [hz] at this
            cases this
      have step : ∀ (v : Value) (us : List (List UInt8)), SL (w.heap.size + 13) V v us → SL (w.heap.size + 13) ((w'.setCell ⟨w.heap.size + 4, 0, none⟩ (.slice ad' n' cap')).setCell ⟨w.heap.size + 4 + 1, 0, none⟩ (.int .i64 e)) v us := fun v us h =>
        ((h.below ((Below.refl _ _).alloc (Nat.le_refl _) _)).line hd' hown).dirt d4 (fun k hk => by omega)
      intro x hx
      rcases List.mem_append.1 hx with hx | hx
      · exact step _ _ (hI.sl x hx)
      · rw [List.mem_singleton.1 hx]
        exact step _ _ HS.out
    · have e9 : endE ((pre ++ [(⟨k, ws, e, .slice ad N cap⟩ : LI)]).map LI.st) = e := by simp [endE, LI.st]
      rw [e9]
      exact heap_setCell_same _ _ 0 _ _ (.int .i64 e) ((heap_setCell_other _ _ _ _ (by simp only; omega)).trans HL'.out)
    · exact ((HO.out.below hd' hI.bl (by omega) (by omega)).setCell (by simp only; omega) _).setCell (by simp only; omega) _
end Go.Proofs.YtdneodlboggcnaaDoor
