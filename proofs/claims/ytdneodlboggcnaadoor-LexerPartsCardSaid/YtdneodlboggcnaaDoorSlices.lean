/-
  SLICES OF TEXTS: of a call's own, and handed back; appends in a round.
-/
import Derived.Test.YtdneodlboggcnaaDoorWords
namespace Go.Proofs.YtdneodlboggcnaaDoor
open Go Go.RowKit
abbrev strs (xs : List (List UInt8)) : List Value := xs.map fun x => Value.string ⟨x.toArray⟩
/-- a slice of texts of the call's own -/
def OwnS (w : World) (B : Nat) (v : Value) (xs : List (List UInt8)) : Prop := w.ownsRow B 9 1 v xs.length (strs xs)
theorem strInfo : (Tryd.prog.info? 9).map (fun i => (i.zero, i.size, i.bytes)) = some (some (.string ⟨#[]⟩), 1, 16) := by kernel_rfl
theorem wpList_append_str {ops : Array Oper} {rest : List Oper} {o : Oper} {a : Act} {w : World} {Q : Exit → Act → World → Prop} (hgd : o.guard = none) (s x : Operand)
    (ho : o.op = .call { callee := .builtin .append, args := #[s, x], argTypes := #[23, 23] }) (B : Nat) (v : Value) (xs : List (List UInt8)) (y : List UInt8) (hs : a.eval s = v) (hown : OwnS w B v xs)
    (b c : Nat) (hx : a.eval x = .slice (some ⟨b, 0, none⟩) 1 c) (hc : w.cell? ⟨b, 0, none⟩ = some (.string ⟨y.toArray⟩)) (hn : xs.length ≤ 100000) (hB : B ≤ w.heap.size)
    (h : ∀ v' w', OwnS w' B v' (xs ++ [y]) → Below B w w' → wpList Tryd.prog ops Q rest (a.put o.dst v') w') : wpList Tryd.prog ops Q (o :: rest) a w := by
  obtain ⟨i0, hi, hz0, hz1, hz2⟩ := info_parts strInfo
  refine wpList_append_own w hgd s x _ ho B 9 i0 _ 1 16 Tryd.underlying23 hi hz0 hz1 hz2 rfl (by omega) v xs.length _ hs hown ⟨b, 0, none⟩ 1 c [Value.string ⟨y.toArray⟩] hx (by simp) ?_ ?_ (by unfold maxLen; omega) (by omega) hB ?_
  · intro j u hu
    match j, hu with
    | 0, hu => simp at hu; subst hu; simpa [Addr.add] using hc
  · intro u hu
    simp at hu
    subst hu
    rfl
  · intro v' w' hown' hg _
    refine h v' w' ?_ ((Below.refl B w).grown hg hB (fun k hk => (World.ownsRow.lt hown k hk).1))
    unfold OwnS strs
    rw [List.map_append, List.length_append]
    exact hown'
theorem wpListIn_append_str {F : Fence} {n : Nat} {ops : Array Oper} {rest : List Oper} {o : Oper} {a : Act} {w : World} {Q : Exit → Act → World → Prop} (hgd : o.guard = none) (s x : Operand)
    (ho : o.op = .call { callee := .builtin .append, args := #[s, x], argTypes := #[23, 23] }) (B : Nat) (v : Value) (xs : List (List UInt8)) (y : List UInt8) (hs : a.eval s = v) (hown : OwnS w B v xs)
    (b c : Nat) (hx : a.eval x = .slice (some ⟨b, 0, none⟩) 1 c) (hc : w.cell? ⟨b, 0, none⟩ = some (.string ⟨y.toArray⟩)) (hn : xs.length ≤ 100000) (hB : B ≤ w.heap.size)
    (h : ∀ v' w', OwnS w' B v' (xs ++ [y]) → Dirt (fun k => v.ownBlock = some k) w w' → wpListIn F n Tryd.prog ops Q rest (a.put o.dst v') w') : wpListIn F n Tryd.prog ops Q (o :: rest) a w := by
  obtain ⟨i0, hi, hz0, hz1, hz2⟩ := info_parts strInfo
  refine wpListIn_append_own w hgd s x _ ho B 9 i0 _ 1 16 Tryd.underlying23 hi hz0 hz1 hz2 rfl (by omega) v xs.length _ hs hown ⟨b, 0, none⟩ 1 c [Value.string ⟨y.toArray⟩] hx (by simp) ?_ ?_ (by unfold maxLen; omega) (by omega) hB ?_
  · intro j u hu
    match j, hu with
    | 0, hu => simp at hu; subst hu; simpa [Addr.add] using hc
  · intro u hu
    simp at hu
    subst hu
    rfl
  · intro v' w' hown' hg _
    refine h v' w' ?_ ⟨hg.os, hg.tape, hg.output, hg.size, fun k hk hd => hg.block k hk fun e => hd e.symm⟩
    unfold OwnS strs
    rw [List.map_append, List.length_append]
    exact hown'
theorem OwnS.dirt {D : Nat → Prop} {A B : World} {b : Nat} {v : Value} {xs : List (List UInt8)} (h : OwnS A b v xs) (hd : Dirt D A B) (hD : ∀ k, D k → k < b) : OwnS B b v xs := by
  refine ⟨h.1, ?_⟩
  rcases h.2 with hn | ⟨g, cap, cur, hv, hg, hh, r⟩
  · exact .inl hn
  · exact .inr ⟨g, cap, cur, hv, hg, hd.heap hh (fun e => by have := hD g e; omega), r⟩
theorem OwnS.mono {A : World} {b b' : Nat} {v : Value} {xs : List (List UInt8)} (h : OwnS A b v xs) (hb : b' ≤ b) : OwnS A b' v xs := by
  refine ⟨h.1, ?_⟩
  rcases h.2 with hn | ⟨g, cap, cur, hv, hg, r⟩
  · exact .inl hn
  · exact .inr ⟨g, cap, cur, hv, by omega, r⟩
theorem OwnS.block {w : World} {B : Nat} {v : Value} {xs : List (List UInt8)} {k : Nat} (h : OwnS w B v xs) (hk : v.ownBlock = some k) : B ≤ k ∧ ∃ cur, w.heap[k]? = some (.cells cur 9 (0, 0)) := by
  rcases h.2 with ⟨rfl, _⟩ | ⟨g, cap, cur, rfl, hg, hh, _⟩
  · cases hk
  · obtain rfl : g = k := by simpa [Value.ownBlock] using hk
    exact ⟨hg, cur, hh⟩
theorem OwnS.kf {H : Nat} {w w' : World} {B : Nat} {v : Value} {xs : List (List UInt8)} {ob : Obj} (h : OwnS w B v xs) (hd : Dirt (fun k => v.ownBlock = some k) (w.alloc ob) w') : KF H w w' :=
  ⟨by have := hd.size; simp only [World.size_alloc] at this; omega, fun k o _ h1 h2 => hd.heap ((Below.heap_alloc _ _ _ (Array.getElem?_eq_some_iff.1 h1).1).trans h1) fun e => by
    obtain ⟨_, cur, hc⟩ := h.block e
    rw [h1] at hc
    cases hc
    cases h2⟩
/-- what lies below the row stays -/
theorem OwnS.low {w w' : World} {B : Nat} {v : Value} {xs : List (List UInt8)} {ob : Obj} (h : OwnS w B v xs) (hd : Dirt (fun k => v.ownBlock = some k) (w.alloc ob) w') {k : Nat} (hk : k < B) (hB : B ≤ w.heap.size) : w'.heap[k]? = w.heap[k]? :=
  (hd.same k (by simp only [World.size_alloc]; omega) fun e => by have := (h.block e).1; omega).trans (Below.heap_alloc _ _ _ (by omega))
theorem OwnS.below {n₀ : Nat} {u w w' : World} {B : Nat} {v : Value} {xs : List (List UInt8)} {ob : Obj} (h : OwnS w B v xs) (hd : Dirt (fun k => v.ownBlock = some k) (w.alloc ob) w') (hb : Below n₀ u w) (hn : n₀ ≤ B) (hB : B ≤ w.heap.size) : Below n₀ u w' :=
  hd.below (hb.alloc (by omega) _) (fun k hk => by have := (h.block hk).1; omega) (by simp only [World.size_alloc]; omega)
/-- texts lie in a block -/
def TLs (w : World) (g : Nat) (ps : List (List UInt8)) : Prop := ∀ j, j < ps.length → w.cell? ⟨g, j, none⟩ = some (.string ⟨(ps.getD j []).toArray⟩)
/-- a slice of texts, in blocks from B on -/
def SL (B : Nat) (w : World) (v : Value) (xs : List (List UInt8)) : Prop := ∃ ad cap, v = .slice ad xs.length cap ∧ (xs = [] ∨ ∃ g, ad = some ⟨g, 0, none⟩ ∧ B ≤ g ∧ g < w.heap.size ∧ TLs w g xs)
theorem SL.nil (B : Nat) (w : World) : SL B w (.slice none 0 0) [] := ⟨none, 0, rfl, .inl rfl⟩
theorem OwnS.sl {w : World} {B : Nat} {v : Value} {xs : List (List UInt8)} (h : OwnS w B v xs) : SL B w v xs := by
  have h' := h
  obtain ⟨hl, h2⟩ := h'
  rcases h2 with ⟨rfl, h0⟩ | ⟨g, cap, cur, rfl, hg, hh, hn, hm, hs, ht⟩
  · exact ⟨none, 0, by rw [h0], .inl (List.length_eq_zero_iff.1 h0)⟩
  · refine ⟨_, cap, rfl, .inr ⟨g, rfl, hg, (Array.getElem?_eq_some_iff.1 hh).1, fun k hk => ?_⟩⟩
    rw [World.ownsRow.cellAt h k (by omega)]
    simp [strs, List.getD, hk]
theorem SL.dirt {D : Nat → Prop} {A B : World} {b : Nat} {v : Value} {xs : List (List UInt8)} (h : SL b A v xs) (hd : Dirt D A B) (hD : ∀ k, D k → k < b) : SL b B v xs := by
  obtain ⟨ad, cap, hv, h⟩ := h
  refine ⟨ad, cap, hv, ?_⟩
  rcases h with h | ⟨g, hg, hb, hl, ht⟩
  · exact .inl h
  · refine .inr ⟨g, hg, hb, Nat.lt_of_lt_of_le hl hd.size, fun j hj => ?_⟩
    rw [World.cell?_of_block (a := ⟨g, j, none⟩) (hd.same g hl fun e => by have := hD g e; omega)]
    exact ht j hj
theorem SL.below {A B : World} {b : Nat} {v : Value} {xs : List (List UInt8)} (h : SL b A v xs) (hb : Below A.heap.size A B) : SL b B v xs :=
  h.dirt (D := fun _ => False) ⟨hb.os, hb.tape, hb.output, hb.size, fun k hk _ => hb.block k hk⟩ (fun _ h => h.elim)
theorem SL.mono {A : World} {b b' : Nat} {v : Value} {xs : List (List UInt8)} (h : SL b A v xs) (hb : b' ≤ b) : SL b' A v xs := by
  obtain ⟨ad, cap, hv, h⟩ := h
  exact ⟨ad, cap, hv, h.imp id fun ⟨g, h1, h2, h3⟩ => ⟨g, h1, by omega, h3⟩⟩
theorem ext_mid (l : List UInt8) (a b : Nat) : (⟨l.toArray⟩ : ByteArray).extract a b = ⟨((l.take b).drop a).toArray⟩ := by
  apply ByteArray.ext
  rw [ByteArray.data_extract]
  apply Array.ext'
  simp [List.drop_take]
theorem byte_at (l : List UInt8) (k : Nat) (h : k < l.length) : (⟨l.toArray⟩ : ByteArray)[k]'(by show k < l.toArray.size; simpa using h) = l.getD k 0 := by
  simp [List.getD, h, ByteArray.getElem_eq_getElem_data]
end Go.Proofs.YtdneodlboggcnaaDoor
