/-
  strings.EqualFold of any text's first four bytes and 'last'.
-/
import Derived.Test.YtmkbfjklhejdnaaDoorFoldEq
import Derived.Test.YtmkbfjklhejdnaaDoorDfSpec
namespace Go.Proofs.YtmkbfjklhejdnaaDoor
open Go Go.RowKit
theorem AFo.below {w w' : World} {x : Nat} {y : Int} (h : AFo w x y) (hb : Below w.heap.size w w') : AFo w' x y := (hb.cell (block_lt_of_cell h)).trans h
theorem ORow.below {w w' : World} {R o i : Nat} {a b : Int} (h : ORow w R o i a b) (hb : Below w.heap.size w w') : ORow w' R o i a b := ⟨(hb.cell (block_lt_of_cell h.1)).trans h.1, (hb.cell (block_lt_of_cell h.2)).trans h.2⟩
theorem Orb.below {w w' : World} (h : Orb w) (hb : Below w.heap.size w w') : Orb w' := by
  obtain ⟨R, o, cap, hv, a1, a2, a3, a4, a5, a6, a7⟩ := h
  exact ⟨R, o, cap, (hb.cell (block_lt_of_cell hv)).trans hv, a1.below hb, a2.below hb, a3.below hb, a4.below hb, a5.below hb, a6.below hb, a7.below hb⟩
theorem Fold.below {w w' : World} (h : Fold w) (hb : Below w.heap.size w w') : Fold w' :=
  ⟨h.l0.below hb, h.l1.below hb, h.a0.below hb, h.a1.below hb, h.t0.below hb, h.t1.below hb, h.s0.below hb, h.s1.below hb, h.o.below hb⟩
theorem fold_low (y : UInt8) (hy : y = 108 ∨ y = 97 ∨ y = 115 ∨ y = 116) (x : UInt8) : Lib.foldEq x y = (low x == y) := by
  have h : ∀ n, n < 256 → Lib.foldEq (UInt8.ofNat n) y = (low (UInt8.ofNat n) == y) := by
    rcases hy with rfl | rfl | rfl | rfl <;> decide +kernel
  have := h x.toNat x.toNat_lt
  rwa [UInt8.ofNat_toNat] at this
theorem high_low (x y : UInt8) (h : 128 ≤ x.toNat) (hy : y.toNat < 128) : low x ≠ y := by
  intro he
  have h2 := congrArg UInt8.toNat he
  rw [low_nat] at h2
  unfold lowN at h2
  split at h2 <;> omega
theorem list4 (l : List UInt8) (h : l.length = 4) : ∃ a b c d, l = [a, b, c, d] := by
  match l, h with
  | [a, b, c, d], _ => exact ⟨a, b, c, d, rfl⟩
theorem rune_le (n b0 b1 b2 b3 : Nat) (h : b0 < 256) : (Lib.decodeN n b0 b1 b2 b3).1 ≤ 1114111 := by
  unfold Lib.decodeN
  repeat' split
  all_goals (simp only; omega)
theorem rune_383 (n b0 b1 b2 b3 : Nat) : (Lib.decodeN n b0 b1 b2 b3).1 = 383 → (Lib.decodeN n b0 b1 b2 b3).2 = 2 := by
  unfold Lib.decodeN
  repeat' split
  all_goals (intro h; simp only at h ⊢; try omega)
/-- a rune's facts -/
theorem rune_facts (S : ByteArray) (h : 0 < S.size) (hx : 128 ≤ (S[0]'h).toNat) : 128 ≤ (Utf8.decode S 0).1 ∧ (Utf8.decode S 0).1 ≤ 1114111 ∧ ((Utf8.decode S 0).1 = 383 → (Utf8.decode S 0).2 = 2) := by
  have h1 := (decode_high S 0 h hx).1
  rw [Lib.decode_at] at h1 ⊢
  exact ⟨h1, rune_le _ _ _ _ _ (UInt8.toNat_lt _), rune_383 _ _ _ _ _⟩
theorem chain2 (w : World) (y up : Nat) (hy : y < 128) (hu : up < 128) (h0 : AFo w y up) (h1 : AFo w up y) :
    (∀ W, Below w.heap.size w W → Calls Tryd.prog 47 #[.int .i32 y] W fun e w' => e = .returned (.int .i32 ((fun j : Nat => if j = 0 then (up : Int) else (y : Int)) 0)) ∧ W = w') ∧
    (∀ W j, j < 1 → Below w.heap.size w W → Calls Tryd.prog 47 #[.int .i32 ((fun j : Nat => if j = 0 then (up : Int) else (y : Int)) j)] W fun e w' => e = .returned (.int .i32 ((fun j : Nat => if j = 0 then (up : Int) else (y : Int)) (j + 1))) ∧ W = w') := by
  refine ⟨fun W hW => sf_ascii y up W (h0.below hW) hy (by omega) (by omega), fun W j hj hW => ?_⟩
  obtain rfl : j = 0 := by omega
  exact sf_ascii up y W (h1.below hW) hu (by omega) (by omega)
theorem ef_two (s T S T1 : ByteArray) (n : Nat) (y : UInt8) (up : Nat) (w : World) (hs : (s.size : Int) = 4) (hT : (T.size : Int) = 4) (hn : n < 4)
    (hlow : ∀ j (h : j < s.size), j < n → (s[j]).toNat < 128) (hhi : ∀ h, 128 ≤ (s[n]'h).toNat) (hTl : ∀ j (h : j < T.size), (T[j]).toNat < 128)
    (hS : s.extract n s.size = S) (hT1 : T.extract n T.size = T1) (hS0 : 0 < S.size) (hSx : 128 ≤ (S[0]'hS0).toNat) (hT10 : 1 ≤ T1.size) (hy : T1.data.toList[0]? = some y) (hy8 : y.toNat < 128)
    (hu : up < y.toNat) (h0 : AFo w y.toNat up) (h1 : AFo w up y.toNat) :
    Calls Tryd.prog 25 #[.string s, .string T] w fun e w' => e = .returned (.bool false) ∧ Below w.heap.size w w' := by
  obtain ⟨r1, r2, _⟩ := rune_facts S hS0 hSx
  obtain ⟨c1, c2⟩ := chain2 w y.toNat up hy8 (by omega) h0 h1
  refine ef_high s T S T1 n 1 y (fun j : Nat => if j = 0 then (up : Int) else (y.toNat : Int)) _ w hs hT hn hlow hhi hTl hS hT1 hS0 hT10 hy hy8 rfl r1 r2 ?_ c1 c2 ?_ ?_
  · intro h
    simp only [Nat.succ_ne_zero, if_false] at h
    omega
  · intro j hj
    obtain rfl : j = 0 := by omega
    simp only [if_true]
    exact ⟨by rw [bne_iff_ne]; omega, by omega⟩
  · exact Or.inl (by simp)
theorem ef_three (s T S T1 : ByteArray) (n : Nat) (w : World) (hF : Fold w) (hs : (s.size : Int) = 4) (hT : (T.size : Int) = 4) (hn : n < 4)
    (hlow : ∀ j (h : j < s.size), j < n → (s[j]).toNat < 128) (hhi : ∀ h, 128 ≤ (s[n]'h).toNat) (hTl : ∀ j (h : j < T.size), (T[j]).toNat < 128)
    (hS : s.extract n s.size = S) (hT1 : T.extract n T.size = T1) (hS0 : S.size = 2) (hSx : 128 ≤ (S[0]'(by omega)).toNat) (hT10 : 2 ≤ T1.size) (hy : T1.data.toList[0]? = some 115) :
    Calls Tryd.prog 25 #[.string s, .string T] w fun e w' => e = .returned (.bool false) ∧ Below w.heap.size w w' := by
  obtain ⟨r1, r2, r3⟩ := rune_facts S (by omega) hSx
  generalize hR : (Utf8.decode S 0).1 = R at *
  have sf0 : ∀ W, Below w.heap.size w W → Calls Tryd.prog 47 #[.int .i32 (115 : UInt8).toNat] W fun e w' => e = .returned (.int .i32 383) ∧ W = w' :=
    fun W hW => sf_ascii 115 383 W (hF.s0.below hW) (by decide) (by decide) (by decide)
  by_cases h : R ≤ 383
  · refine ef_high s T S T1 n 0 115 (fun _ => 383) R w hs hT hn hlow hhi hTl hS hT1 (by omega) (by omega) hy (by decide) hR r1 r2 ?_ sf0 (fun _ j hj => absurd hj (by omega)) (fun j hj => absurd hj (by omega)) (Or.inr ⟨by decide, decide_eq_false (by omega)⟩)
    intro h
    exact ⟨by rw [r3 (by omega)]; omega, hT10⟩
  · refine ef_high s T S T1 n 2 115 (fun j => if j = 0 then 383 else if j = 1 then 83 else 115) R w hs hT hn hlow hhi hTl hS hT1 (by omega) (by omega) hy (by decide) hR r1 r2 ?_ sf0 ?_ ?_ (Or.inl (by decide))
    · intro h
      simp at h
      omega
    · intro W j hj hW
      have : j = 0 ∨ j = 1 := by omega
      rcases this with rfl | rfl
      · exact sf_long W (hF.o.below hW)
      · exact sf_ascii 83 115 W (hF.s1.below hW) (by decide) (by decide) (by decide)
    · intro j hj
      have : j = 0 ∨ j = 1 := by omega
      rcases this with rfl | rfl
      · exact ⟨by decide, by simp; omega⟩
      · exact ⟨by decide, by simp; omega⟩
theorem tlow : ∀ j (h : j < (⟨#[108, 97, 115, 116]⟩ : ByteArray).size), ((⟨#[108, 97, 115, 116]⟩ : ByteArray)[j]).toNat < 128 := by decide
set_option maxRecDepth 100000 in
theorem eqb_four (a b c d : UInt8) (w : World) (hF : Fold w) :
    Calls Tryd.prog 25 #[.string ⟨#[a, b, c, d]⟩, .string ⟨#[108, 97, 115, 116]⟩] w fun e w' => e = .returned (.bool (decide ([a, b, c, d].map low = [108, 97, 115, 116]))) ∧ Below w.heap.size w w' := by
  have no : ∀ x ∈ [a, b, c, d], 128 ≤ x.toNat → decide ([a, b, c, d].map low = [108, 97, 115, 116]) = false := by
    intro x hx h8
    rw [decide_eq_false_iff_not]
    intro he
    have hm : low x ∈ ([108, 97, 115, 116] : List UInt8) := by rw [← he]; exact List.mem_map_of_mem hx
    simp only [List.mem_cons, List.not_mem_nil, or_false] at hm
    rcases hm with h | h | h | h <;> exact high_low x _ h8 (by decide) h
  by_cases ha : 128 ≤ a.toNat
  · rw [no a (by simp) ha]
    exact ef_two ⟨#[a, b, c, d]⟩ ⟨#[108, 97, 115, 116]⟩ ⟨#[a, b, c, d]⟩ ⟨#[108, 97, 115, 116]⟩ 0 108 76 w rfl rfl (by omega) (fun j _ h => absurd h (by omega)) (fun _ => ha) tlow rfl rfl (by show 0 < 4; omega) ha (by decide) rfl (by decide) (by decide) hF.l0 hF.l1
  have ha' : a.toNat < 128 := by omega
  by_cases hb : 128 ≤ b.toNat
  · rw [no b (by simp) hb]
    exact ef_two ⟨#[a, b, c, d]⟩ ⟨#[108, 97, 115, 116]⟩ ⟨#[b, c, d]⟩ ⟨#[97, 115, 116]⟩ 1 97 65 w rfl rfl (by omega) (fun j _ h => by
      match j, h with
      | 0, _ => exact ha') (fun _ => hb) tlow rfl rfl (by show 0 < 3; omega) hb (by decide) rfl (by decide) (by decide) hF.a0 hF.a1
  have hb' : b.toNat < 128 := by omega
  by_cases hc : 128 ≤ c.toNat
  · rw [no c (by simp) hc]
    exact ef_three ⟨#[a, b, c, d]⟩ ⟨#[108, 97, 115, 116]⟩ ⟨#[c, d]⟩ ⟨#[115, 116]⟩ 2 w hF rfl rfl (by omega) (fun j _ h => by
      match j, h with
      | 0, _ => exact ha'
      | 1, _ => exact hb') (fun _ => hc) tlow rfl rfl rfl hc (by decide) rfl
  have hc' : c.toNat < 128 := by omega
  by_cases hd : 128 ≤ d.toNat
  · rw [no d (by simp) hd]
    exact ef_two ⟨#[a, b, c, d]⟩ ⟨#[108, 97, 115, 116]⟩ ⟨#[d]⟩ ⟨#[116]⟩ 3 116 84 w rfl rfl (by omega) (fun j _ h => by
      match j, h with
      | 0, _ => exact ha'
      | 1, _ => exact hb'
      | 2, _ => exact hc') (fun _ => hd) tlow rfl rfl (by show 0 < 1; omega) hd (by decide) rfl (by decide) (by decide) hF.t0 hF.t1
  have hd' : d.toNat < 128 := by omega
  refine (Tryd.strings_EqualFold ⟨#[a, b, c, d]⟩ ⟨#[108, 97, 115, 116]⟩ w (by show 4 < _; omega) ?_ ?_).mono ?_
  · intro j x hx
    have hm : x ∈ [a, b, c, d] := List.mem_of_getElem? hx
    simp only [List.mem_cons, List.not_mem_nil, or_false] at hm
    rcases hm with rfl | rfl | rfl | rfl <;> assumption
  · intro j x hx
    have hm : x ∈ ([108, 97, 115, 116] : List UInt8) := List.mem_of_getElem? hx
    simp only [List.mem_cons, List.not_mem_nil, or_false] at hm
    rcases hm with rfl | rfl | rfl | rfl <;> decide
  · rintro e w' ⟨rfl, rfl⟩
    refine ⟨?_, Below.refl _ _⟩
    have : Lib.equalFold [a, b, c, d] [108, 97, 115, 116] = decide ([a, b, c, d].map low = [108, 97, 115, 116]) := by
      simp only [Lib.equalFold, fold_low 108 (by simp), fold_low 97 (by simp), fold_low 115 (by simp), fold_low 116 (by simp)]
      rw [Bool.eq_iff_iff]
      simp
    rw [← this]
theorem eqb_any (l : List UInt8) (h4 : 4 ≤ l.length) : EqB Fold l (decide (lastB l)) := by
  intro w hF
  obtain ⟨a, b, c, d, e⟩ := list4 (l.take 4) (by rw [List.length_take]; omega)
  have h : lastB l ↔ [a, b, c, d].map low = [108, 97, 115, 116] := by unfold lastB; rw [e]; exact ⟨fun h => h.2, fun h => ⟨h4, h⟩⟩
  rw [e, decide_eq_decide.2 h]
  exact eqb_four a b c d w hF
end Go.Proofs.YtmkbfjklhejdnaaDoor
