/-
  THE WALK of the document's parts.
-/
import Derived.Test.YtbejbagpdjfgmaaDoorRSpan
namespace Go.Proofs.YtbejbagpdjfgmaaDoor
open Go Go.RowKit
abbrev strs (xs : List (List UInt8)) : List Value := xs.map fun x => Value.string ⟨x.toArray⟩
/-- a slice of texts of the call's own -/
def OwnS (w : World) (B : Nat) (v : Value) (xs : List (List UInt8)) : Prop := w.ownsRow B 9 1 v xs.length (strs xs)
theorem strInfo : (Tryd.prog.info? 9).map (fun i => (i.zero, i.size, i.bytes)) = some (some (.string ⟨#[]⟩), 1, 16) := by kernel_rfl
theorem wpList_append_str {ops : Array Oper} {rest : List Oper} {o : Oper} {a : Act} {w : World} {Q : Exit → Act → World → Prop} (hgd : o.guard = none) (s x : Operand)
    (ho : o.op = .call { callee := .builtin .append, args := #[s, x], argTypes := #[67, 67] }) (B : Nat) (v : Value) (xs : List (List UInt8)) (y : List UInt8) (hs : a.eval s = v) (hown : OwnS w B v xs)
    (b c : Nat) (hx : a.eval x = .slice (some ⟨b, 0, none⟩) 1 c) (hc : w.cell? ⟨b, 0, none⟩ = some (.string ⟨y.toArray⟩)) (hn : xs.length ≤ 100000) (hB : B ≤ w.heap.size)
    (h : ∀ v' w', OwnS w' B v' (xs ++ [y]) → Below B w w' → wpList Tryd.prog ops Q rest (a.put o.dst v') w') : wpList Tryd.prog ops Q (o :: rest) a w := by
  obtain ⟨i0, hi, hz0, hz1, hz2⟩ := info_parts strInfo
  refine wpList_append_own w hgd s x _ ho B 9 i0 _ 1 16 Tryd.underlying67 hi hz0 hz1 hz2 rfl (by omega) v xs.length _ hs hown ⟨b, 0, none⟩ 1 c [Value.string ⟨y.toArray⟩] hx (by simp) ?_ ?_ (by unfold maxLen; omega) (by omega) hB ?_
  · intro j u hu
    match j, hu with
    | 0, hu => simp at hu; subst hu; simpa [Addr.add] using hc
  · intro u hu
    simp at hu
    subst hu
    rfl
  · intro v' w' hown' hg _
    refine h v' w' ?_ ((Below.refl B w).grown hg hB (fun k hk => (World.ownsRow.lt hown k hk).1))
    unfold OwnS strs
    rw [List.map_append, List.length_append]
    exact hown'
/-- texts lie in a block -/
def TLs (w : World) (g : Nat) (ps : List (List UInt8)) : Prop := ∀ j, j < ps.length → w.cell? ⟨g, j, none⟩ = some (.string ⟨(ps.getD j []).toArray⟩)
theorem OwnS.sl {w : World} {B : Nat} {v : Value} {xs : List (List UInt8)} (h : OwnS w B v xs) (hx : xs ≠ []) : ∃ g cap, v = .slice (some ⟨g, 0, none⟩) xs.length cap ∧ B ≤ g ∧ g < w.heap.size ∧ TLs w g xs := by
  have h' := h
  obtain ⟨hl, h2⟩ := h'
  rcases h2 with ⟨rfl, h0⟩ | ⟨g, cap, cur, rfl, hg, hh, hn, hm, hs, ht⟩
  · exact absurd (List.length_eq_zero_iff.1 h0) hx
  · refine ⟨g, cap, rfl, hg, ?_, fun k hk => ?_⟩
    · exact Classical.byContradiction fun hge => by rw [Array.getElem?_eq_none (by omega)] at hh; cases hh
    · rw [World.ownsRow.cellAt h k (by omega)]
      simp [strs, List.getD, hk]
/-- a piece begun, before those that follow -/
def glue (x : List UInt8) : List (List UInt8) → List (List UInt8)
  | [] => [x]
  | p :: ps => (x ++ p) :: ps
theorem glue_nil (l : List UInt8) : glue [] (pcs l) = pcs l := by
  cases h : pcs l with
  | nil =>
    cases l with
    | nil => cases h
    | cons c t =>
      unfold pcs at h
      split at h
      · cases h
      · split at h <;> cases h
  | cons p ps => rfl
theorem pcs_ne (l : List UInt8) : pcs l ≠ [] := by
  intro h
  have := glue_nil l
  rw [h] at this
  cases this
theorem glue_colon (x t : List UInt8) : glue x (pcs (58 :: t)) = x :: pcs t := by
  rw [show pcs (58 :: t) = [] :: pcs t from if_pos rfl]
  simp [glue]
theorem glue_byte (x t : List UInt8) (c : UInt8) (h : c ≠ 58) : glue x (pcs (c :: t)) = glue (x ++ [c]) (pcs t) := by
  rw [show pcs (c :: t) = (match pcs t with | [] => [[c]] | p :: ps => (c :: p) :: ps) from if_neg h]
  cases pcs t with
  | nil => simp [glue]
  | cons p ps => simp [glue]
theorem ext_mid (l : List UInt8) (a b : Nat) : (⟨l.toArray⟩ : ByteArray).extract a b = ⟨((l.take b).drop a).toArray⟩ := by
  apply ByteArray.ext
  rw [ByteArray.data_extract]
  apply Array.ext'
  simp [List.drop_take]
set_option maxRecDepth 100000 in
set_option maxHeartbeats 4000000 in
theorem rparts_any (l : List UInt8) (w : World) (hl : l.length ≤ 1000) :
    Calls Tryd.prog 37 #[.string ⟨l.toArray⟩] w fun e w' => ∃ g cap, e = .returned (.slice (some ⟨g, 0, none⟩) (pcs l).length cap) ∧ w.heap.size ≤ g ∧ g < w'.heap.size ∧ TLs w' g (pcs l) ∧ Below w.heap.size w w' := by
  have hl2 : (l.length : Int) ≤ 1000 := by omega
  have HB0 := Lib.hid (Below.refl w.heap.size w)
  go_enter Tryd.func37, Tryd.ntmps37
  go_wp2_with fail
  go_loopw [3, 4, 5] (fun v3 v4 v5 wr => ∃ (i fr : Nat) (done : List (List UInt8)), v4 = .int .i64 fr ∧ v5 = .int .i64 i ∧ OwnS wr w.heap.size v3 done ∧ i ≤ l.length + 1 ∧ fr ≤ i ∧ done.length ≤ i ∧ (i ≤ l.length → pcs l = done ++ glue ((l.take i).drop fr) (pcs (l.drop i))) ∧ (i = l.length + 1 → pcs l = done) ∧ Below w.heap.size w wr) (fun _ _ v5 _ => ((l.length : Int) + 1 - intOf v5).toNat)
  case atStart => exact ⟨0, 0, [], rfl, rfl, World.ownsRow_nil _ _ _ _, by omega, by omega, by simp, fun _ => (glue_nil l).symm, fun h => by omega, HB0.out⟩
  case round =>
    obtain ⟨i, fr, done, rfl, rfl, hO, i1, f1, d1, hp, hq, hB⟩ := hrel
    have HO := Lib.hid hO
    have HP := Lib.hid hp
    have HQ := Lib.hid hq
    have HBr := Lib.hid hB
    clear hO hp hq hB
    have f2 : (fr : Int) ≤ (i : Int) := by omega
    by_cases hi : i < l.length
    · have hi2 : (i : Int) < (l.length : Int) := by omega
      have hi3 : ((i : Int) == (l.length : Int)) = false := beq_eq_false_iff_ne.2 (by omega)
      have hy := byte_at l i hi
      have HY := Lib.hid (show l[i]? = some (l.getD i 0) by simp [List.getD, hi])
      have HDr := Lib.hid (show l.drop i = l.getD i 0 :: l.drop (i + 1) by rw [List.drop_eq_getElem_cons hi]; simp [List.getD, hi])
      generalize l.getD i 0 = y at *
      have y1 : (y.toNat : Int) ≤ 255 := by have := y.toNat_lt; omega
      have y0 : 0 ≤ (y.toNat : Int) := by omega
      by_cases hc : y = 58
      · subst hc
        have XE := ext_mid l fr i
        have HP2 := Lib.hid (show i + 1 ≤ l.length → pcs l = (done ++ [(l.take i).drop fr]) ++ glue ((l.take (i + 1)).drop (i + 1)) (pcs (l.drop (i + 1))) by
          intro _
          have e0 : (l.take (i + 1)).drop (i + 1) = [] := List.drop_eq_nil_of_le (by simp; omega)
          rw [HP.out (by omega), HDr.out, glue_colon, e0, glue_nil]
          simp)
        have HQ2 := Lib.hid (show i + 1 = l.length + 1 → pcs l = done ++ [(l.take i).drop fr] by intro h; omega)
        have cn : (wr.alloc (.cells #[.string ⟨((l.take i).drop fr).toArray⟩] 9)).cell? ⟨wr.heap.size, 0, none⟩ = some (.string ⟨((l.take i).drop fr).toArray⟩) := World.cell?_alloc_mark wr _ _ _ 0
        go_wp2_with (at_builtin; go_loud (refine wpList_append_str rfl _ _ rfl w.heap.size _ done _ (by rfl) (World.ownsRow.alloc HO.out _) wr.heap.size 1 (by rfl) cn (by omega) (by simp only [World.size_alloc]; have := HBr.out.size; omega) ?_))
        intro v' w' hown' hb'
        have HO' := Lib.hid hown'
        have HB' := Lib.hid ((HBr.out.alloc HBr.out.size _).trans hb')
        clear hown' hb' cn
        go_wp2_with fail
        go_roundw
        case rel => exact ⟨i + 1, i + 1, _, rfl, rfl, HO'.out, by omega, by omega, by simp; omega, HP2.out, HQ2.out, HB'.out⟩
        case measure => first | (simp [intOf]; done) | (simp [intOf]; omega)
      · have yc : ((y.toNat : Int) == 58) = false := beq_eq_false_iff_ne.2 (fun e => hc (by
          have : y.toNat = 58 := by omega
          exact UInt8.toNat_inj.1 this))
        have HP2 := Lib.hid (show i + 1 ≤ l.length → pcs l = done ++ glue ((l.take (i + 1)).drop fr) (pcs (l.drop (i + 1))) by
          intro _
          rw [HP.out (by omega), HDr.out, glue_byte _ _ _ hc, List.take_add_one, HY.out, List.drop_append_of_le_length (by simp; omega)]
          rfl)
        clear hc
        go_wp2_with fail
        go_roundw
        case rel => exact ⟨i + 1, fr, done, rfl, rfl, HO.out, by omega, by omega, by omega, HP2.out, fun h => by omega, HBr.out⟩
        case measure => simp [intOf]; omega
    · by_cases hj : i = l.length
      · subst hj
        have XE := ext_mid l fr l.length
        rw [List.take_length] at XE
        have HP2 := Lib.hid (show l.length + 1 ≤ l.length → pcs l = (done ++ [l.drop fr]) ++ glue ((l.take (l.length + 1)).drop (l.length + 1)) (pcs (l.drop (l.length + 1))) by intro h; omega)
        have HQ2 := Lib.hid (show pcs l = done ++ [l.drop fr] by
          rw [HP.out (by omega), List.drop_length, List.take_length]
          simp [pcs, glue])
        clear hi
        have cn : (wr.alloc (.cells #[.string ⟨(l.drop fr).toArray⟩] 9)).cell? ⟨wr.heap.size, 0, none⟩ = some (.string ⟨(l.drop fr).toArray⟩) := World.cell?_alloc_mark wr _ _ _ 0
        go_wp2_with (at_builtin; go_loud (refine wpList_append_str rfl _ _ rfl w.heap.size _ done _ (by rfl) (World.ownsRow.alloc HO.out _) wr.heap.size 1 (by rfl) cn (by omega) (by simp only [World.size_alloc]; have := HBr.out.size; omega) ?_))
        intro v' w' hown' hb'
        have HO' := Lib.hid hown'
        have HB' := Lib.hid ((HBr.out.alloc HBr.out.size _).trans hb')
        clear hown' hb' cn
        go_wp2_with fail
        go_roundw
        case rel => exact ⟨l.length + 1, l.length + 1, _, rfl, rfl, HO'.out, by omega, by omega, by simp; omega, HP2.out, fun _ => HQ2.out, HB'.out⟩
        case measure => first | (simp [intOf]; done) | (simp [intOf]; omega)
      · obtain rfl : i = l.length + 1 := by omega
        have hd := HQ.out rfl
        obtain ⟨g, cap, rfl, hg, hg2, ht⟩ := HO.out.sl (by rw [← hd]; exact pcs_ne l)
        have HT := Lib.hid ht
        have HD := Lib.hid hd
        clear ht hi hj hd
        go_wp2_with fail
        go_ret
        exact ⟨g, ⟨cap, by first | (rw [HD.out]; done) | (rw [HD.out]; rfl)⟩, hg, hg2, by rw [HD.out]; exact HT.out, HBr.out⟩
end Go.Proofs.YtbejbagpdjfgmaaDoor
