/-
  THE WALKS of the document's small and Find (as in chapter 4's texts).
-/
import Derived.Test.YtmkbfjklhejdnaaDoorRText
namespace Go.Proofs.YtmkbfjklhejdnaaDoor
open Go Go.RowKit

set_option maxRecDepth 100000 in
set_option maxHeartbeats 1000000 in
theorem rsmall_any (l : List UInt8) (w : World) (hl : l.length ≤ 1000) :
    Calls Tryd.prog 48 #[.string ⟨l.toArray⟩] w fun e w' => e = .returned (.string ⟨(l.map low).toArray⟩) ∧ Below w.heap.size w w' := by
  go_enter Tryd.func48, Tryd.ntmps48
  go_wp2_with fail
  go_loopw [3, 4] (fun v3 v4 wr => ∃ i : Nat, v3 = .string ⟨((l.take i).map low).toArray⟩ ∧ v4 = .int .i64 i ∧ i ≤ l.length ∧ Below w.heap.size w wr) (fun _ v4 _ => ((l.length : Int) - intOf v4).toNat)
  case atStart => exact ⟨0, rfl, rfl, by omega, Below.refl _ _⟩
  case round =>
    obtain ⟨i, rfl, rfl, i1, hB⟩ := hrel
    have HBr := Lib.hid hB
    clear hB
    by_cases hi : i < l.length
    · have hi2 : (i : Int) < (l.length : Int) := by omega
      obtain ⟨x, hx⟩ : ∃ x, (⟨l.toArray⟩ : ByteArray)[i]'(by show i < l.toArray.size; simpa using hi) = x := ⟨_, rfl⟩
      have HX := Lib.hid (show l[i]? = some x by rw [← hx]; exact List.getElem?_eq_getElem hi)
      have X1 : (x.toNat : Int) ≤ 255 := by have := x.toNat_lt; omega
      have X0 : 0 ≤ (x.toNat : Int) := by omega
      have tl : ((l.take i).map low).length ≤ 1000 := by simp; omega
      by_cases a : (x.toNat : Int) < 65
      ·
        have RC := cv_one ((x.toNat : Int)) (low x) wr (by rw [low_nat]; unfold lowN; first | (rw [if_pos (by omega)]; omega) | (rw [if_neg (by omega)]))
        go_wp2_with fail
        go_roundw
        case rel =>
          refine ⟨i + 1, ?_, rfl, by omega, HBr.out.alloc HBr.out.size _⟩
          rw [List.take_add_one, HX.out]
          simp [ba_app]
        case measure => simp [intOf]; omega
      · by_cases b : 90 < (x.toNat : Int)
        ·
          have RC := cv_one ((x.toNat : Int)) (low x) wr (by rw [low_nat]; unfold lowN; first | (rw [if_pos (by omega)]; omega) | (rw [if_neg (by omega)]))
          go_wp2_with fail
          go_roundw
          case rel =>
            refine ⟨i + 1, ?_, rfl, by omega, HBr.out.alloc HBr.out.size _⟩
            rw [List.take_add_one, HX.out]
            simp [ba_app]
          case measure => simp [intOf]; omega
        ·
          have RC := cv_one ((x.toNat : Int) + 97 - 65) (low x) wr (by rw [low_nat]; unfold lowN; first | (rw [if_pos (by omega)]; omega) | (rw [if_neg (by omega)]))
          go_wp2_with fail
          go_roundw
          case rel =>
            refine ⟨i + 1, ?_, rfl, by omega, HBr.out.alloc HBr.out.size _⟩
            rw [List.take_add_one, HX.out]
            simp [ba_app]
          case measure => simp [intOf]; omega
    · obtain rfl : i = l.length := by omega
      simp only [List.take_length]
      go_wp2_with fail
      go_ret
      exact ⟨rfl, HBr.out⟩
/-- which word, or -1 -/
def rfd (s : List UInt8) (ws : List (List UInt8)) : Int := match fd s ws with | some i => i | none => -1
/-- the words are small already, and not empty -/
def Small (ws : List (List UInt8)) : Prop := ∀ j, j < ws.length → (ws.getD j []).map low = ws.getD j [] ∧ ws.getD j [] ≠ []
/-- the document's round: nothing is the same yet -/
def noSame (s : List UInt8) (ws : List (List UInt8)) (k : Nat) : Prop := ∀ x ∈ hits s ws k, x.2 = false
def atOf (pre : List (Nat × Bool)) : Int := match pre.getLast? with | some x => x.1 | none => -1
theorem atOf_snoc (pre : List (Nat × Bool)) (i : Nat) (b : Bool) : atOf (pre ++ [(i, b)]) = i := by simp [atOf]
theorem rfd_same {s : List UInt8} {ws : List (List UInt8)} {k : Nat} (hs : Small ws) (hk : k < ws.length) (hn : noSame s ws k) (he : ws.getD k [] = s) : rfd s ws = k := by
  obtain ⟨h1, h2⟩ := hs k hk
  have : hits s ws (k + 1) = hits s ws k ++ [(k, true)] := by
    rw [hits_succ]
    unfold hitAt
    rw [h1, he, if_pos ⟨by rw [← he]; exact h2, by simp [Lib.hasPrefix]⟩]
    simp
  unfold rfd fd
  rw [find_some (k := k + 1) (by omega) this hn]
theorem hit_no {s : List UInt8} {ws : List (List UInt8)} {k : Nat} (hs : Small ws) (hk : k < ws.length) (he : ¬ ws.getD k [] = s) (h : ¬ (s ≠ [] ∧ s.length < (ws.getD k []).length ∧ (ws.getD k []).take s.length = s)) : hits s ws (k + 1) = hits s ws k := by
  obtain ⟨h1, h2⟩ := hs k hk
  rw [hits_succ]
  unfold hitAt
  rw [h1, if_neg, List.append_nil]
  rintro ⟨a, b⟩
  unfold Lib.hasPrefix at b
  obtain ⟨r, hr⟩ := List.isPrefixOf_iff_prefix.1 b
  refine h ⟨a, ?_, by rw [← hr]; simp⟩
  cases r with
  | nil => rw [List.append_nil] at hr; exact absurd hr.symm he
  | cons z r => rw [← hr]; simp
theorem hit_yes {s : List UInt8} {ws : List (List UInt8)} {k : Nat} (hs : Small ws) (hk : k < ws.length) (he : ¬ ws.getD k [] = s) (h : s ≠ [] ∧ s.length < (ws.getD k []).length ∧ (ws.getD k []).take s.length = s) : hits s ws (k + 1) = hits s ws k ++ [(k, false)] := by
  obtain ⟨h1, h2⟩ := hs k hk
  obtain ⟨a, b, c⟩ := h
  rw [hits_succ]
  unfold hitAt
  rw [h1, if_pos ⟨a, by
    unfold Lib.hasPrefix
    rw [List.isPrefixOf_iff_prefix, ← c]
    exact List.take_prefix _ _⟩]
  rw [show ((ws.getD k []) == s) = false from beq_eq_false_iff_ne.2 he]
theorem rfd_end {s : List UInt8} {ws : List (List UInt8)} (hn : noSame s ws ws.length) : rfd s ws = if (hits s ws ws.length).length = 1 then atOf (hits s ws ws.length) else -1 := by
  unfold rfd fd
  rw [find_none hn]
  generalize hits s ws ws.length = ys
  match ys with
  | [] => rfl
  | [x] => rfl
  | _ :: _ :: _ => rfl
set_option maxRecDepth 100000 in
set_option maxHeartbeats 2000000 in
theorem rfind_any (l : List UInt8) (b off cap : Nat) (ws : List (List UInt8)) (w : World) (hl : l.length ≤ 1000) (hw : ∀ j, j < ws.length → (ws.getD j []).length ≤ 1000) (hn : ws.length ≤ 1000) (hs : Small ws) (hb : b < w.heap.size) (hc : WL w b off ws) :
    Calls Tryd.prog 26 #[.string ⟨l.toArray⟩, .slice (some ⟨b, off, none⟩) ws.length cap] w fun e w' => e = .returned (.int .i64 (rfd (l.map low) ws)) ∧ Below w.heap.size w w' := by
  have HW := Lib.hid hw
  have HS := Lib.hid hs
  have HC := Lib.hid hc
  have HB0 := Lib.hid (Below.refl w.heap.size w)
  have HL := Lib.hid hl
  have sl : (l.map low).length ≤ 1000 := by simpa using hl
  clear hw hs hc hl
  go_enter Tryd.func26, Tryd.ntmps26
  go_wp2_with fail
  refine (rsmall_any l _ HL.out).mono ?_
  rintro e w1 ⟨rfl, hb⟩
  have HBw1 := Lib.hid (HB0.out.trans (hb.mono HB0.out.size))
  clear hb
  generalize hS : l.map low = s at *
  have ES := Lib.hid hS
  clear hS
  go_wp2_with fail
  go_loopw [5, 6, 7] (fun v5 v6 v7 wr => ∃ k : Nat, v5 = .int .i64 (hits s ws k).length ∧ v6 = .int .i64 (atOf (hits s ws k)) ∧ v7 = .int .i64 k ∧ k ≤ ws.length ∧ noSame s ws k ∧ Below w.heap.size w wr) (fun _ _ v7 _ => ((ws.length : Int) - intOf v7).toNat)
  case atStart => exact ⟨0, rfl, rfl, rfl, by omega, (fun x h => by cases h), HBw1.out⟩
  case round =>
    obtain ⟨k, rfl, rfl, rfl, k1, hno, hB⟩ := hrel
    have HBr := Lib.hid hB
    have HNo := Lib.hid hno
    have hk9 := hits_len s ws k
    clear hB hno
    by_cases hk : k < ws.length
    · have hk2 : (k : Int) < (ws.length : Int) := by omega
      have cx := HC.out.below HBr.out hb k hk
      have hx := HW.out k hk
      obtain ⟨x, ex⟩ : ∃ x, ws.getD k [] = x := ⟨_, rfl⟩
      have EX := Lib.hid ex
      rw [ex] at cx hx
      clear ex
      by_cases he : x = s
      · have ER := Lib.hid (rfd_same HS.out hk HNo.out (EX.out.trans he))
        rw [he] at cx
        clear he hx
        go_wp2_with fail
        go_ret
        exact ⟨by rw [ES.out, ER.out]; rfl, HBr.out⟩
      · have q1 : (x == s) = false := beq_eq_false_iff_ne.2 he
        have q2 : (s == x) = false := beq_eq_false_iff_ne.2 fun h => he h.symm
        have HE := Lib.hid (show ¬ ws.getD k [] = s by rw [EX.out]; exact he)
        clear he
        by_cases z : s = []
        · have EH := Lib.hid (hit_no HS.out hk HE.out (fun h => h.1 z))
          have z1 : s.isEmpty = true := by rw [z]; rfl
          clear z
          go_wp2_with fail
          go_roundw
          case rel => exact ⟨k + 1, by rw [EH.out], by rw [EH.out], rfl, by omega, (fun y hy => HNo.out y (by rw [EH.out] at hy; exact hy)), HBr.out⟩
          case measure => simp [intOf]; omega
        · have z1 : s.isEmpty = false := by cases s with | nil => exact absurd rfl z | cons _ _ => rfl
          have HZ := Lib.hid z
          by_cases hlt : s.length < x.length
          · have hlt2 : (s.length : Int) < (x.length : Int) := by omega
            have hle : s.length ≤ x.length := by omega
            have X := ba_take x s.length
            by_cases ht : x.take s.length = s
            · have EH := Lib.hid (hit_yes HS.out hk HE.out ⟨HZ.out, by rw [EX.out]; exact hlt, by rw [EX.out]; exact ht⟩)
              rw [ht] at X
              clear ht z
              go_wp2_with fail
              go_roundw
              case rel =>
                refine ⟨k + 1, by rw [EH.out]; simp, by rw [EH.out, atOf_snoc], rfl, by omega, ?_, HBr.out⟩
                intro y hy
                rw [EH.out] at hy
                rcases List.mem_append.1 hy with hy | hy
                · exact HNo.out y hy
                · simp at hy; rw [hy]
              case measure => simp [intOf]; omega
            · have EH := Lib.hid (hit_no HS.out hk HE.out (fun h => ht (by rw [← EX.out]; exact h.2.2)))
              have t1 : (x.take s.length == s) = false := beq_eq_false_iff_ne.2 ht
              clear ht z
              go_wp2_with fail
              go_roundw
              case rel => exact ⟨k + 1, by rw [EH.out], by rw [EH.out], rfl, by omega, (fun y hy => HNo.out y (by rw [EH.out] at hy; exact hy)), HBr.out⟩
              case measure => simp [intOf]; omega
          · have EH := Lib.hid (hit_no HS.out hk HE.out (fun h => hlt (by rw [← EX.out]; exact h.2.1)))
            have hlt2 : (x.length : Int) ≤ (s.length : Int) := by omega
            clear hlt z
            go_wp2_with fail
            go_roundw
            case rel => exact ⟨k + 1, by rw [EH.out], by rw [EH.out], rfl, by omega, (fun y hy => HNo.out y (by rw [EH.out] at hy; exact hy)), HBr.out⟩
            case measure => simp [intOf]; omega
    · obtain rfl : k = ws.length := by omega
      have ER := Lib.hid (rfd_end HNo.out)
      by_cases h1 : (hits s ws ws.length).length = 1
      · rw [if_pos h1] at ER
        generalize atOf (hits s ws ws.length) = A at *
        generalize (hits s ws ws.length).length = m at *
        subst h1
        go_wp2_with fail
        go_ret
        exact ⟨by rw [ES.out, ER.out]; rfl, HBr.out⟩
      · rw [if_neg h1] at ER
        generalize atOf (hits s ws ws.length) = A at *
        generalize (hits s ws ws.length).length = m at *
        have n1 : ((m : Int) != 1) = true := by rw [bne_iff_ne]; omega
        clear h1
        go_wp2_with fail
        go_ret
        exact ⟨by rw [ES.out, ER.out]; rfl, HBr.out⟩
theorem hits_congr {s : List UInt8} {ws ws' : List (List UInt8)} (h : ∀ j, (ws'.getD j []).map low = (ws.getD j []).map low) : ∀ k, hits s ws' k = hits s ws k
  | 0 => rfl
  | k + 1 => by
    rw [hits_succ, hits_succ, hits_congr h k]
    unfold hitAt
    rw [h k]
theorem fd_congr {s : List UInt8} {ws ws' : List (List UInt8)} (hl : ws'.length = ws.length) (h : ∀ j, j < ws.length → (ws'.getD j []).map low = (ws.getD j []).map low) : fd s ws' = fd s ws := by
  unfold fd
  rw [hl, hits_congr (fun j => ?_)]
  by_cases hj : j < ws.length
  · exact h j hj
  · rw [show ws'.getD j [] = [] by simp [List.getD, List.getElem?_eq_none (show ws'.length ≤ j by omega)], show ws.getD j [] = [] by simp [List.getD, List.getElem?_eq_none (show ws.length ≤ j by omega)]]
theorem fd_weekdays (s : List UInt8) : fd s weekdaysS = fd s weekdaysL := fd_congr rfl (by decide +kernel)
theorem small_of {ws : List (List UInt8)} (h : ws.all (fun l => decide (l.map low = l ∧ l ≠ [])) = true) : Small ws := by
  intro j hj
  have := List.all_eq_true.1 h (ws.getD j []) (by simp [List.getD, hj])
  exact of_decide_eq_true this
theorem weekdaysS_small : Small weekdaysS := small_of (by decide +kernel)
end Go.Proofs.YtmkbfjklhejdnaaDoor
