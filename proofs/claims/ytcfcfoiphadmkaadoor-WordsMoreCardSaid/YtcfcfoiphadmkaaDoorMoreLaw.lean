/-
  THE WALK of the law WordsMore.
-/
import Derived.Test.YtcfcfoiphadmkaaDoorFdMath
namespace Go.Proofs.YtcfcfoiphadmkaaDoor
open Go Go.RowKit

namespace wordsMore
set_option maxHeartbeats 2000000 in
theorem walk_none (l : List UInt8) (c : UInt8) (w : World) (hM : Mon w) (hl : l.length ≤ 20) (hn : fd (l.map low) monthsL = none) : Calls Tryd.prog 4 #[.string ⟨l.toArray⟩, .int .u8 (c.toNat : Int)] w (One w) := by
  have E1 := Lib.hid (upV_none (k := 1) hn)
  clear hn
  have HM := Lib.hid hM
  have HBw := Lib.hid (Below.refl w.heap.size w)
  have hl2 : (l.length : Int) ≤ 20 := by omega
  have HL := Lib.hid (show l.length ≤ 1000 by omega)
  have c1 : (c.toNat : Int) ≤ 255 := by have := c.toNat_lt; omega
  have c0 : 0 ≤ (c.toNat : Int) := by omega
  have HL2 := Lib.hid (show (l ++ [c]).length ≤ 1000 by simp; omega)
  have RC := cv_one (c.toNat : Int) c w rfl
  have HBw0 := Lib.hid (HBw.out.alloc HBw.out.size (.cells #[.int .u8 (c.toNat : Int)] 5))
  have AP := ba_app l [c]
  clear hM
  cases hf2 : fd ((l ++ [c]).map low) monthsL with
  | none =>
    have E2 := Lib.hid (upV_none (k := 1) hf2)
    clear hf2
    generalize l ++ [c] = l2 at *
    go_enter Tryd.func4, Tryd.ntmps4
    go_wp2_with fail
    refine (month_any l _ (HM.out.below HBw0.out) HL.out).mono ?_
    rintro e w1 ⟨rfl, hb⟩
    have HBw1 := Lib.hid (HBw0.out.trans (hb.mono HBw0.out.size))
    clear hb
    rw [E1.out]
    go_wp2_with fail
    refine (month_any l2 _ (HM.out.below HBw1.out) HL2.out).mono ?_
    rintro e w2 ⟨rfl, hb⟩
    have HBw2 := Lib.hid (HBw1.out.trans (hb.mono HBw1.out.size))
    clear hb
    rw [E2.out]
    go_wp2_with fail
    refine (awake_any _ (HM.out.below HBw2.out)).mono ?_
    rintro e w8 ⟨rfl, hb⟩
    have HBw8 := Lib.hid (HBw2.out.trans (hb.mono HBw2.out.size))
    clear hb
    go_wp2_with fail
    go_ret
    exact ⟨rfl, HBw8.out⟩
  | some j =>
    have E2 := Lib.hid (upV_some (k := 1) hf2)
    clear hf2
    generalize l ++ [c] = l2 at *
    go_enter Tryd.func4, Tryd.ntmps4
    go_wp2_with fail
    refine (month_any l _ (HM.out.below HBw0.out) HL.out).mono ?_
    rintro e w1 ⟨rfl, hb⟩
    have HBw1 := Lib.hid (HBw0.out.trans (hb.mono HBw0.out.size))
    clear hb
    rw [E1.out]
    go_wp2_with fail
    refine (month_any l2 _ (HM.out.below HBw1.out) HL2.out).mono ?_
    rintro e w2 ⟨rfl, hb⟩
    have HBw2 := Lib.hid (HBw1.out.trans (hb.mono HBw1.out.size))
    clear hb
    rw [E2.out]
    go_wp2_with fail
    refine (awake_any _ (HM.out.below HBw2.out)).mono ?_
    rintro e w8 ⟨rfl, hb⟩
    have HBw8 := Lib.hid (HBw2.out.trans (hb.mono HBw2.out.size))
    clear hb
    go_wp2_with fail
    go_ret
    exact ⟨rfl, HBw8.out⟩
set_option maxHeartbeats 2000000 in
theorem walk_full (l : List UInt8) (c : UInt8) (w : World) (i : Nat) (hM : Mon w) (hl : l.length ≤ 20) (hi : i < 12) (hf : fd (l.map low) monthsL = some i) (hlen : l.length = (monthsS.getD i []).length) : Calls Tryd.prog 4 #[.string ⟨l.toArray⟩, .int .u8 (c.toNat : Int)] w (One w) := by
  have E1 := Lib.hid (upV_some (k := 1) hf)
  have hf2 : fd ((l ++ [c]).map low) monthsL = none := by
    rw [List.map_append, List.map_cons, List.map_nil, fd_one months_apart hf (month_low i hi), if_neg]
    rw [List.length_map, hlen]
    exact fun h => absurd h.1 (Nat.lt_irrefl _)
  clear hf
  have HM := Lib.hid hM
  have HBw := Lib.hid (Below.refl w.heap.size w)
  have hl2 : (l.length : Int) ≤ 20 := by omega
  have HL := Lib.hid (show l.length ≤ 1000 by omega)
  have c1 : (c.toNat : Int) ≤ 255 := by have := c.toNat_lt; omega
  have c0 : 0 ≤ (c.toNat : Int) := by omega
  have HL2 := Lib.hid (show (l ++ [c]).length ≤ 1000 by simp; omega)
  have RC := cv_one (c.toNat : Int) c w rfl
  have HBw0 := Lib.hid (HBw.out.alloc HBw.out.size (.cells #[.int .u8 (c.toNat : Int)] 5))
  have AP := ba_app l [c]
  clear hM
  have G1 := Lib.hid (fun w => monthsS_wl w i hi)
  have L2 := hlen
  have hS9 := month_lenS i hi
  generalize monthsS.getD i [] = S at *
  simp only [Nat.zero_add] at G1
  have i0 : 0 ≤ (i : Int) := by omega
  have i1 : (i : Int) < 12 := by omega
  have k1 : min 12 ((i : Int) + 1) = i + 1 := by omega
  have k2 : max 1 ((i : Int) + 1) = i + 1 := by omega
  have k3 : min ((i : Int) + 1) 12 = i + 1 := by omega
  have k4 : max ((i : Int) + 1) 1 = i + 1 := by omega
  clear hi
  have L3 : (l.length : Int) = S.length := by omega
  have L4 : (S.length : Int) ≤ l.length := by omega
  clear hlen L2
  have E2 := Lib.hid (upV_none (k := 1) hf2)
  clear hf2
  generalize l ++ [c] = l2 at *
  go_enter Tryd.func4, Tryd.ntmps4
  go_wp2_with fail
  refine (month_any l _ (HM.out.below HBw0.out) HL.out).mono ?_
  rintro e w1 ⟨rfl, hb⟩
  have HBw1 := Lib.hid (HBw0.out.trans (hb.mono HBw0.out.size))
  clear hb
  rw [E1.out]
  go_wp2_with fail
  refine (month_any l2 _ (HM.out.below HBw1.out) HL2.out).mono ?_
  rintro e w2 ⟨rfl, hb⟩
  have HBw2 := Lib.hid (HBw1.out.trans (hb.mono HBw1.out.size))
  clear hb
  rw [E2.out]
  go_wp2_with fail
  refine (Months_any _).mono ?_
  rintro e w' ⟨rfl, rfl⟩
  have c9 := G1.out w2
  have HBa := Lib.hid (HBw2.out.alloc HBw2.out.size monthsSObj)
  go_wp2_with fail
  clear c9
  refine (awake_any _ (HM.out.below HBa.out)).mono ?_
  rintro e w8 ⟨rfl, hb⟩
  have HBw8 := Lib.hid (HBa.out.trans (hb.mono HBa.out.size))
  clear hb
  go_wp2_with fail
  go_ret
  exact ⟨rfl, HBw8.out⟩
set_option maxHeartbeats 4000000 in
theorem walk_part (l : List UInt8) (c x : UInt8) (w : World) (i : Nat) (hM : Mon w) (hl : l.length ≤ 20) (hi : i < 12) (hf : fd (l.map low) monthsL = some i) (hlen : l.length < (monthsS.getD i []).length) (hx0 : (monthsS.getD i []).getD l.length 0 = x) : Calls Tryd.prog 4 #[.string ⟨l.toArray⟩, .int .u8 (c.toNat : Int)] w (One w) := by
  have E1 := Lib.hid (upV_some (k := 1) hf)
  have X := month_letters i hi l.length hlen
  have hx := byte_at _ _ hlen
  rw [hx0] at X hx
  have hf3 : fd ((l ++ [c]).map low) monthsL = if (c.toNat : Int) = x.toNat ∨ (65 ≤ (c.toNat : Int) ∧ (c.toNat : Int) ≤ 90 ∧ (c.toNat : Int) + 32 = x.toNat) then some i else none := by
    rw [List.map_append, List.map_cons, List.map_nil, fd_one months_apart hf (month_low i hi), List.length_map, hx0]
    have := low_iff (c := c) X.1 X.2
    by_cases q : x = low c
    · rw [if_pos ⟨hlen, q⟩, if_pos (this.1 q)]
    · rw [if_neg (fun h => q h.2), if_neg (fun h => q (this.2 h))]
  have X1 : 97 ≤ (x.toNat : Int) := by omega
  have X2 : (x.toNat : Int) ≤ 122 := by omega
  clear hf X hx0
  have HM := Lib.hid hM
  have HBw := Lib.hid (Below.refl w.heap.size w)
  have hl2 : (l.length : Int) ≤ 20 := by omega
  have HL := Lib.hid (show l.length ≤ 1000 by omega)
  have c1 : (c.toNat : Int) ≤ 255 := by have := c.toNat_lt; omega
  have c0 : 0 ≤ (c.toNat : Int) := by omega
  have HL2 := Lib.hid (show (l ++ [c]).length ≤ 1000 by simp; omega)
  have RC := cv_one (c.toNat : Int) c w rfl
  have HBw0 := Lib.hid (HBw.out.alloc HBw.out.size (.cells #[.int .u8 (c.toNat : Int)] 5))
  have AP := ba_app l [c]
  clear hM
  have G1 := Lib.hid (fun w => monthsS_wl w i hi)
  have L2 := hlen
  have hS9 := month_lenS i hi
  generalize monthsS.getD i [] = S at *
  simp only [Nat.zero_add] at G1
  have i0 : 0 ≤ (i : Int) := by omega
  have i1 : (i : Int) < 12 := by omega
  have k1 : min 12 ((i : Int) + 1) = i + 1 := by omega
  have k2 : max 1 ((i : Int) + 1) = i + 1 := by omega
  have k3 : min ((i : Int) + 1) 12 = i + 1 := by omega
  have k4 : max ((i : Int) + 1) 1 = i + 1 := by omega
  clear hi
  have L3 : (l.length : Int) < S.length := by omega
  clear L2
  by_cases q1 : (c.toNat : Int) = x.toNat
  · have hf2 := hf3.trans (if_pos (.inl q1))
    have b1 : ((c.toNat : Int) == (x.toNat : Int)) = true := beq_iff_eq.2 q1
    clear hf3 q1
    have E2 := Lib.hid (upV_some (k := 1) hf2)
    clear hf2
    generalize l ++ [c] = l2 at *
    go_enter Tryd.func4, Tryd.ntmps4
    go_wp2_with fail
    refine (month_any l _ (HM.out.below HBw0.out) HL.out).mono ?_
    rintro e w1 ⟨rfl, hb⟩
    have HBw1 := Lib.hid (HBw0.out.trans (hb.mono HBw0.out.size))
    clear hb
    rw [E1.out]
    go_wp2_with fail
    refine (month_any l2 _ (HM.out.below HBw1.out) HL2.out).mono ?_
    rintro e w2 ⟨rfl, hb⟩
    have HBw2 := Lib.hid (HBw1.out.trans (hb.mono HBw1.out.size))
    clear hb
    rw [E2.out]
    go_wp2_with fail
    refine (Months_any _).mono ?_
    rintro e w' ⟨rfl, rfl⟩
    have c9 := G1.out w2
    have HBa := Lib.hid (HBw2.out.alloc HBw2.out.size monthsSObj)
    go_wp2_with fail
    clear c9
    refine (awake_any _ (HM.out.below HBa.out)).mono ?_
    rintro e w8 ⟨rfl, hb⟩
    have HBw8 := Lib.hid (HBa.out.trans (hb.mono HBa.out.size))
    clear hb
    go_wp2_with fail
    go_ret
    exact ⟨rfl, HBw8.out⟩
  · have b1 : ((c.toNat : Int) == (x.toNat : Int)) = false := beq_eq_false_iff_ne.2 q1
    by_cases q2 : (c.toNat : Int) < 65
    · have hf2 := hf3.trans (if_neg (by omega))
      clear hf3 q1
      have E2 := Lib.hid (upV_none (k := 1) hf2)
      clear hf2
      generalize l ++ [c] = l2 at *
      go_enter Tryd.func4, Tryd.ntmps4
      go_wp2_with fail
      refine (month_any l _ (HM.out.below HBw0.out) HL.out).mono ?_
      rintro e w1 ⟨rfl, hb⟩
      have HBw1 := Lib.hid (HBw0.out.trans (hb.mono HBw0.out.size))
      clear hb
      rw [E1.out]
      go_wp2_with fail
      refine (month_any l2 _ (HM.out.below HBw1.out) HL2.out).mono ?_
      rintro e w2 ⟨rfl, hb⟩
      have HBw2 := Lib.hid (HBw1.out.trans (hb.mono HBw1.out.size))
      clear hb
      rw [E2.out]
      go_wp2_with fail
      refine (Months_any _).mono ?_
      rintro e w' ⟨rfl, rfl⟩
      have c9 := G1.out w2
      have HBa := Lib.hid (HBw2.out.alloc HBw2.out.size monthsSObj)
      go_wp2_with fail
      clear c9
      refine (awake_any _ (HM.out.below HBa.out)).mono ?_
      rintro e w8 ⟨rfl, hb⟩
      have HBw8 := Lib.hid (HBa.out.trans (hb.mono HBa.out.size))
      clear hb
      go_wp2_with fail
      go_ret
      exact ⟨rfl, HBw8.out⟩
    · by_cases q3 : 90 < (c.toNat : Int)
      · have hf2 := hf3.trans (if_neg (by omega))
        clear hf3 q1
        have E2 := Lib.hid (upV_none (k := 1) hf2)
        clear hf2
        generalize l ++ [c] = l2 at *
        go_enter Tryd.func4, Tryd.ntmps4
        go_wp2_with fail
        refine (month_any l _ (HM.out.below HBw0.out) HL.out).mono ?_
        rintro e w1 ⟨rfl, hb⟩
        have HBw1 := Lib.hid (HBw0.out.trans (hb.mono HBw0.out.size))
        clear hb
        rw [E1.out]
        go_wp2_with fail
        refine (month_any l2 _ (HM.out.below HBw1.out) HL2.out).mono ?_
        rintro e w2 ⟨rfl, hb⟩
        have HBw2 := Lib.hid (HBw1.out.trans (hb.mono HBw1.out.size))
        clear hb
        rw [E2.out]
        go_wp2_with fail
        refine (Months_any _).mono ?_
        rintro e w' ⟨rfl, rfl⟩
        have c9 := G1.out w2
        have HBa := Lib.hid (HBw2.out.alloc HBw2.out.size monthsSObj)
        go_wp2_with fail
        clear c9
        refine (awake_any _ (HM.out.below HBa.out)).mono ?_
        rintro e w8 ⟨rfl, hb⟩
        have HBw8 := Lib.hid (HBa.out.trans (hb.mono HBa.out.size))
        clear hb
        go_wp2_with fail
        go_ret
        exact ⟨rfl, HBw8.out⟩
      · by_cases q4 : (c.toNat : Int) + 32 = x.toNat
        · have hf2 := hf3.trans (if_pos (.inr ⟨by omega, by omega, q4⟩))
          have b2 : ((c.toNat : Int) - 65 + 97 == (x.toNat : Int)) = true := beq_iff_eq.2 (by omega)
          clear hf3 q1 q4
          have E2 := Lib.hid (upV_some (k := 1) hf2)
          clear hf2
          generalize l ++ [c] = l2 at *
          go_enter Tryd.func4, Tryd.ntmps4
          go_wp2_with fail
          refine (month_any l _ (HM.out.below HBw0.out) HL.out).mono ?_
          rintro e w1 ⟨rfl, hb⟩
          have HBw1 := Lib.hid (HBw0.out.trans (hb.mono HBw0.out.size))
          clear hb
          rw [E1.out]
          go_wp2_with fail
          refine (month_any l2 _ (HM.out.below HBw1.out) HL2.out).mono ?_
          rintro e w2 ⟨rfl, hb⟩
          have HBw2 := Lib.hid (HBw1.out.trans (hb.mono HBw1.out.size))
          clear hb
          rw [E2.out]
          go_wp2_with fail
          refine (Months_any _).mono ?_
          rintro e w' ⟨rfl, rfl⟩
          have c9 := G1.out w2
          have HBa := Lib.hid (HBw2.out.alloc HBw2.out.size monthsSObj)
          go_wp2_with fail
          clear c9
          refine (awake_any _ (HM.out.below HBa.out)).mono ?_
          rintro e w8 ⟨rfl, hb⟩
          have HBw8 := Lib.hid (HBa.out.trans (hb.mono HBa.out.size))
          clear hb
          go_wp2_with fail
          go_ret
          exact ⟨rfl, HBw8.out⟩
        · have hf2 := hf3.trans (if_neg (by omega))
          have b2 : ((c.toNat : Int) - 65 + 97 == (x.toNat : Int)) = false := beq_eq_false_iff_ne.2 (by omega)
          clear hf3 q1 q4
          have E2 := Lib.hid (upV_none (k := 1) hf2)
          clear hf2
          generalize l ++ [c] = l2 at *
          go_enter Tryd.func4, Tryd.ntmps4
          go_wp2_with fail
          refine (month_any l _ (HM.out.below HBw0.out) HL.out).mono ?_
          rintro e w1 ⟨rfl, hb⟩
          have HBw1 := Lib.hid (HBw0.out.trans (hb.mono HBw0.out.size))
          clear hb
          rw [E1.out]
          go_wp2_with fail
          refine (month_any l2 _ (HM.out.below HBw1.out) HL2.out).mono ?_
          rintro e w2 ⟨rfl, hb⟩
          have HBw2 := Lib.hid (HBw1.out.trans (hb.mono HBw1.out.size))
          clear hb
          rw [E2.out]
          go_wp2_with fail
          refine (Months_any _).mono ?_
          rintro e w' ⟨rfl, rfl⟩
          have c9 := G1.out w2
          have HBa := Lib.hid (HBw2.out.alloc HBw2.out.size monthsSObj)
          go_wp2_with fail
          clear c9
          refine (awake_any _ (HM.out.below HBa.out)).mono ?_
          rintro e w8 ⟨rfl, hb⟩
          have HBw8 := Lib.hid (HBa.out.trans (hb.mono HBa.out.size))
          clear hb
          go_wp2_with fail
          go_ret
          exact ⟨rfl, HBw8.out⟩
theorem walk_big (l : List UInt8) (c : Int) (w : World) (hM : Mon w) (hl : 20 < l.length) : Calls Tryd.prog 4 #[.string ⟨l.toArray⟩, .int .u8 c] w (One w) := by
  have HM := Lib.hid hM
  have HBw := Lib.hid (Below.refl w.heap.size w)
  have hl2 : 20 < (l.length : Int) := by omega
  clear hM
  go_enter Tryd.func4, Tryd.ntmps4
  go_wp2_with fail
  refine (awake_any _ (HM.out.below HBw.out)).mono ?_
  rintro e w8 ⟨rfl, hb⟩
  have HBw8 := Lib.hid (HBw.out.trans (hb.mono HBw.out.size))
  clear hb
  go_wp2_with fail
  go_ret
  exact ⟨rfl, HBw8.out⟩
theorem walk (l : List UInt8) (c : UInt8) (w : World) (hM : Mon w) : Calls Tryd.prog 4 #[.string ⟨l.toArray⟩, .int .u8 (c.toNat : Int)] w (One w) := by
  by_cases hl : l.length ≤ 20
  · cases hf : fd (l.map low) monthsL with
    | none => exact walk_none l c w hM hl hf
    | some i =>
      have hi : i < 12 := fd_lt hf
      have h := fd_len hf (month_low i hi)
      rw [List.length_map] at h
      by_cases q : l.length = (monthsS.getD i []).length
      · exact walk_full l c w i hM hl hi hf q
      · exact walk_part l c _ w i hM hl hi hf (by omega) rfl
  · exact walk_big l _ w hM (by omega)
end wordsMore
end Go.Proofs.YtcfcfoiphadmkaaDoor
