/-
  THE LAW AbbrBack, walked.
-/
import Derived.Test.YtakpbgjmblbaiaaDoorOffsets
namespace Go.Proofs.YtakpbgjmblbaiaaDoor.abbrBack
open Go Go.RowKit AbbM

theorem dgt_lt {x y : Int} (x0 : 0 ≤ x) (x1 : x < 10) (y0 : 0 ≤ y) (y1 : y < 10) : decide (dgt x < dgt y) = decide (x < y) := by
  have e1 := dgt_nat x0 x1
  have e2 := dgt_nat y0 y1
  rw [decide_eq_decide, UInt8.lt_iff_toNat_lt]
  omega
theorem dgt_eq {x y : Int} (x0 : 0 ≤ x) (x1 : x < 10) (y0 : 0 ≤ y) (y1 : y < 10) : (dgt x == dgt y) = decide (x = y) := by
  have e1 := dgt_nat x0 x1
  have e2 := dgt_nat y0 y1
  by_cases h : x = y
  · subst h; simp
  · rw [decide_eq_false h, beq_eq_false_iff_ne]
    intro e
    rw [e] at e1
    omega
theorem bl_two (k m : Int) (x y : List UInt8) (k0 : 0 ≤ k) (k1 : k < 100) (m0 : 0 ≤ m) (m1 : m < 100) :
    Op.bytesLess (two k ++ x) (two m ++ y) = (decide (k < m) || (decide (k = m) && Op.bytesLess x y)) := by
  show (decide (dgt (k / 10) < dgt (m / 10)) || (dgt (k / 10) == dgt (m / 10) && (decide (dgt (k % 10) < dgt (m % 10)) || (dgt (k % 10) == dgt (m % 10) && Op.bytesLess x y)))) = _
  rw [dgt_lt (by omega) (by omega) (by omega) (by omega), dgt_eq (by omega) (by omega) (by omega) (by omega), dgt_lt (by omega) (by omega) (by omega) (by omega), dgt_eq (by omega) (by omega) (by omega) (by omega)]
  cases Op.bytesLess x y
  · simp only [Bool.and_false, Bool.or_false]
    rw [Bool.eq_iff_iff]
    simp
    omega
  · simp only [Bool.and_true]
    rw [Bool.eq_iff_iff]
    simp
    omega
theorem bl_nil : Op.bytesLess [] [] = false := rfl
theorem order (a b : Int) (a0 : 0 ≤ a) (a1 : a < 360000) (b0 : 0 ≤ b) (b1 : b < 360000) (hl : (offText a).length = (offText b).length) : Op.bytesLess (offText a) (offText b) = decide (a < b) := by
  unfold offText at *
  rw [if_neg (by omega), if_neg (by omega), otext_rest, otext_rest] at *
  have h0 : Op.bytesLess (43 :: rest a) (43 :: rest b) = Op.bytesLess (rest a) (rest b) := by
    show (decide ((43 : UInt8) < 43) || ((43 : UInt8) == 43 && Op.bytesLess (rest a) (rest b))) = _
    simp
  rw [h0]
  unfold rest at *
  rw [bl_two _ _ _ _ (by omega) (by omega) (by omega) (by omega)]
  by_cases A1 : 0 < a % 3600
  · by_cases A2 : 0 < a % 60
    · by_cases B1 : 0 < b % 3600
      · by_cases B2 : 0 < b % 60
        · rw [if_pos A1, if_pos A2, if_pos B1, if_pos B2, bl_two _ _ _ _ (by omega) (by omega) (by omega) (by omega), ← List.append_nil (two (a % 60)), ← List.append_nil (two (b % 60)), bl_two _ _ _ _ (by omega) (by omega) (by omega) (by omega), bl_nil]
          rw [Bool.eq_iff_iff]
          simp
          omega
        · rw [if_pos A1, if_pos A2, if_pos B1, if_neg B2] at hl
          simp [two] at hl
      · rw [if_pos A1, if_pos A2, if_neg B1, if_neg (by omega)] at hl
        simp [two] at hl
    · by_cases B1 : 0 < b % 3600
      · by_cases B2 : 0 < b % 60
        · rw [if_pos A1, if_neg A2, if_pos B1, if_pos B2] at hl
          simp [two] at hl
        · rw [if_pos A1, if_neg A2, if_pos B1, if_neg B2, bl_two _ _ _ _ (by omega) (by omega) (by omega) (by omega), bl_nil]
          rw [Bool.eq_iff_iff]
          simp
          omega
      · rw [if_pos A1, if_neg A2, if_neg B1, if_neg (by omega)] at hl
        simp [two] at hl
  · by_cases B1 : 0 < b % 3600
    · rw [if_neg A1, if_neg (by omega), if_pos B1] at hl
      simp [two] at hl
    · rw [if_neg A1, if_neg (by omega), if_neg B1, if_neg (by omega), List.append_nil, bl_nil]
      rw [Bool.eq_iff_iff]
      simp
      omega
set_option maxHeartbeats 1000000 in
theorem walk_in (a b : Int) (s : List UInt8) (w : World) (hB : Big w) (o1 : -360000 < a) (o2 : a < 360000) (p1 : -360000 < b) (p2 : b < 360000) (hs : s.length ≤ 40) : Calls Tryd.prog 9 #[.int .i64 a, .int .i64 b, .string ⟨s.toArray⟩] w (One w) := by
  have HBg := Lib.hid hB
  have HBw := Lib.hid (Below.refl w.heap.size w)
  have h2 : (s.length : Int) ≤ 40 := by omega
  have HS := Lib.hid (show s.length ≤ 1000 by omega)
  clear hB hs
  by_cases hl : (offText a).length = (offText b).length
  · have le : ((offText a).length : Int) = (offText b).length := by omega
    by_cases a0 : a < 0
    · clear hl
      have EX := Lib.hid (show parseV (offText a) = .tuple #[.int .i64 a, .int .i64 0] from parse_yes (prM_off a o1 o2) ⟨o1, o2⟩ rfl)
      have LX := Lib.hid (off_len a)
      go_enter Tryd.func9, Tryd.ntmps9
      go_wp2_with fail
      refine (offset_ok a _ o1 o2).mono ?_
      rintro e w1 ⟨rfl, hb⟩
      have HBw1 := Lib.hid (HBw.out.trans (hb.mono HBw.out.size))
      clear hb
      go_wp2_with fail
      refine (offset_ok b _ p1 p2).mono ?_
      rintro e w2 ⟨rfl, hb⟩
      have HBw2 := Lib.hid (HBw1.out.trans (hb.mono HBw1.out.size))
      clear hb
      go_wp2_with fail
      refine (parse_any (offText a) _ (HBg.out.below HBw2.out) LX.out).mono ?_
      rintro e w3 ⟨rfl, hb⟩
      have HBw3 := Lib.hid (HBw2.out.trans (hb.mono HBw2.out.size))
      clear hb
      rw [EX.out]
      generalize offText a = X at *
      generalize offText b = Y at *
      go_wp2_with fail
      rcases parse_cases s with ⟨m, hm, hq, e1, _⟩ | ⟨e1, _⟩
      · have E1 := Lib.hid e1
        have HQ := Lib.hid hq
        obtain ⟨m1, m2⟩ := hm
        clear e1 hq
        refine (parse_any s _ (HBg.out.below HBw3.out) HS.out).mono ?_
        rintro e w5 ⟨rfl, hb⟩
        have HBw5 := Lib.hid (HBw3.out.trans (hb.mono HBw3.out.size))
        clear hb
        rw [E1.out]
        go_wp2_with fail
        refine (offset_ok m _ m1 m2).mono ?_
        rintro e w6 ⟨rfl, hb⟩
        have HBw6 := Lib.hid (HBw5.out.trans (hb.mono HBw5.out.size))
        clear hb
        rw [HQ.out]
        go_wp2_with fail
        refine (awake_any _ (HBg.out.below HBw6.out)).mono ?_
        rintro e w8 ⟨rfl, hb⟩
        have HBw8 := Lib.hid (HBw6.out.trans (hb.mono HBw6.out.size))
        clear hb
        go_wp2_with fail
        go_ret
        exact ⟨rfl, HBw8.out⟩
      · have E1 := Lib.hid e1
        clear e1
        refine (parse_any s _ (HBg.out.below HBw3.out) HS.out).mono ?_
        rintro e w5 ⟨rfl, hb⟩
        have HBw5 := Lib.hid (HBw3.out.trans (hb.mono HBw3.out.size))
        clear hb
        rw [E1.out]
        go_wp2_with fail
        refine (awake_any _ (HBg.out.below HBw5.out)).mono ?_
        rintro e w8 ⟨rfl, hb⟩
        have HBw8 := Lib.hid (HBw5.out.trans (hb.mono HBw5.out.size))
        clear hb
        go_wp2_with fail
        go_ret
        exact ⟨rfl, HBw8.out⟩
    · by_cases b0 : b < 0
      · clear hl
        have EX := Lib.hid (show parseV (offText a) = .tuple #[.int .i64 a, .int .i64 0] from parse_yes (prM_off a o1 o2) ⟨o1, o2⟩ rfl)
        have LX := Lib.hid (off_len a)
        go_enter Tryd.func9, Tryd.ntmps9
        go_wp2_with fail
        refine (offset_ok a _ o1 o2).mono ?_
        rintro e w1 ⟨rfl, hb⟩
        have HBw1 := Lib.hid (HBw.out.trans (hb.mono HBw.out.size))
        clear hb
        go_wp2_with fail
        refine (offset_ok b _ p1 p2).mono ?_
        rintro e w2 ⟨rfl, hb⟩
        have HBw2 := Lib.hid (HBw1.out.trans (hb.mono HBw1.out.size))
        clear hb
        go_wp2_with fail
        refine (parse_any (offText a) _ (HBg.out.below HBw2.out) LX.out).mono ?_
        rintro e w3 ⟨rfl, hb⟩
        have HBw3 := Lib.hid (HBw2.out.trans (hb.mono HBw2.out.size))
        clear hb
        rw [EX.out]
        generalize offText a = X at *
        generalize offText b = Y at *
        go_wp2_with fail
        rcases parse_cases s with ⟨m, hm, hq, e1, _⟩ | ⟨e1, _⟩
        · have E1 := Lib.hid e1
          have HQ := Lib.hid hq
          obtain ⟨m1, m2⟩ := hm
          clear e1 hq
          refine (parse_any s _ (HBg.out.below HBw3.out) HS.out).mono ?_
          rintro e w5 ⟨rfl, hb⟩
          have HBw5 := Lib.hid (HBw3.out.trans (hb.mono HBw3.out.size))
          clear hb
          rw [E1.out]
          go_wp2_with fail
          refine (offset_ok m _ m1 m2).mono ?_
          rintro e w6 ⟨rfl, hb⟩
          have HBw6 := Lib.hid (HBw5.out.trans (hb.mono HBw5.out.size))
          clear hb
          rw [HQ.out]
          go_wp2_with fail
          refine (awake_any _ (HBg.out.below HBw6.out)).mono ?_
          rintro e w8 ⟨rfl, hb⟩
          have HBw8 := Lib.hid (HBw6.out.trans (hb.mono HBw6.out.size))
          clear hb
          go_wp2_with fail
          go_ret
          exact ⟨rfl, HBw8.out⟩
        · have E1 := Lib.hid e1
          clear e1
          refine (parse_any s _ (HBg.out.below HBw3.out) HS.out).mono ?_
          rintro e w5 ⟨rfl, hb⟩
          have HBw5 := Lib.hid (HBw3.out.trans (hb.mono HBw3.out.size))
          clear hb
          rw [E1.out]
          go_wp2_with fail
          refine (awake_any _ (HBg.out.below HBw5.out)).mono ?_
          rintro e w8 ⟨rfl, hb⟩
          have HBw8 := Lib.hid (HBw5.out.trans (hb.mono HBw5.out.size))
          clear hb
          go_wp2_with fail
          go_ret
          exact ⟨rfl, HBw8.out⟩
      · have BL := order a b (by omega) o2 (by omega) p2 hl
        clear hl
        have EX := Lib.hid (show parseV (offText a) = .tuple #[.int .i64 a, .int .i64 0] from parse_yes (prM_off a o1 o2) ⟨o1, o2⟩ rfl)
        have LX := Lib.hid (off_len a)
        go_enter Tryd.func9, Tryd.ntmps9
        go_wp2_with fail
        refine (offset_ok a _ o1 o2).mono ?_
        rintro e w1 ⟨rfl, hb⟩
        have HBw1 := Lib.hid (HBw.out.trans (hb.mono HBw.out.size))
        clear hb
        go_wp2_with fail
        refine (offset_ok b _ p1 p2).mono ?_
        rintro e w2 ⟨rfl, hb⟩
        have HBw2 := Lib.hid (HBw1.out.trans (hb.mono HBw1.out.size))
        clear hb
        go_wp2_with fail
        refine (parse_any (offText a) _ (HBg.out.below HBw2.out) LX.out).mono ?_
        rintro e w3 ⟨rfl, hb⟩
        have HBw3 := Lib.hid (HBw2.out.trans (hb.mono HBw2.out.size))
        clear hb
        rw [EX.out]
        generalize offText a = X at *
        generalize offText b = Y at *
        go_wp2_with fail
        rcases parse_cases s with ⟨m, hm, hq, e1, _⟩ | ⟨e1, _⟩
        · have E1 := Lib.hid e1
          have HQ := Lib.hid hq
          obtain ⟨m1, m2⟩ := hm
          clear e1 hq
          refine (parse_any s _ (HBg.out.below HBw3.out) HS.out).mono ?_
          rintro e w5 ⟨rfl, hb⟩
          have HBw5 := Lib.hid (HBw3.out.trans (hb.mono HBw3.out.size))
          clear hb
          rw [E1.out]
          go_wp2_with fail
          refine (offset_ok m _ m1 m2).mono ?_
          rintro e w6 ⟨rfl, hb⟩
          have HBw6 := Lib.hid (HBw5.out.trans (hb.mono HBw5.out.size))
          clear hb
          rw [HQ.out]
          go_wp2_with fail
          refine (awake_any _ (HBg.out.below HBw6.out)).mono ?_
          rintro e w8 ⟨rfl, hb⟩
          have HBw8 := Lib.hid (HBw6.out.trans (hb.mono HBw6.out.size))
          clear hb
          go_wp2_with fail
          go_ret
          exact ⟨rfl, HBw8.out⟩
        · have E1 := Lib.hid e1
          clear e1
          refine (parse_any s _ (HBg.out.below HBw3.out) HS.out).mono ?_
          rintro e w5 ⟨rfl, hb⟩
          have HBw5 := Lib.hid (HBw3.out.trans (hb.mono HBw3.out.size))
          clear hb
          rw [E1.out]
          go_wp2_with fail
          refine (awake_any _ (HBg.out.below HBw5.out)).mono ?_
          rintro e w8 ⟨rfl, hb⟩
          have HBw8 := Lib.hid (HBw5.out.trans (hb.mono HBw5.out.size))
          clear hb
          go_wp2_with fail
          go_ret
          exact ⟨rfl, HBw8.out⟩
  · have lf : (((offText a).length : Int) == (offText b).length) = false := by rw [beq_eq_false_iff_ne]; omega
    clear hl
    have EX := Lib.hid (show parseV (offText a) = .tuple #[.int .i64 a, .int .i64 0] from parse_yes (prM_off a o1 o2) ⟨o1, o2⟩ rfl)
    have LX := Lib.hid (off_len a)
    go_enter Tryd.func9, Tryd.ntmps9
    go_wp2_with fail
    refine (offset_ok a _ o1 o2).mono ?_
    rintro e w1 ⟨rfl, hb⟩
    have HBw1 := Lib.hid (HBw.out.trans (hb.mono HBw.out.size))
    clear hb
    go_wp2_with fail
    refine (offset_ok b _ p1 p2).mono ?_
    rintro e w2 ⟨rfl, hb⟩
    have HBw2 := Lib.hid (HBw1.out.trans (hb.mono HBw1.out.size))
    clear hb
    go_wp2_with fail
    refine (parse_any (offText a) _ (HBg.out.below HBw2.out) LX.out).mono ?_
    rintro e w3 ⟨rfl, hb⟩
    have HBw3 := Lib.hid (HBw2.out.trans (hb.mono HBw2.out.size))
    clear hb
    rw [EX.out]
    generalize offText a = X at *
    generalize offText b = Y at *
    go_wp2_with fail
    rcases parse_cases s with ⟨m, hm, hq, e1, _⟩ | ⟨e1, _⟩
    · have E1 := Lib.hid e1
      have HQ := Lib.hid hq
      obtain ⟨m1, m2⟩ := hm
      clear e1 hq
      refine (parse_any s _ (HBg.out.below HBw3.out) HS.out).mono ?_
      rintro e w5 ⟨rfl, hb⟩
      have HBw5 := Lib.hid (HBw3.out.trans (hb.mono HBw3.out.size))
      clear hb
      rw [E1.out]
      go_wp2_with fail
      refine (offset_ok m _ m1 m2).mono ?_
      rintro e w6 ⟨rfl, hb⟩
      have HBw6 := Lib.hid (HBw5.out.trans (hb.mono HBw5.out.size))
      clear hb
      rw [HQ.out]
      go_wp2_with fail
      refine (awake_any _ (HBg.out.below HBw6.out)).mono ?_
      rintro e w8 ⟨rfl, hb⟩
      have HBw8 := Lib.hid (HBw6.out.trans (hb.mono HBw6.out.size))
      clear hb
      go_wp2_with fail
      go_ret
      exact ⟨rfl, HBw8.out⟩
    · have E1 := Lib.hid e1
      clear e1
      refine (parse_any s _ (HBg.out.below HBw3.out) HS.out).mono ?_
      rintro e w5 ⟨rfl, hb⟩
      have HBw5 := Lib.hid (HBw3.out.trans (hb.mono HBw3.out.size))
      clear hb
      rw [E1.out]
      go_wp2_with fail
      refine (awake_any _ (HBg.out.below HBw5.out)).mono ?_
      rintro e w8 ⟨rfl, hb⟩
      have HBw8 := Lib.hid (HBw5.out.trans (hb.mono HBw5.out.size))
      clear hb
      go_wp2_with fail
      go_ret
      exact ⟨rfl, HBw8.out⟩
set_option maxHeartbeats 1000000 in
theorem walk_b (a b : Int) (s : List UInt8) (w : World) (hB : Big w) (o1 : -360000 < a) (o2 : a < 360000) (hb : ¬ (-360000 < b ∧ b < 360000)) (hs : s.length ≤ 40) : Calls Tryd.prog 9 #[.int .i64 a, .int .i64 b, .string ⟨s.toArray⟩] w (One w) := by
  have HBg := Lib.hid hB
  have HBw := Lib.hid (Below.refl w.heap.size w)
  have HN := Lib.hid hb
  have h2 : (s.length : Int) ≤ 40 := by omega
  have HS := Lib.hid (show s.length ≤ 1000 by omega)
  clear hB hs hb
  have EX := Lib.hid (show parseV (offText a) = .tuple #[.int .i64 a, .int .i64 0] from parse_yes (prM_off a o1 o2) ⟨o1, o2⟩ rfl)
  have LX := Lib.hid (off_len a)
  go_enter Tryd.func9, Tryd.ntmps9
  go_wp2_with fail
  refine (offset_ok a _ o1 o2).mono ?_
  rintro e w1 ⟨rfl, hb⟩
  have HBw1 := Lib.hid (HBw.out.trans (hb.mono HBw.out.size))
  clear hb
  go_wp2_with fail
  refine (offset_no b _ HN.out).mono ?_
  rintro e w2 ⟨rfl, hb⟩
  have HBw2 := Lib.hid (HBw1.out.trans (hb.mono HBw1.out.size))
  clear hb
  go_wp2_with fail
  refine (parse_any (offText a) _ (HBg.out.below HBw2.out) LX.out).mono ?_
  rintro e w3 ⟨rfl, hb⟩
  have HBw3 := Lib.hid (HBw2.out.trans (hb.mono HBw2.out.size))
  clear hb
  rw [EX.out]
  skip
  skip
  go_wp2_with fail
  rcases parse_cases s with ⟨m, hm, hq, e1, _⟩ | ⟨e1, _⟩
  · have E1 := Lib.hid e1
    have HQ := Lib.hid hq
    obtain ⟨m1, m2⟩ := hm
    clear e1 hq
    refine (parse_any s _ (HBg.out.below HBw3.out) HS.out).mono ?_
    rintro e w5 ⟨rfl, hb⟩
    have HBw5 := Lib.hid (HBw3.out.trans (hb.mono HBw3.out.size))
    clear hb
    rw [E1.out]
    go_wp2_with fail
    refine (offset_ok m _ m1 m2).mono ?_
    rintro e w6 ⟨rfl, hb⟩
    have HBw6 := Lib.hid (HBw5.out.trans (hb.mono HBw5.out.size))
    clear hb
    rw [HQ.out]
    go_wp2_with fail
    refine (awake_any _ (HBg.out.below HBw6.out)).mono ?_
    rintro e w8 ⟨rfl, hb⟩
    have HBw8 := Lib.hid (HBw6.out.trans (hb.mono HBw6.out.size))
    clear hb
    go_wp2_with fail
    go_ret
    exact ⟨rfl, HBw8.out⟩
  · have E1 := Lib.hid e1
    clear e1
    refine (parse_any s _ (HBg.out.below HBw3.out) HS.out).mono ?_
    rintro e w5 ⟨rfl, hb⟩
    have HBw5 := Lib.hid (HBw3.out.trans (hb.mono HBw3.out.size))
    clear hb
    rw [E1.out]
    go_wp2_with fail
    refine (awake_any _ (HBg.out.below HBw5.out)).mono ?_
    rintro e w8 ⟨rfl, hb⟩
    have HBw8 := Lib.hid (HBw5.out.trans (hb.mono HBw5.out.size))
    clear hb
    go_wp2_with fail
    go_ret
    exact ⟨rfl, HBw8.out⟩
set_option maxHeartbeats 1000000 in
theorem walk_a (a b : Int) (s : List UInt8) (w : World) (hB : Big w) (ha : ¬ (-360000 < a ∧ a < 360000)) (hs : s.length ≤ 40) : Calls Tryd.prog 9 #[.int .i64 a, .int .i64 b, .string ⟨s.toArray⟩] w (One w) := by
  have HBg := Lib.hid hB
  have HBw := Lib.hid (Below.refl w.heap.size w)
  have HN := Lib.hid ha
  have h2 : (s.length : Int) ≤ 40 := by omega
  have HS := Lib.hid (show s.length ≤ 1000 by omega)
  clear hB hs ha
  by_cases hb : -360000 < b ∧ b < 360000
  · obtain ⟨p1, p2⟩ := hb
    go_enter Tryd.func9, Tryd.ntmps9
    go_wp2_with fail
    refine (offset_no a _ HN.out).mono ?_
    rintro e w1 ⟨rfl, hb⟩
    have HBw1 := Lib.hid (HBw.out.trans (hb.mono HBw.out.size))
    clear hb
    go_wp2_with fail
    refine (offset_ok b _ p1 p2).mono ?_
    rintro e w2 ⟨rfl, hb⟩
    have HBw2 := Lib.hid (HBw1.out.trans (hb.mono HBw1.out.size))
    clear hb
    go_wp2_with fail
    rcases parse_cases s with ⟨m, hm, hq, e1, _⟩ | ⟨e1, _⟩
    · have E1 := Lib.hid e1
      have HQ := Lib.hid hq
      obtain ⟨m1, m2⟩ := hm
      clear e1 hq
      refine (parse_any s _ (HBg.out.below HBw2.out) HS.out).mono ?_
      rintro e w5 ⟨rfl, hb⟩
      have HBw5 := Lib.hid (HBw2.out.trans (hb.mono HBw2.out.size))
      clear hb
      rw [E1.out]
      go_wp2_with fail
      refine (offset_ok m _ m1 m2).mono ?_
      rintro e w6 ⟨rfl, hb⟩
      have HBw6 := Lib.hid (HBw5.out.trans (hb.mono HBw5.out.size))
      clear hb
      rw [HQ.out]
      go_wp2_with fail
      refine (awake_any _ (HBg.out.below HBw6.out)).mono ?_
      rintro e w8 ⟨rfl, hb⟩
      have HBw8 := Lib.hid (HBw6.out.trans (hb.mono HBw6.out.size))
      clear hb
      go_wp2_with fail
      go_ret
      exact ⟨rfl, HBw8.out⟩
    · have E1 := Lib.hid e1
      clear e1
      refine (parse_any s _ (HBg.out.below HBw2.out) HS.out).mono ?_
      rintro e w5 ⟨rfl, hb⟩
      have HBw5 := Lib.hid (HBw2.out.trans (hb.mono HBw2.out.size))
      clear hb
      rw [E1.out]
      go_wp2_with fail
      refine (awake_any _ (HBg.out.below HBw5.out)).mono ?_
      rintro e w8 ⟨rfl, hb⟩
      have HBw8 := Lib.hid (HBw5.out.trans (hb.mono HBw5.out.size))
      clear hb
      go_wp2_with fail
      go_ret
      exact ⟨rfl, HBw8.out⟩
  · have HM := Lib.hid hb
    clear hb
    go_enter Tryd.func9, Tryd.ntmps9
    go_wp2_with fail
    refine (offset_no a _ HN.out).mono ?_
    rintro e w1 ⟨rfl, hb⟩
    have HBw1 := Lib.hid (HBw.out.trans (hb.mono HBw.out.size))
    clear hb
    go_wp2_with fail
    refine (offset_no b _ HM.out).mono ?_
    rintro e w2 ⟨rfl, hb⟩
    have HBw2 := Lib.hid (HBw1.out.trans (hb.mono HBw1.out.size))
    clear hb
    go_wp2_with fail
    rcases parse_cases s with ⟨m, hm, hq, e1, _⟩ | ⟨e1, _⟩
    · have E1 := Lib.hid e1
      have HQ := Lib.hid hq
      obtain ⟨m1, m2⟩ := hm
      clear e1 hq
      refine (parse_any s _ (HBg.out.below HBw2.out) HS.out).mono ?_
      rintro e w5 ⟨rfl, hb⟩
      have HBw5 := Lib.hid (HBw2.out.trans (hb.mono HBw2.out.size))
      clear hb
      rw [E1.out]
      go_wp2_with fail
      refine (offset_ok m _ m1 m2).mono ?_
      rintro e w6 ⟨rfl, hb⟩
      have HBw6 := Lib.hid (HBw5.out.trans (hb.mono HBw5.out.size))
      clear hb
      rw [HQ.out]
      go_wp2_with fail
      refine (awake_any _ (HBg.out.below HBw6.out)).mono ?_
      rintro e w8 ⟨rfl, hb⟩
      have HBw8 := Lib.hid (HBw6.out.trans (hb.mono HBw6.out.size))
      clear hb
      go_wp2_with fail
      go_ret
      exact ⟨rfl, HBw8.out⟩
    · have E1 := Lib.hid e1
      clear e1
      refine (parse_any s _ (HBg.out.below HBw2.out) HS.out).mono ?_
      rintro e w5 ⟨rfl, hb⟩
      have HBw5 := Lib.hid (HBw2.out.trans (hb.mono HBw2.out.size))
      clear hb
      rw [E1.out]
      go_wp2_with fail
      refine (awake_any _ (HBg.out.below HBw5.out)).mono ?_
      rintro e w8 ⟨rfl, hb⟩
      have HBw8 := Lib.hid (HBw5.out.trans (hb.mono HBw5.out.size))
      clear hb
      go_wp2_with fail
      go_ret
      exact ⟨rfl, HBw8.out⟩
theorem walk (a b : Int) (s : List UInt8) (w : World) (hB : Big w) : Calls Tryd.prog 9 #[.int .i64 a, .int .i64 b, .string ⟨s.toArray⟩] w (One w) := by
  by_cases hs : s.length ≤ 40
  · by_cases ha : -360000 < a ∧ a < 360000
    · by_cases hb : -360000 < b ∧ b < 360000
      · exact walk_in a b s w hB ha.1 ha.2 hb.1 hb.2 hs
      · exact walk_b a b s w hB ha.1 ha.2 hb hs
    · exact walk_a a b s w hB ha hs
  · have h2 : 40 < (s.length : Int) := by omega
    have HBg := Lib.hid hB
    have HBw := Lib.hid (Below.refl w.heap.size w)
    clear hs hB
    go_enter Tryd.func9, Tryd.ntmps9
    go_wp2_with fail
    refine (awake_any _ HBg.out).mono ?_
    rintro e w8 ⟨rfl, hb⟩
    have HBw8 := Lib.hid (HBw.out.trans (hb.mono HBw.out.size))
    clear hb
    go_wp2_with fail
    go_ret
    exact ⟨rfl, HBw8.out⟩
end Go.Proofs.YtakpbgjmblbaiaaDoor.abbrBack
