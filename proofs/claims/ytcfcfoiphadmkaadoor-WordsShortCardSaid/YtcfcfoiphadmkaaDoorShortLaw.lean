/-
  THE WALK of the law WordsShort.
-/
import Derived.Test.YtcfcfoiphadmkaaDoorFdMath
namespace Go.Proofs.YtcfcfoiphadmkaaDoor
open Go Go.RowKit

theorem flip_low (x : UInt8) (n : Int) (h : n = x.toNat ∨ (97 ≤ (x.toNat : Int) ∧ (x.toNat : Int) ≤ 122 ∧ n = (x.toNat : Int) - 97 + 65) ∨ (65 ≤ (x.toNat : Int) ∧ (x.toNat : Int) ≤ 90 ∧ n = (x.toNat : Int) - 65 + 97)) : ∃ y : UInt8, n = y.toNat ∧ low y = low x := by
  have hx := x.toNat_lt
  refine ⟨UInt8.ofNat n.toNat, by simp; omega, ?_⟩
  rw [← UInt8.toNat_inj, low_nat, low_nat]
  have : (UInt8.ofNat n.toNat).toNat = n.toNat := by simp; omega
  rw [this]
  unfold lowN
  split <;> split <;> omega
namespace wordsShort
set_option maxRecDepth 100000 in
set_option maxHeartbeats 8000000 in
theorem walk_small (l : List UInt8) (mask : Int) (w : World) (hM : Mon w) (hW : Wek w) (hl : l.length ≤ 40) : Calls Tryd.prog 6 #[.string ⟨l.toArray⟩, .int .i64 mask] w (One w) := by
  have HM := Lib.hid hM
  have HW := Lib.hid hW
  have HBw := Lib.hid (Below.refl w.heap.size w)
  have hl2 : (l.length : Int) ≤ 40 := by omega
  clear hM hW
  go_enter Tryd.func6, Tryd.ntmps6
  go_wp2_with fail
  go_loopw [5, 6] (fun v5 v6 wr => ∃ (i : Nat) (T : List UInt8), v5 = .string ⟨T.toArray⟩ ∧ v6 = .int .i64 i ∧ i ≤ l.length ∧ T.length = i ∧ T.map low = (l.take i).map low ∧ Below w.heap.size w wr) (fun _ v6 _ => ((l.length : Int) - intOf v6).toNat)
  case atStart => exact ⟨0, [], rfl, rfl, by omega, rfl, rfl, HBw.out⟩
  case round =>
    obtain ⟨i, T, rfl, rfl, i1, ht, hm, hB⟩ := hrel
    have HBr := Lib.hid hB
    have HM0 := Lib.hid hm
    clear hB hm
    by_cases hi : i < l.length
    · have hi2 : (i : Int) < (l.length : Int) := by omega
      have e60 : (i : Int) % 60 = i := by omega
      have e61 : (i : Int).tmod 60 = i := by rw [Int.tmod_eq_emod_of_nonneg (by omega)]; omega
      have e64 : (i : Int) < 64 := by omega
      obtain ⟨x, hx⟩ : ∃ x, (⟨l.toArray⟩ : ByteArray)[i]'(by show i < l.toArray.size; simpa using hi) = x := ⟨_, rfl⟩
      have HX := Lib.hid (show l[i]? = some x by rw [← hx]; exact List.getElem?_eq_getElem hi)
      have X1 : (x.toNat : Int) ≤ 255 := by have := x.toNat_lt; omega
      have X0 : 0 ≤ (x.toNat : Int) := by omega
      by_cases m0 : ((mask / 2 ^ i).tmod 2 != 0) = true
      · by_cases a1 : (x.toNat : Int) < 97
        · by_cases a2 : (x.toNat : Int) < 65
          ·
            obtain ⟨y, y1, y2⟩ := flip_low x ((x.toNat : Int)) (by omega)
            have RC := cv_one ((x.toNat : Int)) y wr y1
            have HT := Lib.hid y2
            clear y2 y1
            go_wp2_with fail
            go_roundw
            case rel =>
              refine ⟨i + 1, T ++ [y], ?_, rfl, by omega, by simp; omega, ?_, HBr.out.alloc HBr.out.size _⟩
              · first | (rw [← ba_app]; done) | (rw [← ba_app]; simp)
              · rw [List.map_append, HM0.out, List.take_add_one, HX.out, List.map_append]; simp [HT.out]
            case measure => simp [intOf]; omega
          · by_cases a3 : 90 < (x.toNat : Int)
            ·
              obtain ⟨y, y1, y2⟩ := flip_low x ((x.toNat : Int)) (by omega)
              have RC := cv_one ((x.toNat : Int)) y wr y1
              have HT := Lib.hid y2
              clear y2 y1
              go_wp2_with fail
              go_roundw
              case rel =>
                refine ⟨i + 1, T ++ [y], ?_, rfl, by omega, by simp; omega, ?_, HBr.out.alloc HBr.out.size _⟩
                · first | (rw [← ba_app]; done) | (rw [← ba_app]; simp)
                · rw [List.map_append, HM0.out, List.take_add_one, HX.out, List.map_append]; simp [HT.out]
              case measure => simp [intOf]; omega
            ·
              obtain ⟨y, y1, y2⟩ := flip_low x ((x.toNat : Int) - 65 + 97) (by omega)
              have RC := cv_one ((x.toNat : Int) - 65 + 97) y wr y1
              have HT := Lib.hid y2
              clear y2 y1
              go_wp2_with fail
              go_roundw
              case rel =>
                refine ⟨i + 1, T ++ [y], ?_, rfl, by omega, by simp; omega, ?_, HBr.out.alloc HBr.out.size _⟩
                · first | (rw [← ba_app]; done) | (rw [← ba_app]; simp)
                · rw [List.map_append, HM0.out, List.take_add_one, HX.out, List.map_append]; simp [HT.out]
              case measure => simp [intOf]; omega
        · by_cases a2 : 122 < (x.toNat : Int)
          ·
            obtain ⟨y, y1, y2⟩ := flip_low x ((x.toNat : Int)) (by omega)
            have RC := cv_one ((x.toNat : Int)) y wr y1
            have HT := Lib.hid y2
            clear y2 y1
            go_wp2_with fail
            go_roundw
            case rel =>
              refine ⟨i + 1, T ++ [y], ?_, rfl, by omega, by simp; omega, ?_, HBr.out.alloc HBr.out.size _⟩
              · first | (rw [← ba_app]; done) | (rw [← ba_app]; simp)
              · rw [List.map_append, HM0.out, List.take_add_one, HX.out, List.map_append]; simp [HT.out]
            case measure => simp [intOf]; omega
          ·
            obtain ⟨y, y1, y2⟩ := flip_low x ((x.toNat : Int) - 97 + 65) (by omega)
            have RC := cv_one ((x.toNat : Int) - 97 + 65) y wr y1
            have HT := Lib.hid y2
            clear y2 y1
            go_wp2_with fail
            go_roundw
            case rel =>
              refine ⟨i + 1, T ++ [y], ?_, rfl, by omega, by simp; omega, ?_, HBr.out.alloc HBr.out.size _⟩
              · first | (rw [← ba_app]; done) | (rw [← ba_app]; simp)
              · rw [List.map_append, HM0.out, List.take_add_one, HX.out, List.map_append]; simp [HT.out]
            case measure => simp [intOf]; omega
      · have m1 : ((mask / 2 ^ i).tmod 2 != 0) = false := by simpa using m0
        clear m0
        obtain ⟨y, y1, y2⟩ := flip_low x ((x.toNat : Int)) (by omega)
        have RC := cv_one ((x.toNat : Int)) y wr y1
        have HT := Lib.hid y2
        clear y2 y1
        go_wp2_with fail
        go_roundw
        case rel =>
          refine ⟨i + 1, T ++ [y], ?_, rfl, by omega, by simp; omega, ?_, HBr.out.alloc HBr.out.size _⟩
          · first | (rw [← ba_app]; done) | (rw [← ba_app]; simp)
          · rw [List.map_append, HM0.out, List.take_add_one, HX.out, List.map_append]; simp [HT.out]
        case measure => simp [intOf]; omega
    · obtain rfl : i = l.length := by omega
      simp only [List.take_length] at HM0
      have HL := Lib.hid (show l.length ≤ 1000 by omega)
      have HT := Lib.hid (show T.length ≤ 1000 by omega)
      clear ht
      obtain ⟨a, e, k1, k9⟩ := word_up 1 (l.map low) kindsL kindsL (by decide) (by decide) rfl
      clear k9
      have K1 := Lib.hid k1
      have K2 := Lib.hid ((congrArg (fun z => upV 1 z kindsL) HM0.out).trans k1)
      clear k1
      cases hm : fd (l.map low) monthsL with
      | none =>
        have M1 := Lib.hid (upV_none (k := 1) hm)
        have M2 := Lib.hid ((congrArg (fun z => upV 1 z monthsL) HM0.out).trans M1.out)
        clear hm
        cases hd : fd (l.map low) weekdaysL with
        | none =>
          have D1 := Lib.hid (fdV_none hd)
          have D2 := Lib.hid ((congrArg (fun z => fdV z weekdaysL) HM0.out).trans D1.out)
          clear hd
          go_wp2_with fail
          refine (month_any l _ (HM.out.below HBr.out) HL.out).mono ?_
          rintro e w1 ⟨rfl, hb⟩
          have HBw1 := Lib.hid (HBr.out.trans (hb.mono HBr.out.size))
          clear hb
          rw [M1.out]
          go_wp2_with fail
          refine (month_any T _ (HM.out.below HBw1.out) HT.out).mono ?_
          rintro e w2 ⟨rfl, hb⟩
          have HBw2 := Lib.hid (HBw1.out.trans (hb.mono HBw1.out.size))
          clear hb
          rw [M2.out]
          go_wp2_with fail
          refine (weekday_any l _ (HW.out.below HBw2.out) HL.out).mono ?_
          rintro e w3 ⟨rfl, hb⟩
          have HBw3 := Lib.hid (HBw2.out.trans (hb.mono HBw2.out.size))
          clear hb
          rw [D1.out]
          go_wp2_with fail
          refine (weekday_any T _ (HW.out.below HBw3.out) HT.out).mono ?_
          rintro e w4 ⟨rfl, hb⟩
          have HBw4 := Lib.hid (HBw3.out.trans (hb.mono HBw3.out.size))
          clear hb
          rw [D2.out]
          go_wp2_with fail
          refine (kind_any l _ HL.out).mono ?_
          rintro e w5 ⟨rfl, hb⟩
          have HBw5 := Lib.hid (HBw4.out.trans (hb.mono HBw4.out.size))
          clear hb
          rw [K1.out]
          go_wp2_with fail
          refine (kind_any T _ HT.out).mono ?_
          rintro e w6 ⟨rfl, hb⟩
          have HBw6 := Lib.hid (HBw5.out.trans (hb.mono HBw5.out.size))
          clear hb
          rw [K2.out]
          go_wp2_with fail
          refine (awake_any _ (HM.out.below HBw6.out)).mono ?_
          rintro e w8 ⟨rfl, hb⟩
          have HBw8 := Lib.hid (HBw6.out.trans (hb.mono HBw6.out.size))
          clear hb
          go_wp2_with fail
          go_ret
          exact ⟨rfl, HBw8.out⟩
        | some j =>
          have D1 := Lib.hid (fdV_some hd)
          have D2 := Lib.hid ((congrArg (fun z => fdV z weekdaysL) HM0.out).trans D1.out)
          have hj9 : j < 7 := fd_lt hd
          have dlen := fd_len hd (weekday_low j hj9)
          rw [List.length_map] at dlen
          have DK := Lib.hid (fun k => fd_take (k := k) weekdays_apart hd (weekday_low j hj9))
          have DS := Lib.hid (weekday_small j hj9)
          have G2 := Lib.hid (fun w => weekdaysS_wl w j hj9)
          have hD9 := weekday_lenS j hj9
          clear hd
          generalize weekdaysS.getD j [] = D at *
          simp only [Nat.zero_add] at G2
          have j0 : 0 ≤ (j : Int) := by omega
          have j1 : (j : Int) < 7 := by omega
          have j2 : min 6 (j : Int) = j := by omega
          have j3 : max 0 (j : Int) = j := by omega
          have j4 : min (j : Int) 6 = j := by omega
          have j5 : max (j : Int) 0 = j := by omega
          clear hj9
          go_wp2_with fail
          refine (month_any l _ (HM.out.below HBr.out) HL.out).mono ?_
          rintro e w1 ⟨rfl, hb⟩
          have HBw1 := Lib.hid (HBr.out.trans (hb.mono HBr.out.size))
          clear hb
          rw [M1.out]
          go_wp2_with fail
          refine (month_any T _ (HM.out.below HBw1.out) HT.out).mono ?_
          rintro e w2 ⟨rfl, hb⟩
          have HBw2 := Lib.hid (HBw1.out.trans (hb.mono HBw1.out.size))
          clear hb
          rw [M2.out]
          go_wp2_with fail
          refine (weekday_any l _ (HW.out.below HBw2.out) HL.out).mono ?_
          rintro e w3 ⟨rfl, hb⟩
          have HBw3 := Lib.hid (HBw2.out.trans (hb.mono HBw2.out.size))
          clear hb
          rw [D1.out]
          go_wp2_with fail
          refine (weekday_any T _ (HW.out.below HBw3.out) HT.out).mono ?_
          rintro e w4 ⟨rfl, hb⟩
          have HBw4 := Lib.hid (HBw3.out.trans (hb.mono HBw3.out.size))
          clear hb
          rw [D2.out]
          go_wp2_with fail
          refine (kind_any l _ HL.out).mono ?_
          rintro e w5 ⟨rfl, hb⟩
          have HBw5 := Lib.hid (HBw4.out.trans (hb.mono HBw4.out.size))
          clear hb
          rw [K1.out]
          go_wp2_with fail
          refine (kind_any T _ HT.out).mono ?_
          rintro e w6 ⟨rfl, hb⟩
          have HBw6 := Lib.hid (HBw5.out.trans (hb.mono HBw5.out.size))
          clear hb
          rw [K2.out]
          go_wp2_with fail
          refine (Weekdays_any _).mono ?_
          rintro e w' ⟨rfl, rfl⟩
          have c9 := G2.out w6
          have HBb := Lib.hid (HBw6.out.alloc HBw6.out.size weekdaysSObj)
          go_wp2_with fail
          clear c9
          go_loopw [25] (fun v wr => ∃ k : Nat, v = .int .i64 k ∧ l.length ≤ k ∧ k ≤ D.length + 1 ∧ Below w.heap.size w wr) (fun v _ => ((D.length : Int) + 1 - intOf v).toNat)
          case atStart => exact ⟨l.length, rfl, by omega, by omega, HBb.out⟩
          case round =>
            obtain ⟨k, rfl, kl, k9, hBb⟩ := hrel
            have HBb2 := Lib.hid hBb
            clear hBb
            by_cases hk : k ≤ D.length
            · have hk2 : (k : Int) ≤ (D.length : Int) := by omega
              have X := ba_take D k
              have E := Lib.hid (show fdV ((D.take k).map low) weekdaysL = .tuple #[.int .i64 (j : Int), .int .i64 0] by
                rw [List.map_take, DS.out]
                exact fdV_some (DK.out k (by rw [List.length_map]; exact kl)))
              have HQ := Lib.hid (show (D.take k).length ≤ 1000 by rw [List.length_take]; omega)
              generalize D.take k = Q at *
              go_wp2_with fail
              refine (weekday_any Q _ (HW.out.below HBb2.out) HQ.out).mono ?_
              rintro e w9 ⟨rfl, hb⟩
              have HBw9 := Lib.hid (HBb2.out.trans (hb.mono HBb2.out.size))
              clear hb
              rw [E.out]
              go_wp2_with fail
              go_roundw
              case rel => exact ⟨k + 1, rfl, by omega, by omega, HBw9.out⟩
              case measure => simp [intOf]; omega
            · have hk2 : (D.length : Int) < (k : Int) := by omega
              go_wp2_with fail
              refine (awake_any _ (HM.out.below HBb2.out)).mono ?_
              rintro e w8 ⟨rfl, hb⟩
              have HBw8 := Lib.hid (HBb2.out.trans (hb.mono HBb2.out.size))
              clear hb
              go_wp2_with fail
              go_ret
              exact ⟨rfl, HBw8.out⟩
      | some i =>
        have M1 := Lib.hid (upV_some (k := 1) hm)
        have M2 := Lib.hid ((congrArg (fun z => upV 1 z monthsL) HM0.out).trans M1.out)
        have hi9 : i < 12 := fd_lt hm
        have mlen := fd_len hm (month_low i hi9)
        rw [List.length_map] at mlen
        have MK := Lib.hid (fun k => fd_take (k := k) months_apart hm (month_low i hi9))
        have MS := Lib.hid (month_small i hi9)
        have G1 := Lib.hid (fun w => monthsS_wl w i hi9)
        have hS9 := month_lenS i hi9
        clear hm
        generalize monthsS.getD i [] = S at *
        simp only [Nat.zero_add] at G1
        have i0 : 0 ≤ (i : Int) := by omega
        have i1 : (i : Int) < 12 := by omega
        have k1 : min 12 ((i : Int) + 1) = i + 1 := by omega
        have k2 : max 1 ((i : Int) + 1) = i + 1 := by omega
        have k3 : min ((i : Int) + 1) 12 = i + 1 := by omega
        have k4 : max ((i : Int) + 1) 1 = i + 1 := by omega
        clear hi9
        cases hd : fd (l.map low) weekdaysL with
        | none =>
          have D1 := Lib.hid (fdV_none hd)
          have D2 := Lib.hid ((congrArg (fun z => fdV z weekdaysL) HM0.out).trans D1.out)
          clear hd
          go_wp2_with fail
          refine (month_any l _ (HM.out.below HBr.out) HL.out).mono ?_
          rintro e w1 ⟨rfl, hb⟩
          have HBw1 := Lib.hid (HBr.out.trans (hb.mono HBr.out.size))
          clear hb
          rw [M1.out]
          go_wp2_with fail
          refine (month_any T _ (HM.out.below HBw1.out) HT.out).mono ?_
          rintro e w2 ⟨rfl, hb⟩
          have HBw2 := Lib.hid (HBw1.out.trans (hb.mono HBw1.out.size))
          clear hb
          rw [M2.out]
          go_wp2_with fail
          refine (weekday_any l _ (HW.out.below HBw2.out) HL.out).mono ?_
          rintro e w3 ⟨rfl, hb⟩
          have HBw3 := Lib.hid (HBw2.out.trans (hb.mono HBw2.out.size))
          clear hb
          rw [D1.out]
          go_wp2_with fail
          refine (weekday_any T _ (HW.out.below HBw3.out) HT.out).mono ?_
          rintro e w4 ⟨rfl, hb⟩
          have HBw4 := Lib.hid (HBw3.out.trans (hb.mono HBw3.out.size))
          clear hb
          rw [D2.out]
          go_wp2_with fail
          refine (kind_any l _ HL.out).mono ?_
          rintro e w5 ⟨rfl, hb⟩
          have HBw5 := Lib.hid (HBw4.out.trans (hb.mono HBw4.out.size))
          clear hb
          rw [K1.out]
          go_wp2_with fail
          refine (kind_any T _ HT.out).mono ?_
          rintro e w6 ⟨rfl, hb⟩
          have HBw6 := Lib.hid (HBw5.out.trans (hb.mono HBw5.out.size))
          clear hb
          rw [K2.out]
          go_wp2_with fail
          refine (Months_any _).mono ?_
          rintro e w' ⟨rfl, rfl⟩
          have c9 := G1.out w6
          have HBa := Lib.hid (HBw6.out.alloc HBw6.out.size monthsSObj)
          go_wp2_with fail
          clear c9
          go_loopw [21] (fun v wr => ∃ k : Nat, v = .int .i64 k ∧ l.length ≤ k ∧ k ≤ S.length + 1 ∧ Below w.heap.size w wr) (fun v _ => ((S.length : Int) + 1 - intOf v).toNat)
          case atStart => exact ⟨l.length, rfl, by omega, by omega, HBa.out⟩
          case round =>
            obtain ⟨k, rfl, kl, k9, hBa⟩ := hrel
            have HBa2 := Lib.hid hBa
            clear hBa
            by_cases hk : k ≤ S.length
            · have hk2 : (k : Int) ≤ (S.length : Int) := by omega
              have X := ba_take S k
              have E := Lib.hid (show upV 1 ((S.take k).map low) monthsL = .tuple #[.int .i64 ((i : Int) + 1), .int .i64 0] by
                rw [List.map_take, MS.out]
                exact upV_some (k := 1) (MK.out k (by rw [List.length_map]; exact kl)))
              have HQ := Lib.hid (show (S.take k).length ≤ 1000 by rw [List.length_take]; omega)
              generalize S.take k = Q at *
              go_wp2_with fail
              refine (month_any Q _ (HM.out.below HBa2.out) HQ.out).mono ?_
              rintro e w9 ⟨rfl, hb⟩
              have HBw9 := Lib.hid (HBa2.out.trans (hb.mono HBa2.out.size))
              clear hb
              rw [E.out]
              go_wp2_with fail
              go_roundw
              case rel => exact ⟨k + 1, rfl, by omega, by omega, HBw9.out⟩
              case measure => simp [intOf]; omega
            · have hk2 : (S.length : Int) < (k : Int) := by omega
              go_wp2_with fail
              refine (awake_any _ (HM.out.below HBa2.out)).mono ?_
              rintro e w8 ⟨rfl, hb⟩
              have HBw8 := Lib.hid (HBa2.out.trans (hb.mono HBa2.out.size))
              clear hb
              go_wp2_with fail
              go_ret
              exact ⟨rfl, HBw8.out⟩
        | some j =>
          have D1 := Lib.hid (fdV_some hd)
          have D2 := Lib.hid ((congrArg (fun z => fdV z weekdaysL) HM0.out).trans D1.out)
          have hj9 : j < 7 := fd_lt hd
          have dlen := fd_len hd (weekday_low j hj9)
          rw [List.length_map] at dlen
          have DK := Lib.hid (fun k => fd_take (k := k) weekdays_apart hd (weekday_low j hj9))
          have DS := Lib.hid (weekday_small j hj9)
          have G2 := Lib.hid (fun w => weekdaysS_wl w j hj9)
          have hD9 := weekday_lenS j hj9
          clear hd
          generalize weekdaysS.getD j [] = D at *
          simp only [Nat.zero_add] at G2
          have j0 : 0 ≤ (j : Int) := by omega
          have j1 : (j : Int) < 7 := by omega
          have j2 : min 6 (j : Int) = j := by omega
          have j3 : max 0 (j : Int) = j := by omega
          have j4 : min (j : Int) 6 = j := by omega
          have j5 : max (j : Int) 0 = j := by omega
          clear hj9
          go_wp2_with fail
          refine (month_any l _ (HM.out.below HBr.out) HL.out).mono ?_
          rintro e w1 ⟨rfl, hb⟩
          have HBw1 := Lib.hid (HBr.out.trans (hb.mono HBr.out.size))
          clear hb
          rw [M1.out]
          go_wp2_with fail
          refine (month_any T _ (HM.out.below HBw1.out) HT.out).mono ?_
          rintro e w2 ⟨rfl, hb⟩
          have HBw2 := Lib.hid (HBw1.out.trans (hb.mono HBw1.out.size))
          clear hb
          rw [M2.out]
          go_wp2_with fail
          refine (weekday_any l _ (HW.out.below HBw2.out) HL.out).mono ?_
          rintro e w3 ⟨rfl, hb⟩
          have HBw3 := Lib.hid (HBw2.out.trans (hb.mono HBw2.out.size))
          clear hb
          rw [D1.out]
          go_wp2_with fail
          refine (weekday_any T _ (HW.out.below HBw3.out) HT.out).mono ?_
          rintro e w4 ⟨rfl, hb⟩
          have HBw4 := Lib.hid (HBw3.out.trans (hb.mono HBw3.out.size))
          clear hb
          rw [D2.out]
          go_wp2_with fail
          refine (kind_any l _ HL.out).mono ?_
          rintro e w5 ⟨rfl, hb⟩
          have HBw5 := Lib.hid (HBw4.out.trans (hb.mono HBw4.out.size))
          clear hb
          rw [K1.out]
          go_wp2_with fail
          refine (kind_any T _ HT.out).mono ?_
          rintro e w6 ⟨rfl, hb⟩
          have HBw6 := Lib.hid (HBw5.out.trans (hb.mono HBw5.out.size))
          clear hb
          rw [K2.out]
          go_wp2_with fail
          refine (Months_any _).mono ?_
          rintro e w' ⟨rfl, rfl⟩
          have c9 := G1.out w6
          have HBa := Lib.hid (HBw6.out.alloc HBw6.out.size monthsSObj)
          go_wp2_with fail
          clear c9
          go_loopw [21] (fun v wr => ∃ k : Nat, v = .int .i64 k ∧ l.length ≤ k ∧ k ≤ S.length + 1 ∧ Below w.heap.size w wr) (fun v _ => ((S.length : Int) + 1 - intOf v).toNat)
          case atStart => exact ⟨l.length, rfl, by omega, by omega, HBa.out⟩
          case round =>
            obtain ⟨k, rfl, kl, k9, hBa⟩ := hrel
            have HBa2 := Lib.hid hBa
            clear hBa
            by_cases hk : k ≤ S.length
            · have hk2 : (k : Int) ≤ (S.length : Int) := by omega
              have X := ba_take S k
              have E := Lib.hid (show upV 1 ((S.take k).map low) monthsL = .tuple #[.int .i64 ((i : Int) + 1), .int .i64 0] by
                rw [List.map_take, MS.out]
                exact upV_some (k := 1) (MK.out k (by rw [List.length_map]; exact kl)))
              have HQ := Lib.hid (show (S.take k).length ≤ 1000 by rw [List.length_take]; omega)
              generalize S.take k = Q at *
              go_wp2_with fail
              refine (month_any Q _ (HM.out.below HBa2.out) HQ.out).mono ?_
              rintro e w9 ⟨rfl, hb⟩
              have HBw9 := Lib.hid (HBa2.out.trans (hb.mono HBa2.out.size))
              clear hb
              rw [E.out]
              go_wp2_with fail
              go_roundw
              case rel => exact ⟨k + 1, rfl, by omega, by omega, HBw9.out⟩
              case measure => simp [intOf]; omega
            · have hk2 : (S.length : Int) < (k : Int) := by omega
              go_wp2_with fail
              refine (Weekdays_any _).mono ?_
              rintro e w' ⟨rfl, rfl⟩
              have c9 := G2.out wr
              have HBb := Lib.hid (HBa2.out.alloc HBa2.out.size weekdaysSObj)
              go_wp2_with fail
              clear c9
              go_loopw [25] (fun v wr => ∃ k : Nat, v = .int .i64 k ∧ l.length ≤ k ∧ k ≤ D.length + 1 ∧ Below w.heap.size w wr) (fun v _ => ((D.length : Int) + 1 - intOf v).toNat)
              case atStart => exact ⟨l.length, rfl, by omega, by omega, HBb.out⟩
              case round =>
                obtain ⟨k, rfl, kl, k9, hBb⟩ := hrel
                have HBb2 := Lib.hid hBb
                clear hBb
                by_cases hk : k ≤ D.length
                · have hk2 : (k : Int) ≤ (D.length : Int) := by omega
                  have X := ba_take D k
                  have E := Lib.hid (show fdV ((D.take k).map low) weekdaysL = .tuple #[.int .i64 (j : Int), .int .i64 0] by
                    rw [List.map_take, DS.out]
                    exact fdV_some (DK.out k (by rw [List.length_map]; exact kl)))
                  have HQ := Lib.hid (show (D.take k).length ≤ 1000 by rw [List.length_take]; omega)
                  generalize D.take k = Q at *
                  go_wp2_with fail
                  refine (weekday_any Q _ (HW.out.below HBb2.out) HQ.out).mono ?_
                  rintro e w9 ⟨rfl, hb⟩
                  have HBw9 := Lib.hid (HBb2.out.trans (hb.mono HBb2.out.size))
                  clear hb
                  rw [E.out]
                  go_wp2_with fail
                  go_roundw
                  case rel => exact ⟨k + 1, rfl, by omega, by omega, HBw9.out⟩
                  case measure => simp [intOf]; omega
                · have hk2 : (D.length : Int) < (k : Int) := by omega
                  go_wp2_with fail
                  refine (awake_any _ (HM.out.below HBb2.out)).mono ?_
                  rintro e w8 ⟨rfl, hb⟩
                  have HBw8 := Lib.hid (HBb2.out.trans (hb.mono HBb2.out.size))
                  clear hb
                  go_wp2_with fail
                  go_ret
                  exact ⟨rfl, HBw8.out⟩
set_option maxRecDepth 100000 in
theorem walk_big (l : List UInt8) (mask : Int) (w : World) (hM : Mon w) (hl : 40 < l.length) : Calls Tryd.prog 6 #[.string ⟨l.toArray⟩, .int .i64 mask] w (One w) := by
  have HM := Lib.hid hM
  have HBw := Lib.hid (Below.refl w.heap.size w)
  have hl2 : 40 < (l.length : Int) := by omega
  clear hM
  go_enter Tryd.func6, Tryd.ntmps6
  go_wp2_with fail
  refine (awake_any _ (HM.out.below HBw.out)).mono ?_
  rintro e w8 ⟨rfl, hb⟩
  have HBw8 := Lib.hid (HBw.out.trans (hb.mono HBw.out.size))
  clear hb
  go_wp2_with fail
  go_ret
  exact ⟨rfl, HBw8.out⟩
end wordsShort
end Go.Proofs.YtcfcfoiphadmkaaDoor
