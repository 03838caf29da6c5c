/-
  THE WALK of civil.Of: which date a day is.
-/
import Derived.Test.YtmkbfjklhejdnaaDoorCivDays
namespace Go.Proofs.YtmkbfjklhejdnaaDoor
open Go Go.RowKit CivM NumM

theorem of_no (n : Int) (w : World) (hn : Fits n) (h : ¬ (-37243778 ≤ n ∧ n ≤ 35805087)) :
    Calls Tryd.prog 30 #[.int .i64 n] w fun e w' => e = .returned (.tuple #[.agg #[.int .i64 0, .int .i64 0, .int .i64 0], .int .i64 10]) ∧ Below w.heap.size w w' := by
  have E1 := Lib.hid dy_lo
  have E2 := Lib.hid dy_hi
  have hn' := hn
  unfold Fits at hn'
  clear hn
  go_enter Tryd.func30, Tryd.ntmps30
  by_cases h1 : n < -37243778
  · clear h
    go_wp2_with fail
    refine (year_any (-100000) _ (by omega) (by omega)).mono ?_
    rintro e w' ⟨rfl, rfl⟩
    rw [E1.out]
    go_wp2_with fail
    refine ret_row_tmp (B := w.heap.size) _ rfl rfl rfl (Dt.new w 0 0 0) Tryd.underlying31 rfl szD ⟨rfl, (Below.refl _ _).alloc (Nat.le_refl _) _⟩
  · have h2 : 35805088 ≤ n := by omega
    clear h
    go_wp2_with fail
    refine (year_any (-100000) _ (by omega) (by omega)).mono ?_
    rintro e w' ⟨rfl, rfl⟩
    rw [E1.out]
    go_wp2_with fail
    refine (year_any 100001 _ (by omega) (by omega)).mono ?_
    rintro e w' ⟨rfl, rfl⟩
    rw [E2.out]
    go_wp2_with fail
    refine ret_row_tmp (B := w.heap.size) _ rfl rfl rfl (Dt.new w 0 0 0) Tryd.underlying31 rfl szD ⟨rfl, (Below.refl _ _).alloc (Nat.le_refl _) _⟩
set_option maxHeartbeats 1000000 in
theorem of_ok (y m d : Int) (w : World) (hA : Ahead w) (h : Valid y m d) :
    Calls Tryd.prog 30 #[.int .i64 (num y m d)] w fun e w' => e = .returned (.tuple #[.agg #[.int .i64 y, .int .i64 m, .int .i64 d], .int .i64 0]) ∧ Below w.heap.size w w' := by
  have E1 := Lib.hid dy_lo
  have E2 := Lib.hid dy_hi
  have HN := Lib.hid (fun y' m' d' => @num_inj y' m' d' y m d)
  have HV := Lib.hid h
  have HAw := Lib.hid hA
  have hb := num_bd h
  obtain ⟨b1, b2⟩ := hb
  generalize num y m d = D at *
  have HF := Lib.hid (show Fits (D + 719162) from ⟨by omega, by omega⟩)
  clear h hA
  go_enter Tryd.func30, Tryd.ntmps30
  go_wp2_with fail
  refine (year_any (-100000) _ (by omega) (by omega)).mono ?_
  rintro e w' ⟨rfl, rfl⟩
  rw [E1.out]
  go_wp2_with fail
  refine (year_any 100001 _ (by omega) (by omega)).mono ?_
  rintro e w' ⟨rfl, rfl⟩
  rw [E2.out]
  go_wp2_with fail
  refine (floor_pos (D + 719162) 146097 _ HF.out (by omega)).mono ?_
  rintro e w' ⟨rfl, rfl⟩
  obtain ⟨c, hc⟩ : ∃ c, (D + 719162) / 146097 = c := ⟨_, rfl⟩
  have k1 : 146097 * c ≤ D + 719162 := by omega
  have k2 : D + 719162 < 146097 * c + 146097 := by omega
  rw [hc]
  clear hc
  go_wp2_with fail
  · have h5 : (D + 719162 - c * 146097) / 36524 ≤ 4 := by omega
    have F := year_of (D + 719162) c 3 ((D + 719162 - c * 146097 - 109572) / 1461) 3 (D + 719162 - c * 146097 - 109572 - (D + 719162 - c * 146097 - 109572) / 1461 * 1461 - 1095) (by omega) (by omega) (by omega) (by omega) (by omega) (by omega)
    obtain ⟨Y, hY⟩ : ∃ Y, c * 400 + 300 + (D + 719162 - c * 146097 - 109572) / 1461 * 4 + 3 + 1 = Y := ⟨_, rfl⟩
    obtain ⟨r, hr⟩ : ∃ r, D + 719162 - c * 146097 - 109572 - (D + 719162 - c * 146097 - 109572) / 1461 * 1461 - 1095 = r := ⟨_, rfl⟩
    have e0 : ∀ z, z = Y → dy z + 719162 + r = D + 719162 ∧ r < 365 + lp z → dy Y + r = D ∧ r < 365 + lp Y := fun z hz h => by subst hz; exact ⟨by omega, h.2⟩
    rw [hr] at F
    have F2 := e0 _ (by rw [← hY]; omega) F
    have r0 : 0 ≤ r := by rw [← hr]; omega
    rw [hY, hr]
    clear e0 F hY hr
    obtain ⟨F1, F2⟩ := F2
    have L := lp_01 Y
    obtain ⟨L1, L2⟩ := L
    have Y1 : -200000 ≤ Y := by unfold dy at F1; omega
    have Y2 : Y ≤ 200000 := by unfold dy at F1; omega
    clear k1 k2
    go_loopw [67] (fun _ wr => ∃ k : Int, 1 ≤ k ∧ k ≤ 12 ∧ r < cum Y k + dim Y k ∧ Dt wr (w.heap.size + 1) Y k 0 ∧ Dt wr w.heap.size 0 0 0 ∧ Below w.heap.size w wr) (fun _ wr => (intOf ((wr.cell? ⟨w.heap.size + 1, 1, none⟩).getD undef)).toNat)
    case atStart =>
      refine ⟨12, by omega, by omega, ?_, ?_, (Dt.new w 0 0 0).alloc _, ((Below.refl w.heap.size w).alloc (Nat.le_refl _) _).alloc (by simp) _⟩
      · have := cum_succ Y 12 (by omega) (by omega)
        rw [show (12 : Int) + 1 = 13 from rfl, cum_13] at this
        omega
      · have := Dt.new (w.alloc (.cells #[.int .i64 0, .int .i64 0, .int .i64 0] 31)) Y 12 0
        simpa using this
    case round =>
      obtain ⟨k, q1, q2, q3, hD, hZ, hB⟩ := hrel
      have HD := Lib.hid hD
      have HZ := Lib.hid hZ
      have HB := Lib.hid hB
      have HAr := Lib.hid (HAw.out.below hB)
      have C := cum_bd Y k q1 q2
      obtain ⟨C1, C2, C3⟩ := C
      clear hD hZ hB
      obtain ⟨c0, c1, c2⟩ := HD.out.cells
      have f1 := HD.out.free 1
      have f2 := HD.out.free 2
      by_cases hk : r < cum Y k
      · have q4 : 2 ≤ k := by
          refine Classical.byContradiction fun hn => ?_
          obtain rfl : k = 1 := by omega
          rw [cum_1] at hk
          omega
        have q5 := cum_succ Y (k - 1) (by omega) (by omega)
        rw [show k - 1 + 1 = k by omega] at q5
        have Q5 := Lib.hid (show r < cum Y (k - 1) + dim Y (k - 1) by omega)
        clear q5
        go_wp2_with fail
        refine (start_any Y k _ HAr.out q1 q2).mono ?_
        rintro e w' ⟨rfl, rfl⟩
        go_wp2_with fail
        go_roundw
        case rel => exact ⟨k - 1, by omega, by omega, Q5.out, HD.out.set1 _, HZ.out.far (by simp) _, HB.out.setCell (by simp) _⟩
        case measure =>
          have e1 := (HD.out.set1 (k - 1)).cells.2.1
          rw [e1, c1]
          simp [intOf]; omega
      · go_wp2_with fail
        refine (start_any Y k _ HAr.out q1 q2).mono ?_
        rintro e w' ⟨rfl, rfl⟩
        go_wp2_with fail
        refine (start_any Y k _ HAr.out q1 q2).mono ?_
        rintro e w' ⟨rfl, rfl⟩
        have HD2 := Lib.hid (HD.out.set2 (r - cum Y k + 1))
        have HZ2 := Lib.hid (HZ.out.far (p := ⟨w.heap.size + 1, 2, none⟩) (by simp) (.int .i64 (r - cum Y k + 1)))
        have HB2 := Lib.hid (HB.out.setCell (p := ⟨w.heap.size + 1, 2, none⟩) (by simp) (.int .i64 (r - cum Y k + 1)))
        go_wp2_with (first | refine wpList_load_dt rfl _ rfl (w.heap.size + 1) (by rfl) HD2.out ?_ | (refine wpList_store_dt rfl _ _ rfl w.heap.size Y k (r - cum Y k + 1) (by rfl) (by rfl) HZ2.out HB2.out (Nat.le_refl _) ?_; intro W HW _ _ HBW))
        obtain ⟨V1, V2⟩ := date_of D Y r k ⟨b1, b2⟩ F1 r0 F2 q1 q2 (by omega) q3
        obtain ⟨rfl, rfl, rfl⟩ := HN.out _ _ _ V1 HV.out V2
        refine ret_row_tmp (B := w.heap.size) _ rfl rfl rfl HW Tryd.underlying31 rfl szD ⟨rfl, HBW⟩
  · have F := year_of (D + 719162) c ((D + 719162 - c * 146097) / 36524) ((D + 719162 - c * 146097 - (D + 719162 - c * 146097) / 36524 * 36524) / 1461) 3 (D + 719162 - c * 146097 - (D + 719162 - c * 146097) / 36524 * 36524 - (D + 719162 - c * 146097 - (D + 719162 - c * 146097) / 36524 * 36524) / 1461 * 1461 - 1095) (by omega) (by omega) (by omega) (by omega) (by omega) (by omega)
    obtain ⟨Y, hY⟩ : ∃ Y, c * 400 + (D + 719162 - c * 146097) / 36524 * 100 + (D + 719162 - c * 146097 - (D + 719162 - c * 146097) / 36524 * 36524) / 1461 * 4 + 3 + 1 = Y := ⟨_, rfl⟩
    obtain ⟨r, hr⟩ : ∃ r, D + 719162 - c * 146097 - (D + 719162 - c * 146097) / 36524 * 36524 - (D + 719162 - c * 146097 - (D + 719162 - c * 146097) / 36524 * 36524) / 1461 * 1461 - 1095 = r := ⟨_, rfl⟩
    have e0 : ∀ z, z = Y → dy z + 719162 + r = D + 719162 ∧ r < 365 + lp z → dy Y + r = D ∧ r < 365 + lp Y := fun z hz h => by subst hz; exact ⟨by omega, h.2⟩
    rw [hr] at F
    have F2 := e0 _ (by rw [← hY]; omega) F
    have r0 : 0 ≤ r := by rw [← hr]; omega
    rw [hY, hr]
    clear e0 F hY hr
    obtain ⟨F1, F2⟩ := F2
    have L := lp_01 Y
    obtain ⟨L1, L2⟩ := L
    have Y1 : -200000 ≤ Y := by unfold dy at F1; omega
    have Y2 : Y ≤ 200000 := by unfold dy at F1; omega
    clear k1 k2
    go_loopw [67] (fun _ wr => ∃ k : Int, 1 ≤ k ∧ k ≤ 12 ∧ r < cum Y k + dim Y k ∧ Dt wr (w.heap.size + 1) Y k 0 ∧ Dt wr w.heap.size 0 0 0 ∧ Below w.heap.size w wr) (fun _ wr => (intOf ((wr.cell? ⟨w.heap.size + 1, 1, none⟩).getD undef)).toNat)
    case atStart =>
      refine ⟨12, by omega, by omega, ?_, ?_, (Dt.new w 0 0 0).alloc _, ((Below.refl w.heap.size w).alloc (Nat.le_refl _) _).alloc (by simp) _⟩
      · have := cum_succ Y 12 (by omega) (by omega)
        rw [show (12 : Int) + 1 = 13 from rfl, cum_13] at this
        omega
      · have := Dt.new (w.alloc (.cells #[.int .i64 0, .int .i64 0, .int .i64 0] 31)) Y 12 0
        simpa using this
    case round =>
      obtain ⟨k, q1, q2, q3, hD, hZ, hB⟩ := hrel
      have HD := Lib.hid hD
      have HZ := Lib.hid hZ
      have HB := Lib.hid hB
      have HAr := Lib.hid (HAw.out.below hB)
      have C := cum_bd Y k q1 q2
      obtain ⟨C1, C2, C3⟩ := C
      clear hD hZ hB
      obtain ⟨c0, c1, c2⟩ := HD.out.cells
      have f1 := HD.out.free 1
      have f2 := HD.out.free 2
      by_cases hk : r < cum Y k
      · have q4 : 2 ≤ k := by
          refine Classical.byContradiction fun hn => ?_
          obtain rfl : k = 1 := by omega
          rw [cum_1] at hk
          omega
        have q5 := cum_succ Y (k - 1) (by omega) (by omega)
        rw [show k - 1 + 1 = k by omega] at q5
        have Q5 := Lib.hid (show r < cum Y (k - 1) + dim Y (k - 1) by omega)
        clear q5
        go_wp2_with fail
        refine (start_any Y k _ HAr.out q1 q2).mono ?_
        rintro e w' ⟨rfl, rfl⟩
        go_wp2_with fail
        go_roundw
        case rel => exact ⟨k - 1, by omega, by omega, Q5.out, HD.out.set1 _, HZ.out.far (by simp) _, HB.out.setCell (by simp) _⟩
        case measure =>
          have e1 := (HD.out.set1 (k - 1)).cells.2.1
          rw [e1, c1]
          simp [intOf]; omega
      · go_wp2_with fail
        refine (start_any Y k _ HAr.out q1 q2).mono ?_
        rintro e w' ⟨rfl, rfl⟩
        go_wp2_with fail
        refine (start_any Y k _ HAr.out q1 q2).mono ?_
        rintro e w' ⟨rfl, rfl⟩
        have HD2 := Lib.hid (HD.out.set2 (r - cum Y k + 1))
        have HZ2 := Lib.hid (HZ.out.far (p := ⟨w.heap.size + 1, 2, none⟩) (by simp) (.int .i64 (r - cum Y k + 1)))
        have HB2 := Lib.hid (HB.out.setCell (p := ⟨w.heap.size + 1, 2, none⟩) (by simp) (.int .i64 (r - cum Y k + 1)))
        go_wp2_with (first | refine wpList_load_dt rfl _ rfl (w.heap.size + 1) (by rfl) HD2.out ?_ | (refine wpList_store_dt rfl _ _ rfl w.heap.size Y k (r - cum Y k + 1) (by rfl) (by rfl) HZ2.out HB2.out (Nat.le_refl _) ?_; intro W HW _ _ HBW))
        obtain ⟨V1, V2⟩ := date_of D Y r k ⟨b1, b2⟩ F1 r0 F2 q1 q2 (by omega) q3
        obtain ⟨rfl, rfl, rfl⟩ := HN.out _ _ _ V1 HV.out V2
        refine ret_row_tmp (B := w.heap.size) _ rfl rfl rfl HW Tryd.underlying31 rfl szD ⟨rfl, HBW⟩
  · have F := year_of (D + 719162) c ((D + 719162 - c * 146097) / 36524) ((D + 719162 - c * 146097 - (D + 719162 - c * 146097) / 36524 * 36524) / 1461) ((D + 719162 - c * 146097 - (D + 719162 - c * 146097) / 36524 * 36524 - (D + 719162 - c * 146097 - (D + 719162 - c * 146097) / 36524 * 36524) / 1461 * 1461) / 365) (D + 719162 - c * 146097 - (D + 719162 - c * 146097) / 36524 * 36524 - (D + 719162 - c * 146097 - (D + 719162 - c * 146097) / 36524 * 36524) / 1461 * 1461 - (D + 719162 - c * 146097 - (D + 719162 - c * 146097) / 36524 * 36524 - (D + 719162 - c * 146097 - (D + 719162 - c * 146097) / 36524 * 36524) / 1461 * 1461) / 365 * 365) (by omega) (by omega) (by omega) (by omega) (by omega) (by omega)
    obtain ⟨Y, hY⟩ : ∃ Y, c * 400 + (D + 719162 - c * 146097) / 36524 * 100 + (D + 719162 - c * 146097 - (D + 719162 - c * 146097) / 36524 * 36524) / 1461 * 4 + (D + 719162 - c * 146097 - (D + 719162 - c * 146097) / 36524 * 36524 - (D + 719162 - c * 146097 - (D + 719162 - c * 146097) / 36524 * 36524) / 1461 * 1461) / 365 + 1 = Y := ⟨_, rfl⟩
    obtain ⟨r, hr⟩ : ∃ r, D + 719162 - c * 146097 - (D + 719162 - c * 146097) / 36524 * 36524 - (D + 719162 - c * 146097 - (D + 719162 - c * 146097) / 36524 * 36524) / 1461 * 1461 - (D + 719162 - c * 146097 - (D + 719162 - c * 146097) / 36524 * 36524 - (D + 719162 - c * 146097 - (D + 719162 - c * 146097) / 36524 * 36524) / 1461 * 1461) / 365 * 365 = r := ⟨_, rfl⟩
    have e0 : ∀ z, z = Y → dy z + 719162 + r = D + 719162 ∧ r < 365 + lp z → dy Y + r = D ∧ r < 365 + lp Y := fun z hz h => by subst hz; exact ⟨by omega, h.2⟩
    rw [hr] at F
    have F2 := e0 _ (by rw [← hY]; omega) F
    have r0 : 0 ≤ r := by rw [← hr]; omega
    rw [hY, hr]
    clear e0 F hY hr
    obtain ⟨F1, F2⟩ := F2
    have L := lp_01 Y
    obtain ⟨L1, L2⟩ := L
    have Y1 : -200000 ≤ Y := by unfold dy at F1; omega
    have Y2 : Y ≤ 200000 := by unfold dy at F1; omega
    clear k1 k2
    go_loopw [67] (fun _ wr => ∃ k : Int, 1 ≤ k ∧ k ≤ 12 ∧ r < cum Y k + dim Y k ∧ Dt wr (w.heap.size + 1) Y k 0 ∧ Dt wr w.heap.size 0 0 0 ∧ Below w.heap.size w wr) (fun _ wr => (intOf ((wr.cell? ⟨w.heap.size + 1, 1, none⟩).getD undef)).toNat)
    case atStart =>
      refine ⟨12, by omega, by omega, ?_, ?_, (Dt.new w 0 0 0).alloc _, ((Below.refl w.heap.size w).alloc (Nat.le_refl _) _).alloc (by simp) _⟩
      · have := cum_succ Y 12 (by omega) (by omega)
        rw [show (12 : Int) + 1 = 13 from rfl, cum_13] at this
        omega
      · have := Dt.new (w.alloc (.cells #[.int .i64 0, .int .i64 0, .int .i64 0] 31)) Y 12 0
        simpa using this
    case round =>
      obtain ⟨k, q1, q2, q3, hD, hZ, hB⟩ := hrel
      have HD := Lib.hid hD
      have HZ := Lib.hid hZ
      have HB := Lib.hid hB
      have HAr := Lib.hid (HAw.out.below hB)
      have C := cum_bd Y k q1 q2
      obtain ⟨C1, C2, C3⟩ := C
      clear hD hZ hB
      obtain ⟨c0, c1, c2⟩ := HD.out.cells
      have f1 := HD.out.free 1
      have f2 := HD.out.free 2
      by_cases hk : r < cum Y k
      · have q4 : 2 ≤ k := by
          refine Classical.byContradiction fun hn => ?_
          obtain rfl : k = 1 := by omega
          rw [cum_1] at hk
          omega
        have q5 := cum_succ Y (k - 1) (by omega) (by omega)
        rw [show k - 1 + 1 = k by omega] at q5
        have Q5 := Lib.hid (show r < cum Y (k - 1) + dim Y (k - 1) by omega)
        clear q5
        go_wp2_with fail
        refine (start_any Y k _ HAr.out q1 q2).mono ?_
        rintro e w' ⟨rfl, rfl⟩
        go_wp2_with fail
        go_roundw
        case rel => exact ⟨k - 1, by omega, by omega, Q5.out, HD.out.set1 _, HZ.out.far (by simp) _, HB.out.setCell (by simp) _⟩
        case measure =>
          have e1 := (HD.out.set1 (k - 1)).cells.2.1
          rw [e1, c1]
          simp [intOf]; omega
      · go_wp2_with fail
        refine (start_any Y k _ HAr.out q1 q2).mono ?_
        rintro e w' ⟨rfl, rfl⟩
        go_wp2_with fail
        refine (start_any Y k _ HAr.out q1 q2).mono ?_
        rintro e w' ⟨rfl, rfl⟩
        have HD2 := Lib.hid (HD.out.set2 (r - cum Y k + 1))
        have HZ2 := Lib.hid (HZ.out.far (p := ⟨w.heap.size + 1, 2, none⟩) (by simp) (.int .i64 (r - cum Y k + 1)))
        have HB2 := Lib.hid (HB.out.setCell (p := ⟨w.heap.size + 1, 2, none⟩) (by simp) (.int .i64 (r - cum Y k + 1)))
        go_wp2_with (first | refine wpList_load_dt rfl _ rfl (w.heap.size + 1) (by rfl) HD2.out ?_ | (refine wpList_store_dt rfl _ _ rfl w.heap.size Y k (r - cum Y k + 1) (by rfl) (by rfl) HZ2.out HB2.out (Nat.le_refl _) ?_; intro W HW _ _ HBW))
        obtain ⟨V1, V2⟩ := date_of D Y r k ⟨b1, b2⟩ F1 r0 F2 q1 q2 (by omega) q3
        obtain ⟨rfl, rfl, rfl⟩ := HN.out _ _ _ V1 HV.out V2
        refine ret_row_tmp (B := w.heap.size) _ rfl rfl rfl HW Tryd.underlying31 rfl szD ⟨rfl, HBW⟩
end Go.Proofs.YtmkbfjklhejdnaaDoor
