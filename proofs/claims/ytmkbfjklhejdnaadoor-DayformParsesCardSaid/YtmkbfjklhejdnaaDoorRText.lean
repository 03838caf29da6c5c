/-
  THE WALK of the document's Text.
-/
import Derived.Test.YtmkbfjklhejdnaaDoorRName
import Derived.Deep.RegionWith
namespace Go.Proofs.YtmkbfjklhejdnaaDoor
open Go Go.RowKit CivM NumM
/-- a byte that is a digit -/
theorem dig_ex (r : Int) (h0 : 0 ≤ r) (h1 : r ≤ 9) : ∃ x : UInt8, 48 + r = x.toNat ∧ x = UInt8.ofNat (48 + r.toNat) := ⟨_, by simp; omega, rfl⟩
theorem dec_small {u : Nat} (h : u < 10) : Lib.decDigits u = [UInt8.ofNat (48 + u)] := Lib.decDigits_one h
theorem dec_two {u : Nat} (h : 10 ≤ u) (h2 : u < 100) : Lib.decDigits u = [UInt8.ofNat (48 + u / 10), UInt8.ofNat (48 + u % 10)] := by
  rw [Lib.decDigits, dif_neg (by omega), Lib.decDigits_one (by omega)]
  rfl
theorem wd_any (i : Nat) (w : World) {v : World} {B : Nat} {t : TypeId} {a b c : Int} {N : Nat} {S : List UInt8} (hS : weekdaysS.getD i [] = S) (hN : w.heap.size = N) (hi : i < 7) (hb : Below v.heap.size v w) (hd : v.heap[B]? = some (.cells #[.int .i64 a, .int .i64 b, .int .i64 c] t (0, 0))) :
    Calls Tryd.prog 27 #[] w fun e w' => e = .returned (.slice (some ⟨N, 0, none⟩) 7 7) ∧ w'.cell? ⟨N, i, none⟩ = some (.string ⟨S.toArray⟩) ∧ w'.cell? ⟨B, 0, none⟩ = some (.int .i64 a) ∧ w'.cell? ⟨B, 1, none⟩ = some (.int .i64 b) ∧ w'.cell? ⟨B, 2, none⟩ = some (.int .i64 c) ∧ w'.heap.size = N + 1 ∧ Below v.heap.size v w' := by
  subst hN
  refine (Weekdays_any w).mono ?_
  rintro e w' ⟨rfl, rfl⟩
  have h1 : Below v.heap.size v (w.alloc weekdaysSObj) := hb.alloc hb.size _
  have hB := (h1.block B (Array.getElem?_eq_some_iff.1 hd).1).trans hd
  have hc := weekdaysS_wl w i hi
  rw [Nat.zero_add, hS] at hc
  exact ⟨rfl, hc, cell_of_row _ B 0 _ _ _ hB, cell_of_row _ B 1 _ _ _ hB, cell_of_row _ B 2 _ _ _ hB, by simp, h1⟩
theorem nm_any (S NM : List UInt8) (w : World) (h : okName S) (hn : nameOf S = NM) : Calls Tryd.prog 42 #[.string ⟨S.toArray⟩] w fun e w' => e = .returned (.string ⟨NM.toArray⟩) ∧ Below w.heap.size w w' := hn ▸ name_any S w h
set_option maxRecDepth 100000 in
set_option maxHeartbeats 2000000 in
theorem rtext_fixed1 (u : Nat) (w : World) (hu : u < 10) :
    Calls Tryd.prog 21 #[.agg #[.int .i64 0, .int .i64 0, .int .i64 u]] w fun e w' => e = .returned (.string ⟨(Lib.decDigits u).toArray⟩) ∧ Below w.heap.size w w' := by
  have HBw := Lib.hid (Below.refl w.heap.size w)
  obtain ⟨r, hr⟩ : ∃ r, (u : Int).tmod 10 = r := ⟨_, rfl⟩
  have hr2 : r = u := by rw [← hr, Int.tmod_eq_emod_of_nonneg (by omega)]; omega
  have r0 : 0 ≤ r := by omega
  have r9 : r ≤ 9 := by omega
  obtain ⟨x, hx, hx2⟩ := dig_ex r r0 r9
  have HD := Lib.hid (show Lib.decDigits u = [x] by rw [dec_small hu, hx2, hr2]; simp)
  have hu2 : (u : Int) ≤ 9 := by omega
  have HX := Lib.hid hx
  clear hr2 hx hx2 hu
  go_enter Tryd.func21, Tryd.ntmps21
  go_upto_region 1 with fail
  generalize hX : w.alloc (.cells #[.int .i64 0, .int .i64 0, .int .i64 u] 24) = v0
  have sv0 : v0.heap.size = w.heap.size + 1 := by rw [← hX]; simp
  have bv0 : Below w.heap.size w v0 := by rw [← hX]; exact (Below.refl _ _).alloc (Nat.le_refl _) _
  have HYv0 := Lib.hid (show v0.heap[w.heap.size]? = some (.cells #[.int .i64 0, .int .i64 0, .int .i64 u] 24 (0, 0)) by rw [← hX]; exact heap_alloc_new w _)
  have HBv0 := Lib.hid (HBw.out.trans (bv0.mono HBw.out.size))
  clear hX
  obtain ⟨p0, p1, p2⟩ := row3_cells HYv0.out
  have RC := cv_one (48 + r) x v0 HX.out
  rw [sv0] at RC
  go_upto_region 4 with fail
  generalize hX : v0.alloc (.cells #[.int .u8 (48 + r)] 5) = v1
  have bv1 : Below v0.heap.size v0 v1 := by rw [← hX]; exact (Below.refl _ _).alloc (Nat.le_refl _) _
  have sv1 : v1.heap.size = w.heap.size + 2 := by rw [← hX]; simp [sv0]
  have HY1 := Lib.hid ((bv1.block w.heap.size (by omega)).trans HYv0.out)
  have HBv1 := Lib.hid (HBv0.out.trans (bv1.mono HBv0.out.size))
  obtain ⟨NT, hNT⟩ : ∃ NT, [x] = NT := ⟨_, rfl⟩
  have hn2 : (NT.length : Int) ≤ 2 := by rw [← hNT]; simp
  have HNT := Lib.hid (hNT ▸ HD.out)
  rw [show (⟨#[x]⟩ : ByteArray) = ⟨NT.toArray⟩ by rw [← hNT]]
  clear hX bv1 RC p0 p1 p2 hNT
  obtain ⟨p0, p1, p2⟩ := row3_cells HY1.out
  go_wp2_with fail
  go_ret
  exact ⟨by rw [HNT.out]; rfl, HBv1.out⟩
set_option maxRecDepth 100000 in
set_option maxHeartbeats 2000000 in
theorem rtext_last (i : Nat) (w : World) (hi : i < 7) :
    Calls Tryd.prog 21 #[.agg #[.int .i64 1, .int .i64 i, .int .i64 (0 : Nat)]] w fun e w' => e = .returned (.string ⟨([108, 97, 115, 116] ++ nam i).toArray⟩) ∧ Below w.heap.size w w' := by
  obtain ⟨u, hu0⟩ : ∃ u : Nat, u = 0 := ⟨_, rfl⟩
  have hu : u < 10 := by omega
  rw [← hu0]
  clear hu0
  have HI := Lib.hid hi
  have i0 : 0 ≤ (i : Int) := by omega
  have i7 : (i : Int) < 7 := by omega
  clear hi
  have HBw := Lib.hid (Below.refl w.heap.size w)
  obtain ⟨r, hr⟩ : ∃ r, (u : Int).tmod 10 = r := ⟨_, rfl⟩
  have hr2 : r = u := by rw [← hr, Int.tmod_eq_emod_of_nonneg (by omega)]; omega
  have r0 : 0 ≤ r := by omega
  have r9 : r ≤ 9 := by omega
  obtain ⟨x, hx, hx2⟩ := dig_ex r r0 r9
  have HD := Lib.hid (show Lib.decDigits u = [x] by rw [dec_small hu, hx2, hr2]; simp)
  have hu2 : (u : Int) ≤ 9 := by omega
  have HX := Lib.hid hx
  clear hr2 hx hx2 hu
  go_enter Tryd.func21, Tryd.ntmps21
  go_upto_region 1 with fail
  generalize hX : w.alloc (.cells #[.int .i64 1, .int .i64 i, .int .i64 u] 24) = v0
  have sv0 : v0.heap.size = w.heap.size + 1 := by rw [← hX]; simp
  have bv0 : Below w.heap.size w v0 := by rw [← hX]; exact (Below.refl _ _).alloc (Nat.le_refl _) _
  have HYv0 := Lib.hid (show v0.heap[w.heap.size]? = some (.cells #[.int .i64 1, .int .i64 i, .int .i64 u] 24 (0, 0)) by rw [← hX]; exact heap_alloc_new w _)
  have HBv0 := Lib.hid (HBw.out.trans (bv0.mono HBw.out.size))
  clear hX
  obtain ⟨p0, p1, p2⟩ := row3_cells HYv0.out
  have RC := cv_one (48 + r) x v0 HX.out
  rw [sv0] at RC
  go_upto_region 4 with fail
  generalize hX : v0.alloc (.cells #[.int .u8 (48 + r)] 5) = v1
  have bv1 : Below v0.heap.size v0 v1 := by rw [← hX]; exact (Below.refl _ _).alloc (Nat.le_refl _) _
  have sv1 : v1.heap.size = w.heap.size + 2 := by rw [← hX]; simp [sv0]
  have HY1 := Lib.hid ((bv1.block w.heap.size (by omega)).trans HYv0.out)
  have HBv1 := Lib.hid (HBv0.out.trans (bv1.mono HBv0.out.size))
  obtain ⟨NT, hNT⟩ : ∃ NT, [x] = NT := ⟨_, rfl⟩
  have hn2 : (NT.length : Int) ≤ 2 := by rw [← hNT]; simp
  have HNT := Lib.hid (hNT ▸ HD.out)
  rw [show (⟨#[x]⟩ : ByteArray) = ⟨NT.toArray⟩ by rw [← hNT]]
  clear hX bv1 RC p0 p1 p2 hNT
  obtain ⟨p0, p1, p2⟩ := row3_cells HY1.out
  obtain ⟨SW, hSW⟩ : ∃ S, weekdaysS.getD i [] = S := ⟨_, rfl⟩
  obtain ⟨hw1, hw2⟩ := weekday_name i HI.out
  rw [hSW] at hw1 hw2
  obtain ⟨NM, hNM⟩ : ∃ NM, nam i = NM := ⟨_, rfl⟩
  rw [hNM] at hw1
  have HSW := Lib.hid hSW
  have HNM := Lib.hid hNM
  have HW1 := Lib.hid hw1
  have HW2 := Lib.hid hw2
  have hnl : (NM.length : Int) = 3 := by rw [← hNM]; have := nam_len i HI.out; omega
  clear hw1 hw2 hSW hNM
  go_upto_region 6 with fail
  go_region_with (first
    | (go_at_call 27; refine (wd_any i _ (v := v1) (N := w.heap.size + 2) HSW.out (by exact sv1) HI.out (by first | exact (Below.refl _ _).drew | exact Below.refl _ _) HY1.out).mono ?_; rintro e w5 ⟨rfl, hc5, q0, q1, q2, sw5, hb5⟩)
    | (go_at_call 42; refine (nm_any SW NM _ HW2.out HW1.out).mono ?_; rintro e w6 ⟨rfl, hb6⟩))
  all_goals
    have HBw6 := Lib.hid ((HBv1.out.trans (hb5.mono HBv1.out.size)).trans (hb6.mono (by have := hb5.size; have := HBv1.out.size; omega)))
    have z0 := (hb6.cell (block_lt_of_cell q0)).trans q0
    clear p0 p1 p2 hc5 q0 q1 q2 sw5 hb5 hb6
    go_wp2_with fail
    go_ret
    refine ⟨?_, HBw6.out⟩
  all_goals
    show Ending.returned (.string (⟨([108, 97, 115, 116] : List UInt8).toArray⟩ ++ ⟨NM.toArray⟩)) = _
    rw [ba_app, ← HNM.out]
    rfl
set_option maxRecDepth 100000 in
set_option maxHeartbeats 2000000 in
theorem rtext_fixed2 (u : Nat) (w : World) (hu1 : 10 ≤ u) (hu : u < 100) :
    Calls Tryd.prog 21 #[.agg #[.int .i64 0, .int .i64 0, .int .i64 u]] w fun e w' => e = .returned (.string ⟨(Lib.decDigits u).toArray⟩) ∧ Below w.heap.size w w' := by
  have HBw := Lib.hid (Below.refl w.heap.size w)
  obtain ⟨r, hr⟩ : ∃ r, (u : Int).tmod 10 = r := ⟨_, rfl⟩
  have hr2 : r = ((u % 10 : Nat) : Int) := by rw [← hr, Int.tmod_eq_emod_of_nonneg (by omega)]; omega
  obtain ⟨q, hq⟩ : ∃ q, (u : Int).tdiv 10 = q := ⟨_, rfl⟩
  have hq2 : q = ((u / 10 : Nat) : Int) := by rw [← hq, Int.tdiv_eq_ediv_of_nonneg (by omega)]; omega
  have r0 : 0 ≤ r := by omega
  have r9 : r ≤ 9 := by omega
  have q0 : 0 ≤ q := by omega
  have q9 : q ≤ 9 := by omega
  obtain ⟨x, hx, hx2⟩ := dig_ex r r0 r9
  obtain ⟨z, hz, hz2⟩ := dig_ex q q0 q9
  have HD := Lib.hid (show Lib.decDigits u = [z, x] by rw [dec_two hu1 hu, hx2, hz2, hr2, hq2, Int.toNat_natCast, Int.toNat_natCast])
  have hu2 : 9 < (u : Int) := by omega
  have hu3 : (u : Int) < 100 := by omega
  have HX := Lib.hid hx
  have HZ := Lib.hid hz
  have hq3 : (u : Int) / 10 = q := by omega
  have hr3 : (u : Int) % 10 = r := by omega
  clear hr2 hq2 hx hx2 hz hz2 hu hu1
  go_enter Tryd.func21, Tryd.ntmps21
  go_upto_region 1 with fail
  generalize hX : w.alloc (.cells #[.int .i64 0, .int .i64 0, .int .i64 u] 24) = v0
  have sv0 : v0.heap.size = w.heap.size + 1 := by rw [← hX]; simp
  have bv0 : Below w.heap.size w v0 := by rw [← hX]; exact (Below.refl _ _).alloc (Nat.le_refl _) _
  have HYv0 := Lib.hid (show v0.heap[w.heap.size]? = some (.cells #[.int .i64 0, .int .i64 0, .int .i64 u] 24 (0, 0)) by rw [← hX]; exact heap_alloc_new w _)
  have HBv0 := Lib.hid (HBw.out.trans (bv0.mono HBw.out.size))
  clear hX
  obtain ⟨p0, p1, p2⟩ := row3_cells HYv0.out
  have RC := cv_one (48 + r) x v0 HX.out
  have RC2 := cv_one (48 + q) z (v0.alloc (.cells #[.int .u8 (48 + r)] 5)) HZ.out
  simp only [World.size_alloc, sv0] at RC RC2
  go_upto_region 4 with fail
  generalize hX : (v0.alloc (.cells #[.int .u8 (48 + r)] 5)).alloc (.cells #[.int .u8 (48 + q)] 5) = v1
  have bv1 : Below v0.heap.size v0 v1 := by rw [← hX]; exact ((Below.refl _ _).alloc (Nat.le_refl _) _).alloc (by simp) _
  have sv1 : v1.heap.size = w.heap.size + 3 := by rw [← hX]; simp [sv0]
  have HY1 := Lib.hid ((bv1.block w.heap.size (by omega)).trans HYv0.out)
  have HBv1 := Lib.hid (HBv0.out.trans (bv1.mono HBv0.out.size))
  obtain ⟨NT, hNT⟩ : ∃ NT, [z, x] = NT := ⟨_, rfl⟩
  have hn2 : (NT.length : Int) ≤ 2 := by rw [← hNT]; simp
  have HNT := Lib.hid (hNT ▸ HD.out)
  rw [show (⟨#[z]⟩ : ByteArray) ++ ⟨#[x]⟩ = ⟨NT.toArray⟩ by rw [← hNT]; rfl]
  clear hX bv1 RC RC2 p0 p1 p2 hNT
  obtain ⟨p0, p1, p2⟩ := row3_cells HY1.out
  go_wp2_with fail
  go_ret
  exact ⟨by rw [HNT.out]; rfl, HBv1.out⟩
set_option maxRecDepth 100000 in
set_option maxHeartbeats 2000000 in
theorem rtext_less1 (i u : Nat) (w : World) (hi : i < 7) (hu : u < 10) :
    Calls Tryd.prog 21 #[.agg #[.int .i64 2, .int .i64 i, .int .i64 u]] w fun e w' => e = .returned (.string ⟨(nam i ++ [62, 61] ++ Lib.decDigits u).toArray⟩) ∧ Below w.heap.size w w' := by
  have HI := Lib.hid hi
  have i0 : 0 ≤ (i : Int) := by omega
  have i7 : (i : Int) < 7 := by omega
  clear hi
  have HBw := Lib.hid (Below.refl w.heap.size w)
  obtain ⟨r, hr⟩ : ∃ r, (u : Int).tmod 10 = r := ⟨_, rfl⟩
  have hr2 : r = u := by rw [← hr, Int.tmod_eq_emod_of_nonneg (by omega)]; omega
  have r0 : 0 ≤ r := by omega
  have r9 : r ≤ 9 := by omega
  obtain ⟨x, hx, hx2⟩ := dig_ex r r0 r9
  have HD := Lib.hid (show Lib.decDigits u = [x] by rw [dec_small hu, hx2, hr2]; simp)
  have hu2 : (u : Int) ≤ 9 := by omega
  have HX := Lib.hid hx
  clear hr2 hx hx2 hu
  go_enter Tryd.func21, Tryd.ntmps21
  go_upto_region 1 with fail
  generalize hX : w.alloc (.cells #[.int .i64 2, .int .i64 i, .int .i64 u] 24) = v0
  have sv0 : v0.heap.size = w.heap.size + 1 := by rw [← hX]; simp
  have bv0 : Below w.heap.size w v0 := by rw [← hX]; exact (Below.refl _ _).alloc (Nat.le_refl _) _
  have HYv0 := Lib.hid (show v0.heap[w.heap.size]? = some (.cells #[.int .i64 2, .int .i64 i, .int .i64 u] 24 (0, 0)) by rw [← hX]; exact heap_alloc_new w _)
  have HBv0 := Lib.hid (HBw.out.trans (bv0.mono HBw.out.size))
  clear hX
  obtain ⟨p0, p1, p2⟩ := row3_cells HYv0.out
  have RC := cv_one (48 + r) x v0 HX.out
  rw [sv0] at RC
  go_upto_region 4 with fail
  generalize hX : v0.alloc (.cells #[.int .u8 (48 + r)] 5) = v1
  have bv1 : Below v0.heap.size v0 v1 := by rw [← hX]; exact (Below.refl _ _).alloc (Nat.le_refl _) _
  have sv1 : v1.heap.size = w.heap.size + 2 := by rw [← hX]; simp [sv0]
  have HY1 := Lib.hid ((bv1.block w.heap.size (by omega)).trans HYv0.out)
  have HBv1 := Lib.hid (HBv0.out.trans (bv1.mono HBv0.out.size))
  obtain ⟨NT, hNT⟩ : ∃ NT, [x] = NT := ⟨_, rfl⟩
  have hn2 : (NT.length : Int) ≤ 2 := by rw [← hNT]; simp
  have HNT := Lib.hid (hNT ▸ HD.out)
  rw [show (⟨#[x]⟩ : ByteArray) = ⟨NT.toArray⟩ by rw [← hNT]]
  clear hX bv1 RC p0 p1 p2 hNT
  obtain ⟨p0, p1, p2⟩ := row3_cells HY1.out
  obtain ⟨SW, hSW⟩ : ∃ S, weekdaysS.getD i [] = S := ⟨_, rfl⟩
  obtain ⟨hw1, hw2⟩ := weekday_name i HI.out
  rw [hSW] at hw1 hw2
  obtain ⟨NM, hNM⟩ : ∃ NM, nam i = NM := ⟨_, rfl⟩
  rw [hNM] at hw1
  have HSW := Lib.hid hSW
  have HNM := Lib.hid hNM
  have HW1 := Lib.hid hw1
  have HW2 := Lib.hid hw2
  have hnl : (NM.length : Int) = 3 := by rw [← hNM]; have := nam_len i HI.out; omega
  clear hw1 hw2 hSW hNM
  go_upto_region 6 with fail
  go_region_with (first
    | (go_at_call 27; refine (wd_any i _ (v := v1) (N := w.heap.size + 2) HSW.out (by exact sv1) HI.out (by first | exact (Below.refl _ _).drew | exact Below.refl _ _) HY1.out).mono ?_; rintro e w5 ⟨rfl, hc5, q0, q1, q2, sw5, hb5⟩)
    | (go_at_call 42; refine (nm_any SW NM _ HW2.out HW1.out).mono ?_; rintro e w6 ⟨rfl, hb6⟩))
  all_goals
    have HBw6 := Lib.hid ((HBv1.out.trans (hb5.mono HBv1.out.size)).trans (hb6.mono (by have := hb5.size; have := HBv1.out.size; omega)))
    have z0 := (hb6.cell (block_lt_of_cell q0)).trans q0
    clear p0 p1 p2 hc5 q0 q1 q2 sw5 hb5 hb6
    go_wp2_with fail
    go_ret
    refine ⟨?_, HBw6.out⟩
  all_goals
    first
    | show Ending.returned (.string (⟨NM.toArray⟩ ++ ⟨([62, 61] : List UInt8).toArray⟩ ++ ⟨NT.toArray⟩)) = _
    | show Ending.returned (.string (⟨NM.toArray⟩ ++ (⟨([62, 61] : List UInt8).toArray⟩ ++ ⟨NT.toArray⟩))) = _
    rw [ba_app, ba_app, ← HNM.out, ← HNT.out]
    try simp
set_option maxRecDepth 100000 in
set_option maxHeartbeats 2000000 in
theorem rtext_less2 (i u : Nat) (w : World) (hi : i < 7) (hu1 : 10 ≤ u) (hu : u < 100) :
    Calls Tryd.prog 21 #[.agg #[.int .i64 2, .int .i64 i, .int .i64 u]] w fun e w' => e = .returned (.string ⟨(nam i ++ [62, 61] ++ Lib.decDigits u).toArray⟩) ∧ Below w.heap.size w w' := by
  have HI := Lib.hid hi
  have i0 : 0 ≤ (i : Int) := by omega
  have i7 : (i : Int) < 7 := by omega
  clear hi
  have HBw := Lib.hid (Below.refl w.heap.size w)
  obtain ⟨r, hr⟩ : ∃ r, (u : Int).tmod 10 = r := ⟨_, rfl⟩
  have hr2 : r = ((u % 10 : Nat) : Int) := by rw [← hr, Int.tmod_eq_emod_of_nonneg (by omega)]; omega
  obtain ⟨q, hq⟩ : ∃ q, (u : Int).tdiv 10 = q := ⟨_, rfl⟩
  have hq2 : q = ((u / 10 : Nat) : Int) := by rw [← hq, Int.tdiv_eq_ediv_of_nonneg (by omega)]; omega
  have r0 : 0 ≤ r := by omega
  have r9 : r ≤ 9 := by omega
  have q0 : 0 ≤ q := by omega
  have q9 : q ≤ 9 := by omega
  obtain ⟨x, hx, hx2⟩ := dig_ex r r0 r9
  obtain ⟨z, hz, hz2⟩ := dig_ex q q0 q9
  have HD := Lib.hid (show Lib.decDigits u = [z, x] by rw [dec_two hu1 hu, hx2, hz2, hr2, hq2, Int.toNat_natCast, Int.toNat_natCast])
  have hu2 : 9 < (u : Int) := by omega
  have hu3 : (u : Int) < 100 := by omega
  have HX := Lib.hid hx
  have HZ := Lib.hid hz
  have hq3 : (u : Int) / 10 = q := by omega
  have hr3 : (u : Int) % 10 = r := by omega
  clear hr2 hq2 hx hx2 hz hz2 hu hu1
  go_enter Tryd.func21, Tryd.ntmps21
  go_upto_region 1 with fail
  generalize hX : w.alloc (.cells #[.int .i64 2, .int .i64 i, .int .i64 u] 24) = v0
  have sv0 : v0.heap.size = w.heap.size + 1 := by rw [← hX]; simp
  have bv0 : Below w.heap.size w v0 := by rw [← hX]; exact (Below.refl _ _).alloc (Nat.le_refl _) _
  have HYv0 := Lib.hid (show v0.heap[w.heap.size]? = some (.cells #[.int .i64 2, .int .i64 i, .int .i64 u] 24 (0, 0)) by rw [← hX]; exact heap_alloc_new w _)
  have HBv0 := Lib.hid (HBw.out.trans (bv0.mono HBw.out.size))
  clear hX
  obtain ⟨p0, p1, p2⟩ := row3_cells HYv0.out
  have RC := cv_one (48 + r) x v0 HX.out
  have RC2 := cv_one (48 + q) z (v0.alloc (.cells #[.int .u8 (48 + r)] 5)) HZ.out
  simp only [World.size_alloc, sv0] at RC RC2
  go_upto_region 4 with fail
  generalize hX : (v0.alloc (.cells #[.int .u8 (48 + r)] 5)).alloc (.cells #[.int .u8 (48 + q)] 5) = v1
  have bv1 : Below v0.heap.size v0 v1 := by rw [← hX]; exact ((Below.refl _ _).alloc (Nat.le_refl _) _).alloc (by simp) _
  have sv1 : v1.heap.size = w.heap.size + 3 := by rw [← hX]; simp [sv0]
  have HY1 := Lib.hid ((bv1.block w.heap.size (by omega)).trans HYv0.out)
  have HBv1 := Lib.hid (HBv0.out.trans (bv1.mono HBv0.out.size))
  obtain ⟨NT, hNT⟩ : ∃ NT, [z, x] = NT := ⟨_, rfl⟩
  have hn2 : (NT.length : Int) ≤ 2 := by rw [← hNT]; simp
  have HNT := Lib.hid (hNT ▸ HD.out)
  rw [show (⟨#[z]⟩ : ByteArray) ++ ⟨#[x]⟩ = ⟨NT.toArray⟩ by rw [← hNT]; rfl]
  clear hX bv1 RC RC2 p0 p1 p2 hNT
  obtain ⟨p0, p1, p2⟩ := row3_cells HY1.out
  obtain ⟨SW, hSW⟩ : ∃ S, weekdaysS.getD i [] = S := ⟨_, rfl⟩
  obtain ⟨hw1, hw2⟩ := weekday_name i HI.out
  rw [hSW] at hw1 hw2
  obtain ⟨NM, hNM⟩ : ∃ NM, nam i = NM := ⟨_, rfl⟩
  rw [hNM] at hw1
  have HSW := Lib.hid hSW
  have HNM := Lib.hid hNM
  have HW1 := Lib.hid hw1
  have HW2 := Lib.hid hw2
  have hnl : (NM.length : Int) = 3 := by rw [← hNM]; have := nam_len i HI.out; omega
  clear hw1 hw2 hSW hNM
  go_upto_region 6 with fail
  go_region_with (first
    | (go_at_call 27; refine (wd_any i _ (v := v1) (N := w.heap.size + 3) HSW.out (by exact sv1) HI.out (by first | exact (Below.refl _ _).drew | exact Below.refl _ _) HY1.out).mono ?_; rintro e w5 ⟨rfl, hc5, q0, q1, q2, sw5, hb5⟩)
    | (go_at_call 42; refine (nm_any SW NM _ HW2.out HW1.out).mono ?_; rintro e w6 ⟨rfl, hb6⟩))
  all_goals
    have HBw6 := Lib.hid ((HBv1.out.trans (hb5.mono HBv1.out.size)).trans (hb6.mono (by have := hb5.size; have := HBv1.out.size; omega)))
    have z0 := (hb6.cell (block_lt_of_cell q0)).trans q0
    clear p0 p1 p2 hc5 q0 q1 q2 sw5 hb5 hb6
    go_wp2_with fail
    go_ret
    refine ⟨?_, HBw6.out⟩
  all_goals
    first
    | show Ending.returned (.string (⟨NM.toArray⟩ ++ ⟨([62, 61] : List UInt8).toArray⟩ ++ ⟨NT.toArray⟩)) = _
    | show Ending.returned (.string (⟨NM.toArray⟩ ++ (⟨([62, 61] : List UInt8).toArray⟩ ++ ⟨NT.toArray⟩))) = _
    rw [ba_app, ba_app, ← HNM.out, ← HNT.out]
    try simp
set_option maxRecDepth 100000 in
set_option maxHeartbeats 2000000 in
theorem rtext_greater1 (i u : Nat) (w : World) (hi : i < 7) (hu : u < 10) :
    Calls Tryd.prog 21 #[.agg #[.int .i64 3, .int .i64 i, .int .i64 u]] w fun e w' => e = .returned (.string ⟨(nam i ++ [60, 61] ++ Lib.decDigits u).toArray⟩) ∧ Below w.heap.size w w' := by
  have HI := Lib.hid hi
  have i0 : 0 ≤ (i : Int) := by omega
  have i7 : (i : Int) < 7 := by omega
  clear hi
  have HBw := Lib.hid (Below.refl w.heap.size w)
  obtain ⟨r, hr⟩ : ∃ r, (u : Int).tmod 10 = r := ⟨_, rfl⟩
  have hr2 : r = u := by rw [← hr, Int.tmod_eq_emod_of_nonneg (by omega)]; omega
  have r0 : 0 ≤ r := by omega
  have r9 : r ≤ 9 := by omega
  obtain ⟨x, hx, hx2⟩ := dig_ex r r0 r9
  have HD := Lib.hid (show Lib.decDigits u = [x] by rw [dec_small hu, hx2, hr2]; simp)
  have hu2 : (u : Int) ≤ 9 := by omega
  have HX := Lib.hid hx
  clear hr2 hx hx2 hu
  go_enter Tryd.func21, Tryd.ntmps21
  go_upto_region 1 with fail
  generalize hX : w.alloc (.cells #[.int .i64 3, .int .i64 i, .int .i64 u] 24) = v0
  have sv0 : v0.heap.size = w.heap.size + 1 := by rw [← hX]; simp
  have bv0 : Below w.heap.size w v0 := by rw [← hX]; exact (Below.refl _ _).alloc (Nat.le_refl _) _
  have HYv0 := Lib.hid (show v0.heap[w.heap.size]? = some (.cells #[.int .i64 3, .int .i64 i, .int .i64 u] 24 (0, 0)) by rw [← hX]; exact heap_alloc_new w _)
  have HBv0 := Lib.hid (HBw.out.trans (bv0.mono HBw.out.size))
  clear hX
  obtain ⟨p0, p1, p2⟩ := row3_cells HYv0.out
  have RC := cv_one (48 + r) x v0 HX.out
  rw [sv0] at RC
  go_upto_region 4 with fail
  generalize hX : v0.alloc (.cells #[.int .u8 (48 + r)] 5) = v1
  have bv1 : Below v0.heap.size v0 v1 := by rw [← hX]; exact (Below.refl _ _).alloc (Nat.le_refl _) _
  have sv1 : v1.heap.size = w.heap.size + 2 := by rw [← hX]; simp [sv0]
  have HY1 := Lib.hid ((bv1.block w.heap.size (by omega)).trans HYv0.out)
  have HBv1 := Lib.hid (HBv0.out.trans (bv1.mono HBv0.out.size))
  obtain ⟨NT, hNT⟩ : ∃ NT, [x] = NT := ⟨_, rfl⟩
  have hn2 : (NT.length : Int) ≤ 2 := by rw [← hNT]; simp
  have HNT := Lib.hid (hNT ▸ HD.out)
  rw [show (⟨#[x]⟩ : ByteArray) = ⟨NT.toArray⟩ by rw [← hNT]]
  clear hX bv1 RC p0 p1 p2 hNT
  obtain ⟨p0, p1, p2⟩ := row3_cells HY1.out
  obtain ⟨SW, hSW⟩ : ∃ S, weekdaysS.getD i [] = S := ⟨_, rfl⟩
  obtain ⟨hw1, hw2⟩ := weekday_name i HI.out
  rw [hSW] at hw1 hw2
  obtain ⟨NM, hNM⟩ : ∃ NM, nam i = NM := ⟨_, rfl⟩
  rw [hNM] at hw1
  have HSW := Lib.hid hSW
  have HNM := Lib.hid hNM
  have HW1 := Lib.hid hw1
  have HW2 := Lib.hid hw2
  have hnl : (NM.length : Int) = 3 := by rw [← hNM]; have := nam_len i HI.out; omega
  clear hw1 hw2 hSW hNM
  go_upto_region 6 with fail
  go_region_with (first
    | (go_at_call 27; refine (wd_any i _ (v := v1) (N := w.heap.size + 2) HSW.out (by exact sv1) HI.out (by first | exact (Below.refl _ _).drew | exact Below.refl _ _) HY1.out).mono ?_; rintro e w5 ⟨rfl, hc5, q0, q1, q2, sw5, hb5⟩)
    | (go_at_call 42; refine (nm_any SW NM _ HW2.out HW1.out).mono ?_; rintro e w6 ⟨rfl, hb6⟩))
  all_goals
    have HBw6 := Lib.hid ((HBv1.out.trans (hb5.mono HBv1.out.size)).trans (hb6.mono (by have := hb5.size; have := HBv1.out.size; omega)))
    have z0 := (hb6.cell (block_lt_of_cell q0)).trans q0
    clear p0 p1 p2 hc5 q0 q1 q2 sw5 hb5 hb6
    go_wp2_with fail
    go_ret
    refine ⟨?_, HBw6.out⟩
  all_goals
    first
    | show Ending.returned (.string (⟨NM.toArray⟩ ++ ⟨([60, 61] : List UInt8).toArray⟩ ++ ⟨NT.toArray⟩)) = _
    | show Ending.returned (.string (⟨NM.toArray⟩ ++ (⟨([60, 61] : List UInt8).toArray⟩ ++ ⟨NT.toArray⟩))) = _
    rw [ba_app, ba_app, ← HNM.out, ← HNT.out]
    try simp
set_option maxRecDepth 100000 in
set_option maxHeartbeats 2000000 in
theorem rtext_greater2 (i u : Nat) (w : World) (hi : i < 7) (hu1 : 10 ≤ u) (hu : u < 100) :
    Calls Tryd.prog 21 #[.agg #[.int .i64 3, .int .i64 i, .int .i64 u]] w fun e w' => e = .returned (.string ⟨(nam i ++ [60, 61] ++ Lib.decDigits u).toArray⟩) ∧ Below w.heap.size w w' := by
  have HI := Lib.hid hi
  have i0 : 0 ≤ (i : Int) := by omega
  have i7 : (i : Int) < 7 := by omega
  clear hi
  have HBw := Lib.hid (Below.refl w.heap.size w)
  obtain ⟨r, hr⟩ : ∃ r, (u : Int).tmod 10 = r := ⟨_, rfl⟩
  have hr2 : r = ((u % 10 : Nat) : Int) := by rw [← hr, Int.tmod_eq_emod_of_nonneg (by omega)]; omega
  obtain ⟨q, hq⟩ : ∃ q, (u : Int).tdiv 10 = q := ⟨_, rfl⟩
  have hq2 : q = ((u / 10 : Nat) : Int) := by rw [← hq, Int.tdiv_eq_ediv_of_nonneg (by omega)]; omega
  have r0 : 0 ≤ r := by omega
  have r9 : r ≤ 9 := by omega
  have q0 : 0 ≤ q := by omega
  have q9 : q ≤ 9 := by omega
  obtain ⟨x, hx, hx2⟩ := dig_ex r r0 r9
  obtain ⟨z, hz, hz2⟩ := dig_ex q q0 q9
  have HD := Lib.hid (show Lib.decDigits u = [z, x] by rw [dec_two hu1 hu, hx2, hz2, hr2, hq2, Int.toNat_natCast, Int.toNat_natCast])
  have hu2 : 9 < (u : Int) := by omega
  have hu3 : (u : Int) < 100 := by omega
  have HX := Lib.hid hx
  have HZ := Lib.hid hz
  have hq3 : (u : Int) / 10 = q := by omega
  have hr3 : (u : Int) % 10 = r := by omega
  clear hr2 hq2 hx hx2 hz hz2 hu hu1
  go_enter Tryd.func21, Tryd.ntmps21
  go_upto_region 1 with fail
  generalize hX : w.alloc (.cells #[.int .i64 3, .int .i64 i, .int .i64 u] 24) = v0
  have sv0 : v0.heap.size = w.heap.size + 1 := by rw [← hX]; simp
  have bv0 : Below w.heap.size w v0 := by rw [← hX]; exact (Below.refl _ _).alloc (Nat.le_refl _) _
  have HYv0 := Lib.hid (show v0.heap[w.heap.size]? = some (.cells #[.int .i64 3, .int .i64 i, .int .i64 u] 24 (0, 0)) by rw [← hX]; exact heap_alloc_new w _)
  have HBv0 := Lib.hid (HBw.out.trans (bv0.mono HBw.out.size))
  clear hX
  obtain ⟨p0, p1, p2⟩ := row3_cells HYv0.out
  have RC := cv_one (48 + r) x v0 HX.out
  have RC2 := cv_one (48 + q) z (v0.alloc (.cells #[.int .u8 (48 + r)] 5)) HZ.out
  simp only [World.size_alloc, sv0] at RC RC2
  go_upto_region 4 with fail
  generalize hX : (v0.alloc (.cells #[.int .u8 (48 + r)] 5)).alloc (.cells #[.int .u8 (48 + q)] 5) = v1
  have bv1 : Below v0.heap.size v0 v1 := by rw [← hX]; exact ((Below.refl _ _).alloc (Nat.le_refl _) _).alloc (by simp) _
  have sv1 : v1.heap.size = w.heap.size + 3 := by rw [← hX]; simp [sv0]
  have HY1 := Lib.hid ((bv1.block w.heap.size (by omega)).trans HYv0.out)
  have HBv1 := Lib.hid (HBv0.out.trans (bv1.mono HBv0.out.size))
  obtain ⟨NT, hNT⟩ : ∃ NT, [z, x] = NT := ⟨_, rfl⟩
  have hn2 : (NT.length : Int) ≤ 2 := by rw [← hNT]; simp
  have HNT := Lib.hid (hNT ▸ HD.out)
  rw [show (⟨#[z]⟩ : ByteArray) ++ ⟨#[x]⟩ = ⟨NT.toArray⟩ by rw [← hNT]; rfl]
  clear hX bv1 RC RC2 p0 p1 p2 hNT
  obtain ⟨p0, p1, p2⟩ := row3_cells HY1.out
  obtain ⟨SW, hSW⟩ : ∃ S, weekdaysS.getD i [] = S := ⟨_, rfl⟩
  obtain ⟨hw1, hw2⟩ := weekday_name i HI.out
  rw [hSW] at hw1 hw2
  obtain ⟨NM, hNM⟩ : ∃ NM, nam i = NM := ⟨_, rfl⟩
  rw [hNM] at hw1
  have HSW := Lib.hid hSW
  have HNM := Lib.hid hNM
  have HW1 := Lib.hid hw1
  have HW2 := Lib.hid hw2
  have hnl : (NM.length : Int) = 3 := by rw [← hNM]; have := nam_len i HI.out; omega
  clear hw1 hw2 hSW hNM
  go_upto_region 6 with fail
  go_region_with (first
    | (go_at_call 27; refine (wd_any i _ (v := v1) (N := w.heap.size + 3) HSW.out (by exact sv1) HI.out (by first | exact (Below.refl _ _).drew | exact Below.refl _ _) HY1.out).mono ?_; rintro e w5 ⟨rfl, hc5, q0, q1, q2, sw5, hb5⟩)
    | (go_at_call 42; refine (nm_any SW NM _ HW2.out HW1.out).mono ?_; rintro e w6 ⟨rfl, hb6⟩))
  all_goals
    have HBw6 := Lib.hid ((HBv1.out.trans (hb5.mono HBv1.out.size)).trans (hb6.mono (by have := hb5.size; have := HBv1.out.size; omega)))
    have z0 := (hb6.cell (block_lt_of_cell q0)).trans q0
    clear p0 p1 p2 hc5 q0 q1 q2 sw5 hb5 hb6
    go_wp2_with fail
    go_ret
    refine ⟨?_, HBw6.out⟩
  all_goals
    first
    | show Ending.returned (.string (⟨NM.toArray⟩ ++ ⟨([60, 61] : List UInt8).toArray⟩ ++ ⟨NT.toArray⟩)) = _
    | show Ending.returned (.string (⟨NM.toArray⟩ ++ (⟨([60, 61] : List UInt8).toArray⟩ ++ ⟨NT.toArray⟩))) = _
    rw [ba_app, ba_app, ← HNM.out, ← HNT.out]
    try simp
end Go.Proofs.YtmkbfjklhejdnaaDoor
