/-
  THE WALK of dayform.Print.
-/
import Derived.Test.YtmkbfjklhejdnaaDoorInAny
namespace Go.Proofs.YtmkbfjklhejdnaaDoor
open Go Go.RowKit CivM NumM
theorem ba_app (a b : List UInt8) : (⟨a.toArray⟩ : ByteArray) ++ ⟨b.toArray⟩ = ⟨(a ++ b).toArray⟩ := by
  apply ByteArray.ext
  simp
def nam (i : Nat) : List UInt8 := (weekdaysL.getD i []).take 3
theorem dec_len2 : ∀ {u : Nat}, u < 100 → (Lib.decDigits u).length ≤ 2 := by
  have : ∀ u : Fin 100, (Lib.decDigits u.1).length ≤ 2 := by decide +kernel
  exact fun {u} h => this ⟨u, h⟩
theorem nam_len : ∀ i, i < 7 → (nam i).length = 3 := by decide
theorem weekdayname_nam (i : Nat) (w : World) (hM : Wek w) (hi : i < 7) :
    Calls Tryd.prog 40 #[.int .i64 i] w fun e w' => e = .returned (.tuple #[.string ⟨(nam i).toArray⟩, .int .i64 0]) ∧ Below w.heap.size w w' := weekdayname_ok i w hM hi
set_option maxRecDepth 100000 in
set_option maxHeartbeats 2000000 in
theorem print_no (k wk n : Int) (w : World) (h : Reads w) (hr : ¬ RightD k wk n) :
    Calls Tryd.prog 19 #[.agg #[.int .i64 k, .int .i64 wk, .int .i64 n]] w fun e w' => e = .returned (.tuple #[.string ⟨#[]⟩, .int .i64 10]) ∧ Below w.heap.size w w' := by
  have EC := Lib.hid (chkV_no hr)
  clear hr
  have HR := Lib.hid h
  have HBw := Lib.hid (Below.refl w.heap.size w)
  clear h
  go_enter Tryd.func19, Tryd.ntmps19
  go_upto_region 1 with fail
  generalize hX : w.alloc (.cells #[.int .i64 k, .int .i64 wk, .int .i64 n] 24) = v0
  have sv0 : v0.heap.size = w.heap.size + 1 := by rw [← hX]; simp
  have bv0 : Below w.heap.size w v0 := by rw [← hX]; exact (Below.refl _ _).alloc (Nat.le_refl _) _
  have HYv0 := Lib.hid (show v0.heap[w.heap.size]? = some (.cells #[.int .i64 k, .int .i64 wk, .int .i64 n] 24 (0, 0)) by rw [← hX]; exact heap_alloc_new w _)
  have HBv0 := Lib.hid (HBw.out.trans (bv0.mono HBw.out.size))
  clear hX
  obtain ⟨p0, p1, p2⟩ := row3_cells HYv0.out
  go_wp2_with fail
  refine (check_day (k) (wk) (n) _).mono ?_
  rintro e w1 ⟨rfl, hbw1⟩
  have HBw1 := Lib.hid (HBv0.out.trans (hbw1.mono HBv0.out.size))
  rw [EC.out]
  have HD1 := Lib.hid ((hbw1.block w.heap.size (by omega)).trans HYv0.out)
  have sw1 := hbw1.size
  clear hbw1 p0 p1 p2
  obtain ⟨p0, p1, p2⟩ := row3_cells HD1.out
  go_wp2_with fail
  go_ret2
  exact ⟨rfl, HBw1.out⟩
set_option maxRecDepth 100000 in
set_option maxHeartbeats 2000000 in
theorem print_fixed (u : Nat) (w : World) (h : Reads w) (hr : RightD 0 ((0 : Nat) : Int) u) (hu : u < 100) :
    Calls Tryd.prog 19 #[.agg #[.int .i64 0, .int .i64 ((0 : Nat) : Int), .int .i64 u]] w fun e w' => e = .returned (.tuple #[.string ⟨(Lib.decDigits u).toArray⟩, .int .i64 0]) ∧ Below w.heap.size w w' := by
  have EC := Lib.hid (chkV_ok hr)
  have HU := Lib.hid hu
  have HI := Lib.hid (show 0 < 7 by decide)
  clear hr hu
  have HR := Lib.hid h
  have HBw := Lib.hid (Below.refl w.heap.size w)
  clear h
  go_enter Tryd.func19, Tryd.ntmps19
  go_upto_region 1 with fail
  generalize hX : w.alloc (.cells #[.int .i64 0, .int .i64 ((0 : Nat) : Int), .int .i64 u] 24) = v0
  have sv0 : v0.heap.size = w.heap.size + 1 := by rw [← hX]; simp
  have bv0 : Below w.heap.size w v0 := by rw [← hX]; exact (Below.refl _ _).alloc (Nat.le_refl _) _
  have HYv0 := Lib.hid (show v0.heap[w.heap.size]? = some (.cells #[.int .i64 0, .int .i64 ((0 : Nat) : Int), .int .i64 u] 24 (0, 0)) by rw [← hX]; exact heap_alloc_new w _)
  have HBv0 := Lib.hid (HBw.out.trans (bv0.mono HBw.out.size))
  clear hX
  obtain ⟨p0, p1, p2⟩ := row3_cells HYv0.out
  go_wp2_with fail
  refine (check_day (0) (((0 : Nat) : Int)) (u) _).mono ?_
  rintro e w1 ⟨rfl, hbw1⟩
  have HBw1 := Lib.hid (HBv0.out.trans (hbw1.mono HBv0.out.size))
  rw [EC.out]
  have HD1 := Lib.hid ((hbw1.block w.heap.size (by omega)).trans HYv0.out)
  have sw1 := hbw1.size
  clear hbw1 p0 p1 p2
  obtain ⟨p0, p1, p2⟩ := row3_cells HD1.out
  go_wp2_with fail
  refine (weekdayname_nam 0 _ (HR.out.below HBw1.out).p.k HI.out).mono ?_
  rintro e w2 ⟨rfl, hb⟩
  have HBw2 := Lib.hid (HBw1.out.trans (hb.mono HBw1.out.size))
  have HD2 := Lib.hid ((hb.block w.heap.size (by omega)).trans HD1.out)
  have sw2 := hb.size
  clear hb p0 p1 p2
  obtain ⟨p0, p1, p2⟩ := row3_cells HD2.out
  have hnl := nam_len _ HI.out
  obtain ⟨NM, hN⟩ : ∃ NM, nam 0 = NM := ⟨_, rfl⟩
  rw [hN] at hnl ⊢
  have HN := Lib.hid hN
  have hnl2 : (NM.length : Int) = 3 := by omega
  clear hN hnl
  go_wp2_with fail
  refine (itoa_small u HU.out _).mono ?_
  rintro e w9 ⟨rfl, rfl⟩
  go_wp2_with fail
  go_ret2
  exact ⟨rfl, HBw2.out⟩
set_option maxRecDepth 100000 in
set_option maxHeartbeats 2000000 in
theorem print_last (i : Nat) (w : World) (h : Reads w) (hr : RightD 1 i 0) (hi : i < 7) :
    Calls Tryd.prog 19 #[.agg #[.int .i64 1, .int .i64 i, .int .i64 0]] w fun e w' => e = .returned (.tuple #[.string ⟨([108, 97, 115, 116] ++ nam i).toArray⟩, .int .i64 0]) ∧ Below w.heap.size w w' := by
  have EC := Lib.hid (chkV_ok hr)
  have HI := Lib.hid hi
  clear hr hi
  have HR := Lib.hid h
  have HBw := Lib.hid (Below.refl w.heap.size w)
  clear h
  go_enter Tryd.func19, Tryd.ntmps19
  go_upto_region 1 with fail
  generalize hX : w.alloc (.cells #[.int .i64 1, .int .i64 (i : Int), .int .i64 0] 24) = v0
  have sv0 : v0.heap.size = w.heap.size + 1 := by rw [← hX]; simp
  have bv0 : Below w.heap.size w v0 := by rw [← hX]; exact (Below.refl _ _).alloc (Nat.le_refl _) _
  have HYv0 := Lib.hid (show v0.heap[w.heap.size]? = some (.cells #[.int .i64 1, .int .i64 (i : Int), .int .i64 0] 24 (0, 0)) by rw [← hX]; exact heap_alloc_new w _)
  have HBv0 := Lib.hid (HBw.out.trans (bv0.mono HBw.out.size))
  clear hX
  obtain ⟨p0, p1, p2⟩ := row3_cells HYv0.out
  go_wp2_with fail
  refine (check_day (1) ((i : Int)) (0) _).mono ?_
  rintro e w1 ⟨rfl, hbw1⟩
  have HBw1 := Lib.hid (HBv0.out.trans (hbw1.mono HBv0.out.size))
  rw [EC.out]
  have HD1 := Lib.hid ((hbw1.block w.heap.size (by omega)).trans HYv0.out)
  have sw1 := hbw1.size
  clear hbw1 p0 p1 p2
  obtain ⟨p0, p1, p2⟩ := row3_cells HD1.out
  go_wp2_with fail
  refine (weekdayname_nam i _ (HR.out.below HBw1.out).p.k HI.out).mono ?_
  rintro e w2 ⟨rfl, hb⟩
  have HBw2 := Lib.hid (HBw1.out.trans (hb.mono HBw1.out.size))
  have HD2 := Lib.hid ((hb.block w.heap.size (by omega)).trans HD1.out)
  have sw2 := hb.size
  clear hb p0 p1 p2
  obtain ⟨p0, p1, p2⟩ := row3_cells HD2.out
  have hnl := nam_len _ HI.out
  obtain ⟨NM, hN⟩ : ∃ NM, nam i = NM := ⟨_, rfl⟩
  rw [hN] at hnl ⊢
  have HN := Lib.hid hN
  have hnl2 : (NM.length : Int) = 3 := by omega
  clear hN hnl
  go_wp2_with fail
  go_ret2
  refine ⟨?_, HBw2.out⟩
  show Ending.returned (.tuple #[.string (⟨([108, 97, 115, 116] : List UInt8).toArray⟩ ++ ⟨NM.toArray⟩), .int .i64 0]) = _
  rw [ba_app, ← HN.out]
  rfl
set_option maxRecDepth 100000 in
set_option maxHeartbeats 2000000 in
theorem print_sign (kd : Int) (i u : Nat) (w : World) (h : Reads w) (hr : RightD kd i u) (hk : kd = 2 ∨ kd = 3) (hi : i < 7) (hu : u < 100) :
    Calls Tryd.prog 19 #[.agg #[.int .i64 kd, .int .i64 i, .int .i64 u]] w fun e w' => e = .returned (.tuple #[.string ⟨(nam i ++ [if kd = 2 then 62 else 60, 61] ++ Lib.decDigits u).toArray⟩, .int .i64 0]) ∧ Below w.heap.size w w' := by
  have EC := Lib.hid (chkV_ok hr)
  have HI := Lib.hid hi
  have HU := Lib.hid hu
  have HK := Lib.hid hk
  have hk1 : 2 ≤ kd := by omega
  have hk2 : kd ≤ 3 := by omega
  clear hr hi hu hk
  have HR := Lib.hid h
  have HBw := Lib.hid (Below.refl w.heap.size w)
  clear h
  go_enter Tryd.func19, Tryd.ntmps19
  go_upto_region 1 with fail
  generalize hX : w.alloc (.cells #[.int .i64 kd, .int .i64 (i : Int), .int .i64 (u : Int)] 24) = v0
  have sv0 : v0.heap.size = w.heap.size + 1 := by rw [← hX]; simp
  have bv0 : Below w.heap.size w v0 := by rw [← hX]; exact (Below.refl _ _).alloc (Nat.le_refl _) _
  have HYv0 := Lib.hid (show v0.heap[w.heap.size]? = some (.cells #[.int .i64 kd, .int .i64 (i : Int), .int .i64 (u : Int)] 24 (0, 0)) by rw [← hX]; exact heap_alloc_new w _)
  have HBv0 := Lib.hid (HBw.out.trans (bv0.mono HBw.out.size))
  clear hX
  obtain ⟨p0, p1, p2⟩ := row3_cells HYv0.out
  go_wp2_with fail
  refine (check_day (kd) ((i : Int)) ((u : Int)) _).mono ?_
  rintro e w1 ⟨rfl, hbw1⟩
  have HBw1 := Lib.hid (HBv0.out.trans (hbw1.mono HBv0.out.size))
  rw [EC.out]
  have HD1 := Lib.hid ((hbw1.block w.heap.size (by omega)).trans HYv0.out)
  have sw1 := hbw1.size
  clear hbw1 p0 p1 p2
  obtain ⟨p0, p1, p2⟩ := row3_cells HD1.out
  go_wp2_with fail
  refine (weekdayname_nam i _ (HR.out.below HBw1.out).p.k HI.out).mono ?_
  rintro e w2 ⟨rfl, hb⟩
  have HBw2 := Lib.hid (HBw1.out.trans (hb.mono HBw1.out.size))
  have HD2 := Lib.hid ((hb.block w.heap.size (by omega)).trans HD1.out)
  have sw2 := hb.size
  clear hb p0 p1 p2
  obtain ⟨p0, p1, p2⟩ := row3_cells HD2.out
  have hnl := nam_len _ HI.out
  obtain ⟨NM, hN⟩ : ∃ NM, nam i = NM := ⟨_, rfl⟩
  rw [hN] at hnl ⊢
  have HN := Lib.hid hN
  have hnl2 : (NM.length : Int) = 3 := by omega
  clear hN hnl
  go_wp2_with fail
  have S2 := Lib.hid (HR.out.below HBw2.out).p.s
  have ck : w2.cell? ⟨0, kd.toNat, none⟩ = some (.string ⟨#[if kd = 2 then 62 else 60, 61]⟩) := by
    rcases HK.out with h | h
    · rw [h]; exact S2.out.2.2.1
    · rw [h]; exact S2.out.2.2.2
  obtain ⟨cc, hcc⟩ : ∃ c, (if kd = 2 then (62 : UInt8) else 60) = c := ⟨_, rfl⟩
  rw [hcc] at ck
  have HC := Lib.hid hcc
  clear hcc
  obtain ⟨T, hT⟩ : ∃ T, Lib.decDigits u = T := ⟨_, rfl⟩
  have HT := Lib.hid hT
  have htl : (T.length : Int) ≤ 2 := by have := dec_len2 HU.out; rw [hT] at this; omega
  have SI := Lib.hid (fun v : BW w2 => calls_bw_same (hT ▸ itoa_small u HU.out v.1))
  clear hT
  have bK := bw_cell p0
  have bN := bw_cell p2
  have bS := bw_cell ck
  have hne := bw_ne w2
  refine wp_region_bw (by kernel_rfl) (by kernel_rfl) ?_
  repeat (go_big_quiet_step (exact SI.out _))
  refine wpQuiet_nil ?_
  rintro w5 ⟨v5, e5⟩
  have b5 := v5.2
  rw [← e5] at b5
  have HBw5 := Lib.hid (HBw2.out.trans (b5.mono HBw2.out.size))
  clear e5 v5 b5 bK bN bS hne
  go_wp2_with fail
  all_goals
    go_ret2
    refine ⟨?_, HBw5.out⟩
    show Ending.returned (.tuple #[.string (⟨NM.toArray⟩ ++ ⟨([cc, 61] : List UInt8).toArray⟩ ++ ⟨T.toArray⟩), .int .i64 0]) = _
    rw [ba_app, ba_app, ← HN.out, ← HT.out, ← HC.out]
    simp [h]
end Go.Proofs.YtmkbfjklhejdnaaDoor
