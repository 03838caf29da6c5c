/-
  THE LAW AbbrOffsets, walked.
-/
import Derived.Test.YtakpbgjmblbaiaaDoorRParse
namespace Go.Proofs.YtakpbgjmblbaiaaDoor
open Go Go.RowKit AbbM
theorem parse_cases (s : List UInt8) : (∃ m, (-360000 < m ∧ m < 360000) ∧ offText m = s ∧ parseV s = .tuple #[.int .i64 m, .int .i64 0] ∧ rparseV s = .tuple #[.int .i64 m, .bool true]) ∨
    (parseV s = .tuple #[.int .i64 0, .int .i64 12] ∧ ∃ m, rparseV s = .tuple #[.int .i64 m, .bool false]) := by
  by_cases h : ∃ m, (-360000 < m ∧ m < 360000) ∧ offText m = s
  · obtain ⟨m, hm, rfl⟩ := h
    refine .inl ⟨m, hm, rfl, parse_yes (prM_off m hm.1 hm.2) hm rfl, ?_⟩
    rw [rparseV_some (rparse_off m hm.1 hm.2), decide_eq_true hm]
    simp
  · refine .inr ⟨parse_no rfl (fun x => h ⟨_, x.1, x.2⟩), ?_⟩
    cases hr : rparse s with
    | none => exact ⟨0, rparseV_none hr⟩
    | some m =>
      refine ⟨m, ?_⟩
      rw [rparseV_some hr]
      by_cases hm : -360000 < m ∧ m < 360000
      · rw [show (offText m == s) = false from beq_eq_false_iff_ne.2 fun e => h ⟨m, hm, e⟩, Bool.and_false]
      · rw [decide_eq_false hm, Bool.false_and]
namespace abbrOffsets
set_option maxHeartbeats 1000000 in
theorem walk (off : Int) (s : List UInt8) (w : World) (hB : Big w) : Calls Tryd.prog 8 #[.int .i64 off, .string ⟨s.toArray⟩] w (One w) := by
  have HBg := Lib.hid hB
  have HBw := Lib.hid (Below.refl w.heap.size w)
  clear hB
  by_cases hs : s.length ≤ 40
  · have h2 : (s.length : Int) ≤ 40 := by omega
    have HS := Lib.hid (show s.length ≤ 1000 by omega)
    clear hs
    by_cases ho : -360000 < off ∧ off < 360000
    · obtain ⟨o1, o2⟩ := ho
      go_enter Tryd.func8, Tryd.ntmps8
      go_wp2_with fail
      refine (offset_ok off _ o1 o2).mono ?_
      rintro e w1 ⟨rfl, hb⟩
      have HBw1 := Lib.hid (HBw.out.trans (hb.mono HBw.out.size))
      clear hb
      go_wp2_with fail
      refine (roffset_ok off _ o1 o2).mono ?_
      rintro e w2 ⟨rfl, hb⟩
      have HBw2 := Lib.hid (HBw1.out.trans (hb.mono HBw1.out.size))
      clear hb
      go_wp2_with fail
      rcases parse_cases s with ⟨m, _, _, e1, e2⟩ | ⟨e1, m, e2⟩
      ·
        have E1 := Lib.hid e1
        have E2 := Lib.hid e2
        clear e1 e2
        refine (parse_any s _ (HBg.out.below HBw2.out) HS.out).mono ?_
        rintro e w3 ⟨rfl, hb⟩
        have HBw3 := Lib.hid (HBw2.out.trans (hb.mono HBw2.out.size))
        clear hb
        rw [E1.out]
        go_wp2_with fail
        refine (rparse_any s _ HS.out).mono ?_
        rintro e w4 ⟨rfl, hb⟩
        have HBw4 := Lib.hid (HBw3.out.trans (hb.mono HBw3.out.size))
        clear hb
        rw [E2.out]
        go_wp2_with fail
        refine (awake_any _ (HBg.out.below HBw4.out)).mono ?_
        rintro e w8 ⟨rfl, hb⟩
        have HBw8 := Lib.hid (HBw4.out.trans (hb.mono HBw4.out.size))
        clear hb
        go_wp2_with fail
        go_ret
        exact ⟨rfl, HBw8.out⟩
      ·
        have E1 := Lib.hid e1
        have E2 := Lib.hid e2
        clear e1 e2
        refine (parse_any s _ (HBg.out.below HBw2.out) HS.out).mono ?_
        rintro e w3 ⟨rfl, hb⟩
        have HBw3 := Lib.hid (HBw2.out.trans (hb.mono HBw2.out.size))
        clear hb
        rw [E1.out]
        go_wp2_with fail
        refine (rparse_any s _ HS.out).mono ?_
        rintro e w4 ⟨rfl, hb⟩
        have HBw4 := Lib.hid (HBw3.out.trans (hb.mono HBw3.out.size))
        clear hb
        rw [E2.out]
        go_wp2_with fail
        refine (awake_any _ (HBg.out.below HBw4.out)).mono ?_
        rintro e w8 ⟨rfl, hb⟩
        have HBw8 := Lib.hid (HBw4.out.trans (hb.mono HBw4.out.size))
        clear hb
        go_wp2_with fail
        go_ret
        exact ⟨rfl, HBw8.out⟩
    · by_cases h1 : off ≤ -360000
      ·
        have HO := Lib.hid ho
        clear ho
        go_enter Tryd.func8, Tryd.ntmps8
        go_wp2_with fail
        refine (offset_no off _ HO.out).mono ?_
        rintro e w2 ⟨rfl, hb⟩
        have HBw2 := Lib.hid (HBw.out.trans (hb.mono HBw.out.size))
        clear hb
        go_wp2_with fail
        rcases parse_cases s with ⟨m, _, _, e1, e2⟩ | ⟨e1, m, e2⟩
        ·
          have E1 := Lib.hid e1
          have E2 := Lib.hid e2
          clear e1 e2
          refine (parse_any s _ (HBg.out.below HBw2.out) HS.out).mono ?_
          rintro e w3 ⟨rfl, hb⟩
          have HBw3 := Lib.hid (HBw2.out.trans (hb.mono HBw2.out.size))
          clear hb
          rw [E1.out]
          go_wp2_with fail
          refine (rparse_any s _ HS.out).mono ?_
          rintro e w4 ⟨rfl, hb⟩
          have HBw4 := Lib.hid (HBw3.out.trans (hb.mono HBw3.out.size))
          clear hb
          rw [E2.out]
          go_wp2_with fail
          refine (awake_any _ (HBg.out.below HBw4.out)).mono ?_
          rintro e w8 ⟨rfl, hb⟩
          have HBw8 := Lib.hid (HBw4.out.trans (hb.mono HBw4.out.size))
          clear hb
          go_wp2_with fail
          go_ret
          exact ⟨rfl, HBw8.out⟩
        ·
          have E1 := Lib.hid e1
          have E2 := Lib.hid e2
          clear e1 e2
          refine (parse_any s _ (HBg.out.below HBw2.out) HS.out).mono ?_
          rintro e w3 ⟨rfl, hb⟩
          have HBw3 := Lib.hid (HBw2.out.trans (hb.mono HBw2.out.size))
          clear hb
          rw [E1.out]
          go_wp2_with fail
          refine (rparse_any s _ HS.out).mono ?_
          rintro e w4 ⟨rfl, hb⟩
          have HBw4 := Lib.hid (HBw3.out.trans (hb.mono HBw3.out.size))
          clear hb
          rw [E2.out]
          go_wp2_with fail
          refine (awake_any _ (HBg.out.below HBw4.out)).mono ?_
          rintro e w8 ⟨rfl, hb⟩
          have HBw8 := Lib.hid (HBw4.out.trans (hb.mono HBw4.out.size))
          clear hb
          go_wp2_with fail
          go_ret
          exact ⟨rfl, HBw8.out⟩
      · have h3 : 360000 ≤ off := by omega
        have HO := Lib.hid ho
        clear ho
        go_enter Tryd.func8, Tryd.ntmps8
        go_wp2_with fail
        refine (offset_no off _ HO.out).mono ?_
        rintro e w2 ⟨rfl, hb⟩
        have HBw2 := Lib.hid (HBw.out.trans (hb.mono HBw.out.size))
        clear hb
        go_wp2_with fail
        rcases parse_cases s with ⟨m, _, _, e1, e2⟩ | ⟨e1, m, e2⟩
        ·
          have E1 := Lib.hid e1
          have E2 := Lib.hid e2
          clear e1 e2
          refine (parse_any s _ (HBg.out.below HBw2.out) HS.out).mono ?_
          rintro e w3 ⟨rfl, hb⟩
          have HBw3 := Lib.hid (HBw2.out.trans (hb.mono HBw2.out.size))
          clear hb
          rw [E1.out]
          go_wp2_with fail
          refine (rparse_any s _ HS.out).mono ?_
          rintro e w4 ⟨rfl, hb⟩
          have HBw4 := Lib.hid (HBw3.out.trans (hb.mono HBw3.out.size))
          clear hb
          rw [E2.out]
          go_wp2_with fail
          refine (awake_any _ (HBg.out.below HBw4.out)).mono ?_
          rintro e w8 ⟨rfl, hb⟩
          have HBw8 := Lib.hid (HBw4.out.trans (hb.mono HBw4.out.size))
          clear hb
          go_wp2_with fail
          go_ret
          exact ⟨rfl, HBw8.out⟩
        ·
          have E1 := Lib.hid e1
          have E2 := Lib.hid e2
          clear e1 e2
          refine (parse_any s _ (HBg.out.below HBw2.out) HS.out).mono ?_
          rintro e w3 ⟨rfl, hb⟩
          have HBw3 := Lib.hid (HBw2.out.trans (hb.mono HBw2.out.size))
          clear hb
          rw [E1.out]
          go_wp2_with fail
          refine (rparse_any s _ HS.out).mono ?_
          rintro e w4 ⟨rfl, hb⟩
          have HBw4 := Lib.hid (HBw3.out.trans (hb.mono HBw3.out.size))
          clear hb
          rw [E2.out]
          go_wp2_with fail
          refine (awake_any _ (HBg.out.below HBw4.out)).mono ?_
          rintro e w8 ⟨rfl, hb⟩
          have HBw8 := Lib.hid (HBw4.out.trans (hb.mono HBw4.out.size))
          clear hb
          go_wp2_with fail
          go_ret
          exact ⟨rfl, HBw8.out⟩
  · have h2 : 40 < (s.length : Int) := by omega
    clear hs
    go_enter Tryd.func8, Tryd.ntmps8
    go_wp2_with fail
    refine (awake_any _ HBg.out).mono ?_
    rintro e w8 ⟨rfl, hb⟩
    have HBw8 := Lib.hid (HBw.out.trans (hb.mono HBw.out.size))
    clear hb
    go_wp2_with fail
    go_ret
    exact ⟨rfl, HBw8.out⟩
end abbrOffsets
end Go.Proofs.YtakpbgjmblbaiaaDoor
