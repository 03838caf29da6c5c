/-
  THE WALK of abbr.Parse.
-/
import Derived.Test.YtakpbgjmblbaiaaDoorAbbParse
import Derived.Test.YtakpbgjmblbaiaaDoorAwake
import Derived.WalkMore
import Derived.Deep.DeepCutAuto
import Derived.Deep.CutBlock
namespace Go.Proofs.YtakpbgjmblbaiaaDoor
open Go Go.RowKit AbbM

theorem trimleft_any (s : List UInt8) (w : World) :
    Calls Tryd.prog 28 #[.string ⟨s.toArray⟩, .string ⟨#[43, 45]⟩] w fun e w' => e = .returned (.string ⟨(Lib.trimLeftS s [43, 45]).toArray⟩) ∧ Below w.heap.size w w' :=
  Any.strings_TrimLeft_laid Tryd.lays161 (by kernel_rfl) ⟨s.toArray⟩ ⟨#[43, 45]⟩ w (by decide) (Go.Proofs.ascii_of_all (by decide +kernel))
theorem hasprefix_any (s : List UInt8) (w : World) :
    Calls Tryd.prog 29 #[.string ⟨s.toArray⟩, .string ⟨#[45]⟩] w fun e w' => e = .returned (.bool (Lib.hasPrefix s [45])) ∧ w = w' :=
  (Tryd.strings_HasPrefix ⟨s.toArray⟩ ⟨#[45]⟩ w).mono fun _ _ ⟨h1, h2⟩ => ⟨h1, h2.symm⟩
/-- what Parse answers -/
def parseV (s : List UInt8) : Value := .tuple (if -360000 < prM s ∧ prM s < 360000 ∧ offText (prM s) = s then #[.int .i64 (prM s), .int .i64 0] else #[.int .i64 0, .int .i64 12])
theorem parse_yes {s : List UInt8} {M : Int} (h : prM s = M) (h1 : -360000 < M ∧ M < 360000) (h2 : offText M = s) : parseV s = .tuple #[.int .i64 M, .int .i64 0] := by
  unfold parseV; rw [h, if_pos ⟨h1.1, h1.2, h2⟩]
theorem parse_no {s : List UInt8} {M : Int} (h : prM s = M) (h1 : ¬ ((-360000 < M ∧ M < 360000) ∧ offText M = s)) : parseV s = .tuple #[.int .i64 0, .int .i64 12] := by
  unfold parseV; rw [h, if_neg (fun h => h1 ⟨⟨h.1, h.2.1⟩, h.2.2⟩)]
set_option maxHeartbeats 4000000 in
theorem parse_any (s : List UInt8) (w : World) (hB : Big w) (hs : s.length ≤ 1000) :
    Calls Tryd.prog 18 #[.string ⟨s.toArray⟩] w fun e w' => e = .returned (parseV s) ∧ Below w.heap.size w w' := by
  have HBg := Lib.hid hB
  have HBw := Lib.hid (Below.refl w.heap.size w)
  clear hB
  go_enter Tryd.func18, Tryd.ntmps18
  go_wp2_with fail
  go_step3
  go_wp2_with fail
  refine (trimleft_any s _).mono ?_
  rintro e w1 ⟨rfl, hb⟩
  have HBw1 := Lib.hid (HBw.out.trans (hb.mono HBw.out.size))
  clear hb
  go_wp2_with fail
  go_step3
  go_upto_block 0 with fail
  obtain ⟨D, hD⟩ : ∃ D, Lib.trimLeftS s [43, 45] = D := ⟨_, rfl⟩
  have DL : D.length ≤ 1000 := by rw [← hD]; exact Nat.le_trans (List.dropWhile_sublist _).length_le hs
  obtain ⟨N, hN⟩ : ∃ N, pl D 0 3600 = N := ⟨_, rfl⟩
  have HD := Lib.hid hD
  have HN := Lib.hid hN
  rw [hD]
  clear hD hN
  go_cut [4, 5, 7] (fun v4 _ _ wx => v4 = .int .i64 N ∧ 0 ≤ N ∧ N ≤ 400000 ∧ Below w.heap.size w wx)
  case first =>
    go_wp2_with fail
    go_loopw [4, 5, 7] (fun v4 v5 v7 wr => ∃ (i : Nat) (n u : Int), v4 = .int .i64 n ∧ v5 = .int .i64 u ∧ v7 = .int .i64 i ∧ i ≤ 1002 ∧ pl (D.drop i) n u = N ∧ (u = 3600 ∧ n = 0 ∨ u = 60 ∧ 0 ≤ n ∧ n ≤ 356400 ∨ u = 1 ∧ 0 ≤ n ∧ n ≤ 362340 ∨ u = 0 ∧ 0 ≤ n ∧ n ≤ 362439) ∧ Below w.heap.size w wr) (fun _ _ v7 _ => (2000 - intOf v7).toNat)
    case atStart => exact ⟨0, 0, 3600, rfl, rfl, rfl, by omega, HN.out, .inl ⟨rfl, rfl⟩, HBw1.out⟩
    case round =>
      obtain ⟨i, n, u, rfl, rfl, rfl, i1, hp, hu, hB⟩ := hrel
      have HP := Lib.hid hp
      have HBr := Lib.hid hB
      clear hp hB
      by_cases hi : i + 1 < D.length
      · have hi2 : (i : Int) + 1 < (D.length : Int) := by omega
        obtain ⟨a, ha⟩ : ∃ a, (⟨D.toArray⟩ : ByteArray)[i]'(by show i < D.toArray.size; simp; omega) = a := ⟨_, rfl⟩
        obtain ⟨b, hb⟩ : ∃ b, (⟨D.toArray⟩ : ByteArray)[i + 1]'(by show i + 1 < D.toArray.size; simp; omega) = b := ⟨_, rfl⟩
        have HS := Lib.hid (pl_step (l := D) (i := i) (a := a) (b := b) (by rw [← ha]; exact List.getElem?_eq_getElem (by omega)) (by rw [← hb]; exact List.getElem?_eq_getElem hi) n u)
        have A1 : (a.toNat : Int) ≤ 255 := by have := a.toNat_lt; omega
        have B1 : (b.toNat : Int) ≤ 255 := by have := b.toNat_lt; omega
        have A0 : 0 ≤ (a.toNat : Int) := by omega
        have B0 : 0 ≤ (b.toNat : Int) := by omega
        rcases hu with ⟨rfl, rfl⟩ | ⟨rfl, n1, n2⟩ | ⟨rfl, n1, n2⟩ | ⟨rfl, n1, n2⟩
        ·
          by_cases a1 : (a.toNat : Int) < 48
          ·
            have HE := Lib.hid (show N = 0 by rw [← HP.out, HS.out, if_neg (by unfold isd; simp <;> omega)])
            go_wp2_with fail
            go_region
            go_wp2_with fail
            go_meet
            case rel => exact ⟨by rw [HE.out], by have := HE.out; omega, by have := HE.out; omega, HBr.out.drew⟩
          · by_cases a2 : 57 < (a.toNat : Int)
            ·
              have HE := Lib.hid (show N = 0 by rw [← HP.out, HS.out, if_neg (by unfold isd; simp <;> omega)])
              go_wp2_with fail
              go_region
              go_wp2_with fail
              go_meet
              case rel => exact ⟨by rw [HE.out], by have := HE.out; omega, by have := HE.out; omega, HBr.out.drew⟩
            · by_cases b1 : (b.toNat : Int) < 48
              ·
                have HE := Lib.hid (show N = 0 by rw [← HP.out, HS.out, if_neg (by unfold isd; simp <;> omega)])
                go_wp2_with fail
                go_region
                go_wp2_with fail
                go_meet
                case rel => exact ⟨by rw [HE.out], by have := HE.out; omega, by have := HE.out; omega, HBr.out.drew⟩
              · by_cases b2 : 57 < (b.toNat : Int)
                ·
                  have HE := Lib.hid (show N = 0 by rw [← HP.out, HS.out, if_neg (by unfold isd; simp <;> omega)])
                  go_wp2_with fail
                  go_region
                  go_wp2_with fail
                  go_meet
                  case rel => exact ⟨by rw [HE.out], by have := HE.out; omega, by have := HE.out; omega, HBr.out.drew⟩
                · have HE := Lib.hid (show pl (D.drop (i + 2)) (0 + (10 * dv a + dv b) * 3600) 60 = N by rw [← HP.out, HS.out, if_pos ⟨by unfold isd; simp; omega, by unfold isd; simp; omega, by decide⟩]; rfl)
                  go_wp2_with fail
                  go_region
                  go_wp2_with fail
                  go_roundw
                  case rel => exact ⟨i + 2, 0 + (10 * dv a + dv b) * 3600, 60, by unfold dv; try simp, rfl, rfl, by omega, HE.out, .inr (.inl ⟨rfl, by unfold dv; omega, by unfold dv; omega⟩), HBr.out.drew⟩
                  case measure => simp [intOf]; omega
        ·
          by_cases a1 : (a.toNat : Int) < 48
          ·
            have HE := Lib.hid (show N = n by rw [← HP.out, HS.out, if_neg (by unfold isd; simp <;> omega)])
            go_wp2_with fail
            go_region
            go_wp2_with fail
            go_meet
            case rel => exact ⟨by rw [HE.out], by have := HE.out; omega, by have := HE.out; omega, HBr.out.drew⟩
          · by_cases a2 : 57 < (a.toNat : Int)
            ·
              have HE := Lib.hid (show N = n by rw [← HP.out, HS.out, if_neg (by unfold isd; simp <;> omega)])
              go_wp2_with fail
              go_region
              go_wp2_with fail
              go_meet
              case rel => exact ⟨by rw [HE.out], by have := HE.out; omega, by have := HE.out; omega, HBr.out.drew⟩
            · by_cases b1 : (b.toNat : Int) < 48
              ·
                have HE := Lib.hid (show N = n by rw [← HP.out, HS.out, if_neg (by unfold isd; simp <;> omega)])
                go_wp2_with fail
                go_region
                go_wp2_with fail
                go_meet
                case rel => exact ⟨by rw [HE.out], by have := HE.out; omega, by have := HE.out; omega, HBr.out.drew⟩
              · by_cases b2 : 57 < (b.toNat : Int)
                ·
                  have HE := Lib.hid (show N = n by rw [← HP.out, HS.out, if_neg (by unfold isd; simp <;> omega)])
                  go_wp2_with fail
                  go_region
                  go_wp2_with fail
                  go_meet
                  case rel => exact ⟨by rw [HE.out], by have := HE.out; omega, by have := HE.out; omega, HBr.out.drew⟩
                · have HE := Lib.hid (show pl (D.drop (i + 2)) (n + (10 * dv a + dv b) * 60) 1 = N by rw [← HP.out, HS.out, if_pos ⟨by unfold isd; simp; omega, by unfold isd; simp; omega, by decide⟩]; rfl)
                  go_wp2_with fail
                  go_region
                  go_wp2_with fail
                  go_roundw
                  case rel => exact ⟨i + 2, n + (10 * dv a + dv b) * 60, 1, by unfold dv; try simp, rfl, rfl, by omega, HE.out, .inr (.inr (.inl ⟨rfl, by unfold dv; omega, by unfold dv; omega⟩)), HBr.out.drew⟩
                  case measure => simp [intOf]; omega
        ·
          by_cases a1 : (a.toNat : Int) < 48
          ·
            have HE := Lib.hid (show N = n by rw [← HP.out, HS.out, if_neg (by unfold isd; simp <;> omega)])
            go_wp2_with fail
            go_region
            go_wp2_with fail
            go_meet
            case rel => exact ⟨by rw [HE.out], by have := HE.out; omega, by have := HE.out; omega, HBr.out.drew⟩
          · by_cases a2 : 57 < (a.toNat : Int)
            ·
              have HE := Lib.hid (show N = n by rw [← HP.out, HS.out, if_neg (by unfold isd; simp <;> omega)])
              go_wp2_with fail
              go_region
              go_wp2_with fail
              go_meet
              case rel => exact ⟨by rw [HE.out], by have := HE.out; omega, by have := HE.out; omega, HBr.out.drew⟩
            · by_cases b1 : (b.toNat : Int) < 48
              ·
                have HE := Lib.hid (show N = n by rw [← HP.out, HS.out, if_neg (by unfold isd; simp <;> omega)])
                go_wp2_with fail
                go_region
                go_wp2_with fail
                go_meet
                case rel => exact ⟨by rw [HE.out], by have := HE.out; omega, by have := HE.out; omega, HBr.out.drew⟩
              · by_cases b2 : 57 < (b.toNat : Int)
                ·
                  have HE := Lib.hid (show N = n by rw [← HP.out, HS.out, if_neg (by unfold isd; simp <;> omega)])
                  go_wp2_with fail
                  go_region
                  go_wp2_with fail
                  go_meet
                  case rel => exact ⟨by rw [HE.out], by have := HE.out; omega, by have := HE.out; omega, HBr.out.drew⟩
                · have HE := Lib.hid (show pl (D.drop (i + 2)) (n + (10 * dv a + dv b) * 1) 0 = N by rw [← HP.out, HS.out, if_pos ⟨by unfold isd; simp; omega, by unfold isd; simp; omega, by decide⟩]; rfl)
                  go_wp2_with fail
                  go_region
                  go_wp2_with fail
                  go_roundw
                  case rel => exact ⟨i + 2, n + (10 * dv a + dv b) * 1, 0, by unfold dv; try simp, rfl, rfl, by omega, HE.out, .inr (.inr (.inr ⟨rfl, by unfold dv; omega, by unfold dv; omega⟩)), HBr.out.drew⟩
                  case measure => simp [intOf]; omega
        ·
          by_cases a1 : (a.toNat : Int) < 48
          ·
            have HE := Lib.hid (show N = n by rw [← HP.out, HS.out, if_neg (by unfold isd; simp <;> omega)])
            go_wp2_with fail
            go_region
            go_wp2_with fail
            go_meet
            case rel => exact ⟨by rw [HE.out], by have := HE.out; omega, by have := HE.out; omega, HBr.out.drew⟩
          · by_cases a2 : 57 < (a.toNat : Int)
            ·
              have HE := Lib.hid (show N = n by rw [← HP.out, HS.out, if_neg (by unfold isd; simp <;> omega)])
              go_wp2_with fail
              go_region
              go_wp2_with fail
              go_meet
              case rel => exact ⟨by rw [HE.out], by have := HE.out; omega, by have := HE.out; omega, HBr.out.drew⟩
            · by_cases b1 : (b.toNat : Int) < 48
              ·
                have HE := Lib.hid (show N = n by rw [← HP.out, HS.out, if_neg (by unfold isd; simp <;> omega)])
                go_wp2_with fail
                go_region
                go_wp2_with fail
                go_meet
                case rel => exact ⟨by rw [HE.out], by have := HE.out; omega, by have := HE.out; omega, HBr.out.drew⟩
              · by_cases b2 : 57 < (b.toNat : Int)
                ·
                  have HE := Lib.hid (show N = n by rw [← HP.out, HS.out, if_neg (by unfold isd; simp <;> omega)])
                  go_wp2_with fail
                  go_region
                  go_wp2_with fail
                  go_meet
                  case rel => exact ⟨by rw [HE.out], by have := HE.out; omega, by have := HE.out; omega, HBr.out.drew⟩
                ·
                  have HE := Lib.hid (show N = n by rw [← HP.out, HS.out, if_neg (by unfold isd; simp <;> omega)])
                  go_wp2_with fail
                  go_region
                  go_wp2_with fail
                  go_meet
                  case rel => exact ⟨by rw [HE.out], by have := HE.out; omega, by have := HE.out; omega, HBr.out.drew⟩
      · have hi2 : (D.length : Int) ≤ (i : Int) + 1 := by omega
        have HE := Lib.hid ((pl_short (l := D.drop i) (by simp; omega) n u).symm.trans HP.out)
        go_wp2_with fail
        go_meet
        case rel => exact ⟨by rw [HE.out], by have := HE.out; omega, by have := HE.out; omega, HBr.out⟩
  case rest =>
    obtain ⟨rfl, n0, n1, hB⟩ := hcut
    have HBc := Lib.hid hB
    clear hB
    go_wp2_with fail
    refine (hasprefix_any s _).mono ?_
    rintro e w' ⟨rfl, rfl⟩
    cases hp : Lib.hasPrefix s [45] with
    | true =>
      have EM := Lib.hid (show prM s = -N by unfold prM; rw [if_pos hp, HD.out, HN.out])
      clear hp
      by_cases ho : -360000 < (-N) ∧ (-N) < 360000
      · by_cases hq : offText (-N) = s
        · have EV := Lib.hid (parse_yes EM.out ho hq)
          have HQ := Lib.hid hq
          obtain ⟨o1, o2⟩ := ho
          clear hq
          go_wp2_with fail
          refine (offset_ok (-N) _ o1 o2).mono ?_
          rintro e w5 ⟨rfl, hb⟩
          have HBw5 := Lib.hid (HBc.out.trans (hb.mono HBc.out.size))
          clear hb
          rw [HQ.out]
          go_wp2_with fail
          try rw [Exit.noGoto_ret]
          go_ret2
          exact ⟨by rw [EV.out]; rfl, HBw5.out⟩
        · have EV := Lib.hid (parse_no EM.out (fun h => hq h.2))
          have hq2 : (offText (-N) == s) = false := beq_eq_false_iff_ne.2 hq
          obtain ⟨o1, o2⟩ := ho
          go_wp2_with fail
          refine (offset_ok (-N) _ o1 o2).mono ?_
          rintro e w5 ⟨rfl, hb⟩
          have HBw5 := Lib.hid (HBc.out.trans (hb.mono HBc.out.size))
          clear hb
          generalize offText (-N) = T at *
          go_wp2_with fail
          try rw [Exit.noGoto_ret]
          go_ret2
          exact ⟨by rw [EV.out]; rfl, HBw5.out⟩
      · have EV := Lib.hid (parse_no EM.out (fun h => ho h.1))
        have HO := Lib.hid ho
        clear ho
        go_wp2_with fail
        refine (offset_no (-N) _ HO.out).mono ?_
        rintro e w5 ⟨rfl, hb⟩
        have HBw5 := Lib.hid (HBc.out.trans (hb.mono HBc.out.size))
        clear hb
        go_wp2_with fail
        try rw [Exit.noGoto_ret]
        go_ret2
        exact ⟨by rw [EV.out]; rfl, HBw5.out⟩
    | false =>
      have EM := Lib.hid (show prM s = N by unfold prM; rw [if_neg (by rw [hp]; simp), HD.out, HN.out])
      clear hp
      by_cases ho : -360000 < N ∧ N < 360000
      · by_cases hq : offText N = s
        · have EV := Lib.hid (parse_yes EM.out ho hq)
          have HQ := Lib.hid hq
          obtain ⟨o1, o2⟩ := ho
          clear hq
          go_wp2_with fail
          refine (offset_ok N _ o1 o2).mono ?_
          rintro e w5 ⟨rfl, hb⟩
          have HBw5 := Lib.hid (HBc.out.trans (hb.mono HBc.out.size))
          clear hb
          rw [HQ.out]
          go_wp2_with fail
          try rw [Exit.noGoto_ret]
          go_ret2
          exact ⟨by rw [EV.out]; rfl, HBw5.out⟩
        · have EV := Lib.hid (parse_no EM.out (fun h => hq h.2))
          have hq2 : (offText N == s) = false := beq_eq_false_iff_ne.2 hq
          obtain ⟨o1, o2⟩ := ho
          go_wp2_with fail
          refine (offset_ok N _ o1 o2).mono ?_
          rintro e w5 ⟨rfl, hb⟩
          have HBw5 := Lib.hid (HBc.out.trans (hb.mono HBc.out.size))
          clear hb
          generalize offText N = T at *
          go_wp2_with fail
          try rw [Exit.noGoto_ret]
          go_ret2
          exact ⟨by rw [EV.out]; rfl, HBw5.out⟩
      · have EV := Lib.hid (parse_no EM.out (fun h => ho h.1))
        have HO := Lib.hid ho
        clear ho
        go_wp2_with fail
        refine (offset_no N _ HO.out).mono ?_
        rintro e w5 ⟨rfl, hb⟩
        have HBw5 := Lib.hid (HBc.out.trans (hb.mono HBc.out.size))
        clear hb
        go_wp2_with fail
        try rw [Exit.noGoto_ret]
        go_ret2
        exact ⟨by rw [EV.out]; rfl, HBw5.out⟩
end Go.Proofs.YtakpbgjmblbaiaaDoor
