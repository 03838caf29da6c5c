/-
  THE WALK of the document's Kind.
-/
import Derived.Test.YtakpbgjmblbaiaaDoorKind0
import Derived.Test.YtakpbgjmblbaiaaDoorAbbIx
namespace Go.Proofs.YtakpbgjmblbaiaaDoor
open Go Go.RowKit AbbM

/-- what the document's Kind answers -/
def rkret (l : List UInt8) : Value := .tuple #[.int .i64 (kindOf l).1, .int .i64 (kindOf l).2]
theorem rkret_eq {l : List UInt8} {k : Int} {p : Nat} (h : kindOf l = (k, p)) : rkret l = .tuple #[.int .i64 k, .int .i64 p] := by unfold rkret; rw [h]
theorem byte_ne {x c : UInt8} (h : ¬ x = c) : ((x.toNat : Int) == (c.toNat : Int)) = false := by
  rw [beq_eq_false_iff_ne]
  intro e
  exact h (UInt8.toNat_inj.1 (by omega))
set_option maxHeartbeats 4000000 in
theorem rkind_any (l : List UInt8) (w : World) (hl : l.length ≤ 1000) :
    Calls Tryd.prog 12 #[.string ⟨l.toArray⟩] w fun e w' => e = .returned (rkret l) ∧ w = w' := by
  by_cases h0 : l.length = 0 ∨ 64 < l.length
  · have EK := Lib.hid (rkret_eq (kind_none l h0))
    by_cases h1 : l.length = 0
    · clear h0
      have hne : (l.length : Int) = 0 := by omega
      go_enter Tryd.func12, Tryd.ntmps12
      go_wp2_with fail
      go_ret2
      exact ⟨by rw [EK.out]; rfl, rfl⟩
    · have h2 : 64 < (l.length : Int) := by omega
      clear h0
      go_enter Tryd.func12, Tryd.ntmps12
      go_wp2_with fail
      go_ret2
      exact ⟨by rw [EK.out]; rfl, rfl⟩
  · have H0 := Lib.hid h0
    have g0 : 0 < (l.length : Int) := by omega
    have g1 : (l.length : Int) ≤ 64 := by omega
    clear h0
    have hn : ((l.length : Int) == 0) = false := by rw [beq_eq_false_iff_ne]; omega
    have hnil : ¬ l = [] := by rintro rfl; simp at g0
    go_enter Tryd.func12, Tryd.ntmps12
    go_wp2_with fail
    go_loopw [4, 5, 6] (fun kv pv iv wr => ∃ (i p : Nat) (k : Int), kv = .int .i64 k ∧ pv = .int .i64 p ∧ iv = .int .i64 i ∧ i ≤ l.length ∧ Inv l i k p ∧ w = wr) (fun _ _ iv _ => ((l.length : Int) - intOf iv).toNat)
    case atStart => exact ⟨0, 0, 0, rfl, rfl, rfl, by omega, .inl ⟨rfl, rfl, lets_zero l 0⟩, rfl⟩
    case round =>
      obtain ⟨i, p, k, rfl, rfl, rfl, i1, hI, rfl⟩ := hrel
      have HI := Lib.hid hI
      have kb := hI.bd
      obtain ⟨kb1, kb2⟩ := kb
      have pb := hI.le
      clear hI
      by_cases hi : i < l.length
      · have hi2 : (i : Int) < (l.length : Int) := by omega
        obtain ⟨x, hx⟩ : ∃ x, (⟨l.toArray⟩ : ByteArray)[i]'(by show i < l.toArray.size; simpa using hi) = x := ⟨_, rfl⟩
        have HX := Lib.hid (show l[i]? = some x by rw [← hx]; exact List.getElem?_eq_getElem hi)
        go_wp2_with fail
        refine (rletter_any x _).mono ?_
        rintro e w' ⟨rfl, rfl⟩
        cases hL : ltr x with
        | true =>
          have HL := Lib.hid hL
          clear hL
          go_wp2_with fail
          go_roundw
          case rel => exact ⟨i + 1, p, k, rfl, rfl, rfl, by omega, HI.out.letter HX.out HL.out, trivial⟩
          case measure => simp [intOf]; omega
        | false =>
          have HL := Lib.hid hL
          clear hL
          by_cases hk : k = 0
          · subst hk
            by_cases z1 : x = 47
            · have n1 : (x.toNat : Int) = 47 := by rw [z1]; rfl
              have HZ := Lib.hid z1
              clear z1
              by_cases hp : 0 < i
              · have hp2 : 0 < (i : Int) := by omega
                by_cases hq : i + 1 < l.length
                · have hq2 : (i : Int) + 1 < (l.length : Int) := by omega
                  have HC := Lib.hid (show cls l i = 3 from by unfold cls; rw [HX.out, HZ.out, if_pos ⟨rfl, hp, hq⟩])
                  go_wp2_with fail
                  go_roundw
                  case rel => exact ⟨i + 1, i, 3, rfl, rfl, rfl, by omega, HI.out.mark HX.out HL.out 3 HC.out (by decide) (by decide), trivial⟩
                  case measure => simp [intOf]; omega
                · have hq2 : (l.length : Int) ≤ (i : Int) + 1 := by omega
                  have EK := Lib.hid (rkret_eq (HI.out.bad HX.out HL.out (show cls l i = -1 from by unfold cls; rw [HX.out, HZ.out, if_neg (by omega), if_neg (by simp), if_neg (by simp)]) H0.out))
                  go_wp2_with fail
                  go_ret2
                  exact ⟨by rw [EK.out]; rfl, rfl⟩
              · have hp2 : (i : Int) ≤ 0 := by omega
                have EK := Lib.hid (rkret_eq (HI.out.bad HX.out HL.out (show cls l i = -1 from by unfold cls; rw [HX.out, HZ.out, if_neg (by omega), if_neg (by simp), if_neg (by simp)]) H0.out))
                go_wp2_with fail
                go_ret2
                exact ⟨by rw [EK.out]; rfl, rfl⟩
            · have n1 : ((x.toNat : Int) == 47) = false := byte_ne z1
              by_cases z2 : x = 37
              · have n2 : (x.toNat : Int) = 37 := by rw [z2]; rfl
                clear n1
                have HZ := Lib.hid z2
                clear z2 z1
                by_cases hq : i + 1 < l.length
                · have hq2 : (i : Int) + 1 < (l.length : Int) := by omega
                  obtain ⟨y, hy⟩ : ∃ y, (⟨l.toArray⟩ : ByteArray)[i + 1]'(by show _ < l.toArray.size; simpa using hq) = y := ⟨_, rfl⟩
                  have HY := Lib.hid (show l[i + 1]? = some y by rw [← hy]; exact List.getElem?_eq_getElem hq)
                  by_cases y1 : y = 115
                  · have n3 : (y.toNat : Int) = 115 := by rw [y1]; rfl
                    have HW := Lib.hid y1
                    clear y1
                    have HC := Lib.hid (show cls l i = 1 from by unfold cls; rw [HX.out, HZ.out, HY.out, HW.out, if_neg (by simp), if_pos ⟨rfl, rfl⟩])
                    go_wp2_with fail
                    go_roundw
                    case rel => exact ⟨i + 1, i, 1, rfl, rfl, rfl, by omega, HI.out.mark HX.out HL.out 1 HC.out (by decide) (by decide), trivial⟩
                    case measure => simp [intOf]; omega
                  · have n3 : ((y.toNat : Int) == 115) = false := byte_ne y1
                    by_cases y2 : y = 122
                    · have n4 : (y.toNat : Int) = 122 := by rw [y2]; rfl
                      have HW := Lib.hid y2
                      clear y1 y2 n3
                      have HC := Lib.hid (show cls l i = 2 from by unfold cls; rw [HX.out, HZ.out, HY.out, HW.out, if_neg (by simp), if_neg (by simp), if_pos ⟨rfl, rfl⟩])
                      go_wp2_with fail
                      go_roundw
                      case rel => exact ⟨i + 1, i, 2, rfl, rfl, rfl, by omega, HI.out.mark HX.out HL.out 2 HC.out (by decide) (by decide), trivial⟩
                      case measure => simp [intOf]; omega
                    · have n4 : ((y.toNat : Int) == 122) = false := byte_ne y2
                      have W1 := Lib.hid y1
                      have W2 := Lib.hid y2
                      clear y1 y2
                      have EK := Lib.hid (rkret_eq (HI.out.bad HX.out HL.out (show cls l i = -1 from by unfold cls; rw [HX.out, HZ.out, HY.out, if_neg (by simp), if_neg (by simpa using W1.out), if_neg (by simpa using W2.out)]) H0.out))
                      go_wp2_with fail
                      go_ret2
                      exact ⟨by rw [EK.out]; rfl, rfl⟩
                · have hq2 : (l.length : Int) ≤ (i : Int) + 1 := by omega
                  have EK := Lib.hid (rkret_eq (HI.out.bad HX.out HL.out (show cls l i = -1 from by unfold cls; rw [HX.out, HZ.out, List.getElem?_eq_none (by omega), if_neg (by simp), if_neg (by simp), if_neg (by simp)]) H0.out))
                  go_wp2_with fail
                  go_ret2
                  exact ⟨by rw [EK.out]; rfl, rfl⟩
              · have n2 : ((x.toNat : Int) == 37) = false := byte_ne z2
                have W1 := Lib.hid z1
                have W2 := Lib.hid z2
                clear z1 z2
                have EK := Lib.hid (rkret_eq (HI.out.bad HX.out HL.out (show cls l i = -1 from by unfold cls; rw [HX.out, if_neg (by simpa using fun h => absurd h W1.out), if_neg (by simpa using fun h => absurd h W2.out), if_neg (by simpa using fun h => absurd h W2.out)]) H0.out))
                go_wp2_with fail
                go_ret2
                exact ⟨by rw [EK.out]; rfl, rfl⟩
          · have hk2 : (k != 0) = true := by simpa using hk
            have hk1 : 1 ≤ k := by omega
            have EK := Lib.hid (rkret_eq (HI.out.twice hk1 HX.out HL.out H0.out))
            clear hk
            go_wp2_with fail
            go_ret2
            exact ⟨by rw [EK.out]; rfl, rfl⟩
      · obtain rfl : i = l.length := by omega
        have EK := Lib.hid (rkret_eq (HI.out.done H0.out))
        go_wp2_with fail
        go_ret2
        exact ⟨by rw [EK.out]; rfl, rfl⟩
end Go.Proofs.YtakpbgjmblbaiaaDoor
