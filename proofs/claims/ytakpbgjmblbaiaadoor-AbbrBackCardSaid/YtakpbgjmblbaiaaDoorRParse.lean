/-
  THE WALK of the document's Parse.
-/
import Derived.Test.YtakpbgjmblbaiaaDoorParse
namespace Go.Proofs.YtakpbgjmblbaiaaDoor
open Go Go.RowKit AbbM

/-- what the document's loop comes to, with the sign; none: it is no offset's text -/
def rparse (s : List UInt8) : Option Int :=
  if (s.length = 3 ∨ s.length = 5 ∨ s.length = 7) ∧ (s.head? = some 43 ∨ s.head? = some 45) then
    match rpl (s.drop 1) 0 3600 with
    | none => none
    | some n => if s.head? = some 45 then some (-n) else some n
  else none
def rparseV (s : List UInt8) : Value :=
  match rparse s with
  | none => .tuple #[.int .i64 0, .bool false]
  | some m => .tuple #[.int .i64 m, .bool (decide (-360000 < m ∧ m < 360000) && (offText m == s))]
theorem rparseV_none {s : List UInt8} (h : rparse s = none) : rparseV s = .tuple #[.int .i64 0, .bool false] := by unfold rparseV; rw [h]
theorem rparseV_some {s : List UInt8} {m : Int} (h : rparse s = some m) : rparseV s = .tuple #[.int .i64 m, .bool (decide (-360000 < m ∧ m < 360000) && (offText m == s))] := by unfold rparseV; rw [h]
theorem rparse_short {s : List UInt8} (h : ¬ (s.length = 3 ∨ s.length = 5 ∨ s.length = 7)) : rparse s = none := by unfold rparse; rw [if_neg (fun x => h x.1)]
theorem rparse_off (off : Int) (h0 : -360000 < off) (h1 : off < 360000) : rparse (offText off) = some off := by
  unfold rparse offText
  by_cases h : off < 0
  · rw [if_pos h, otext_rest]
    have := rest_len (-off)
    rw [if_pos ⟨by simp; omega, by simp⟩]
    simp only [List.drop_one, List.tail_cons, rpl_rest (-off) (by omega) (by omega)]
    simp
  · rw [if_neg h, otext_rest]
    have := rest_len off
    rw [if_pos ⟨by simp; omega, by simp⟩]
    simp only [List.drop_one, List.tail_cons, rpl_rest off (by omega) (by omega)]
    simp
theorem rparse_sign {s : List UInt8} {c : UInt8} (h : s.head? = some c) (h1 : ¬ c = 43) (h2 : ¬ c = 45) : rparse s = none := by
  unfold rparse
  rw [if_neg]
  rintro ⟨_, h3 | h3⟩ <;> rw [h] at h3 <;> cases h3
  · exact h1 rfl
  · exact h2 rfl
theorem rparse_fail {s : List UInt8} (h : rpl (s.drop 1) 0 3600 = none) : rparse s = none := by
  unfold rparse
  split
  · rw [h]
  · rfl
theorem rparse_fin43 {s : List UInt8} {n : Int} (h : rpl (s.drop 1) 0 3600 = some n) (hc : s.head? = some 43) (hl : s.length = 3 ∨ s.length = 5 ∨ s.length = 7) : rparse s = some n := by
  unfold rparse
  rw [if_pos ⟨hl, .inl hc⟩, h]
  simp [hc]
theorem rparse_fin45 {s : List UInt8} {n : Int} (h : rpl (s.drop 1) 0 3600 = some n) (hc : s.head? = some 45) (hl : s.length = 3 ∨ s.length = 5 ∨ s.length = 7) : rparse s = some (-n) := by
  unfold rparse
  rw [if_pos ⟨hl, .inr hc⟩, h]
  simp [hc]
set_option maxHeartbeats 4000000 in
theorem rparse_any (s : List UInt8) (w : World) (hs : s.length ≤ 1000) :
    Calls Tryd.prog 19 #[.string ⟨s.toArray⟩] w fun e w' => e = .returned (rparseV s) ∧ Below w.heap.size w w' := by
  have HBw := Lib.hid (Below.refl w.heap.size w)
  by_cases hl : s.length = 3 ∨ s.length = 5 ∨ s.length = 7
  · have lp : 0 < s.length := by omega
    have lq : s.length ≤ 7 := by omega
    obtain ⟨c, hc⟩ : ∃ c, (⟨s.toArray⟩ : ByteArray)[0]'(by show 0 < s.toArray.size; simpa using lp) = c := ⟨_, rfl⟩
    have Hc := Lib.hid (show s.head? = some c by rw [← hc, List.head?_eq_getElem?]; exact List.getElem?_eq_getElem lp)
    rcases hl with hl | hl | hl
    · by_cases z1 : c = 43
      ·
        have cn : (c.toNat : Int) = 43 := by rw [z1]; rfl
        have HC := Lib.hid (show s.head? = some 43 by rw [Hc.out, z1])
        clear z1
        obtain ⟨R, hR⟩ : ∃ R, rpl (s.drop 1) 0 3600 = R := ⟨_, rfl⟩
        have HR := Lib.hid hR
        clear hR
        go_enter Tryd.func19, Tryd.ntmps19
        go_wp2_with fail
        go_loopw [4, 5, 6] (fun v4 v5 v6 wr => ∃ (i : Nat) (n u : Int), v4 = .int .i64 n ∧ v5 = .int .i64 u ∧ v6 = .int .i64 i ∧ i ≤ 3 ∧ rpl (s.drop i) n u = R ∧ (i = 1 ∧ u = 3600 ∧ n = 0 ∨ i = 3 ∧ u = 60 ∧ 0 ≤ n ∧ n ≤ 356400 ∨ i = 5 ∧ u = 1 ∧ 0 ≤ n ∧ n ≤ 362340 ∨ i = 7 ∧ u = 0 ∧ 0 ≤ n ∧ n ≤ 362439) ∧ Below w.heap.size w wr) (fun _ _ v6 _ => (2000 - intOf v6).toNat)
        case atStart => exact ⟨1, 0, 3600, rfl, rfl, rfl, by omega, HR.out, .inl ⟨rfl, rfl, rfl⟩, HBw.out⟩
        case round =>
          obtain ⟨i, n, u, rfl, rfl, rfl, i1, hp, hu, hB⟩ := hrel
          have HP := Lib.hid hp
          have HBr := Lib.hid hB
          clear hp hB
          rcases hu with ⟨rfl, rfl, rfl⟩ | ⟨rfl, rfl, n1, n2⟩ | ⟨rfl, rfl, n1, n2⟩ | ⟨rfl, rfl, n1, n2⟩
          ·
            obtain ⟨a, ha⟩ : ∃ a, (⟨s.toArray⟩ : ByteArray)[1]'(by show 1 < s.toArray.size; simp; omega) = a := ⟨_, rfl⟩
            obtain ⟨b, hb⟩ : ∃ b, (⟨s.toArray⟩ : ByteArray)[1 + 1]'(by show 1 + 1 < s.toArray.size; simp; omega) = b := ⟨_, rfl⟩
            have HS := Lib.hid (rpl_step (l := s) (i := 1) (a := a) (b := b) (by rw [← ha]; exact List.getElem?_eq_getElem (by omega)) (by rw [← hb]; exact List.getElem?_eq_getElem (by omega)) (0) 3600)
            have A1 : (a.toNat : Int) ≤ 255 := by have := a.toNat_lt; omega
            have B1 : (b.toNat : Int) ≤ 255 := by have := b.toNat_lt; omega
            have A0 : 0 ≤ (a.toNat : Int) := by omega
            have B0 : 0 ≤ (b.toNat : Int) := by omega
            by_cases a1 : (a.toNat : Int) < 48
            ·
              have EV := Lib.hid (rparseV_none (rparse_fail (show rpl (s.drop 1) 0 3600 = none by rw [HR.out, ← HP.out, HS.out, if_neg (by unfold isd; simp <;> omega)])))
              go_wp2_with fail
              go_ret2
              exact ⟨by rw [EV.out]; rfl, HBr.out⟩
            · by_cases a2 : 57 < (a.toNat : Int)
              ·
                have EV := Lib.hid (rparseV_none (rparse_fail (show rpl (s.drop 1) 0 3600 = none by rw [HR.out, ← HP.out, HS.out, if_neg (by unfold isd; simp <;> omega)])))
                go_wp2_with fail
                go_ret2
                exact ⟨by rw [EV.out]; rfl, HBr.out⟩
              · by_cases b1 : (b.toNat : Int) < 48
                ·
                  have EV := Lib.hid (rparseV_none (rparse_fail (show rpl (s.drop 1) 0 3600 = none by rw [HR.out, ← HP.out, HS.out, if_neg (by unfold isd; simp <;> omega)])))
                  go_wp2_with fail
                  go_ret2
                  exact ⟨by rw [EV.out]; rfl, HBr.out⟩
                · by_cases b2 : 57 < (b.toNat : Int)
                  ·
                    have EV := Lib.hid (rparseV_none (rparse_fail (show rpl (s.drop 1) 0 3600 = none by rw [HR.out, ← HP.out, HS.out, if_neg (by unfold isd; simp <;> omega)])))
                    go_wp2_with fail
                    go_ret2
                    exact ⟨by rw [EV.out]; rfl, HBr.out⟩
                  · have HE := Lib.hid (show rpl (s.drop (1 + 2)) (0 + 3600 * (10 * dv a + dv b)) 60 = R by rw [← HP.out, HS.out, if_pos ⟨by unfold isd; simp; omega, by unfold isd; simp; omega⟩]; rfl)
                    go_wp2_with fail
                    go_region
                    go_wp2_with fail
                    go_roundw
                    case rel => exact ⟨1 + 2, 0 + 3600 * (10 * dv a + dv b), 60, by unfold dv; try simp, rfl, rfl, by omega, HE.out, .inr (.inl ⟨rfl, rfl, by unfold dv; omega, by unfold dv; omega⟩), HBr.out.drew⟩
                    case measure => simp [intOf]
          ·
            have EV := Lib.hid (rparseV_some (rparse_fin43 (show rpl (s.drop 1) 0 3600 = some n by rw [HR.out, ← HP.out, rpl_short (by simp; omega)]) HC.out (by omega)))
            by_cases ho : -360000 < n ∧ n < 360000
            · have EW := Lib.hid (show rparseV s = .tuple #[.int .i64 n, .bool (offText n == s)] by rw [EV.out, decide_eq_true ho]; rfl)
              obtain ⟨o1, o2⟩ := ho
              clear EV
              go_wp2_with fail
              refine (roffset_ok n _ o1 o2).mono ?_
              rintro e w5 ⟨rfl, hb⟩
              have HBw5 := Lib.hid (HBr.out.trans (hb.mono HBr.out.size))
              clear hb
              generalize offText n = T at *
              go_wp2_with fail
              go_ret2
              exact ⟨by rw [EW.out]; rfl, HBw5.out⟩
            · have EW := Lib.hid (show rparseV s = .tuple #[.int .i64 n, .bool false] by rw [EV.out, decide_eq_false ho]; rfl)
              clear EV
              first
              | (exfalso; omega)
              | (by_cases h1 : n ≤ -360000
                 · first
                   | (exfalso; omega)
                   | (clear ho
                      go_wp2_with fail
                      go_ret2
                      exact ⟨by rw [EW.out]; rfl, HBr.out⟩)
                 · have h2 : 360000 ≤ n := by omega
                   first
                   | (exfalso; omega)
                   | (clear ho
                      go_wp2_with fail
                      go_ret2
                      exact ⟨by rw [EW.out]; rfl, HBr.out⟩))
          · omega
          · omega
      · by_cases z2 : c = 45
        ·
          have cn : (c.toNat : Int) = 45 := by rw [z2]; rfl
          have HC := Lib.hid (show s.head? = some 45 by rw [Hc.out, z2])
          clear z1 z2
          obtain ⟨R, hR⟩ : ∃ R, rpl (s.drop 1) 0 3600 = R := ⟨_, rfl⟩
          have HR := Lib.hid hR
          clear hR
          go_enter Tryd.func19, Tryd.ntmps19
          go_wp2_with fail
          go_loopw [4, 5, 6] (fun v4 v5 v6 wr => ∃ (i : Nat) (n u : Int), v4 = .int .i64 n ∧ v5 = .int .i64 u ∧ v6 = .int .i64 i ∧ i ≤ 3 ∧ rpl (s.drop i) n u = R ∧ (i = 1 ∧ u = 3600 ∧ n = 0 ∨ i = 3 ∧ u = 60 ∧ 0 ≤ n ∧ n ≤ 356400 ∨ i = 5 ∧ u = 1 ∧ 0 ≤ n ∧ n ≤ 362340 ∨ i = 7 ∧ u = 0 ∧ 0 ≤ n ∧ n ≤ 362439) ∧ Below w.heap.size w wr) (fun _ _ v6 _ => (2000 - intOf v6).toNat)
          case atStart => exact ⟨1, 0, 3600, rfl, rfl, rfl, by omega, HR.out, .inl ⟨rfl, rfl, rfl⟩, HBw.out⟩
          case round =>
            obtain ⟨i, n, u, rfl, rfl, rfl, i1, hp, hu, hB⟩ := hrel
            have HP := Lib.hid hp
            have HBr := Lib.hid hB
            clear hp hB
            rcases hu with ⟨rfl, rfl, rfl⟩ | ⟨rfl, rfl, n1, n2⟩ | ⟨rfl, rfl, n1, n2⟩ | ⟨rfl, rfl, n1, n2⟩
            ·
              obtain ⟨a, ha⟩ : ∃ a, (⟨s.toArray⟩ : ByteArray)[1]'(by show 1 < s.toArray.size; simp; omega) = a := ⟨_, rfl⟩
              obtain ⟨b, hb⟩ : ∃ b, (⟨s.toArray⟩ : ByteArray)[1 + 1]'(by show 1 + 1 < s.toArray.size; simp; omega) = b := ⟨_, rfl⟩
              have HS := Lib.hid (rpl_step (l := s) (i := 1) (a := a) (b := b) (by rw [← ha]; exact List.getElem?_eq_getElem (by omega)) (by rw [← hb]; exact List.getElem?_eq_getElem (by omega)) (0) 3600)
              have A1 : (a.toNat : Int) ≤ 255 := by have := a.toNat_lt; omega
              have B1 : (b.toNat : Int) ≤ 255 := by have := b.toNat_lt; omega
              have A0 : 0 ≤ (a.toNat : Int) := by omega
              have B0 : 0 ≤ (b.toNat : Int) := by omega
              by_cases a1 : (a.toNat : Int) < 48
              ·
                have EV := Lib.hid (rparseV_none (rparse_fail (show rpl (s.drop 1) 0 3600 = none by rw [HR.out, ← HP.out, HS.out, if_neg (by unfold isd; simp <;> omega)])))
                go_wp2_with fail
                go_ret2
                exact ⟨by rw [EV.out]; rfl, HBr.out⟩
              · by_cases a2 : 57 < (a.toNat : Int)
                ·
                  have EV := Lib.hid (rparseV_none (rparse_fail (show rpl (s.drop 1) 0 3600 = none by rw [HR.out, ← HP.out, HS.out, if_neg (by unfold isd; simp <;> omega)])))
                  go_wp2_with fail
                  go_ret2
                  exact ⟨by rw [EV.out]; rfl, HBr.out⟩
                · by_cases b1 : (b.toNat : Int) < 48
                  ·
                    have EV := Lib.hid (rparseV_none (rparse_fail (show rpl (s.drop 1) 0 3600 = none by rw [HR.out, ← HP.out, HS.out, if_neg (by unfold isd; simp <;> omega)])))
                    go_wp2_with fail
                    go_ret2
                    exact ⟨by rw [EV.out]; rfl, HBr.out⟩
                  · by_cases b2 : 57 < (b.toNat : Int)
                    ·
                      have EV := Lib.hid (rparseV_none (rparse_fail (show rpl (s.drop 1) 0 3600 = none by rw [HR.out, ← HP.out, HS.out, if_neg (by unfold isd; simp <;> omega)])))
                      go_wp2_with fail
                      go_ret2
                      exact ⟨by rw [EV.out]; rfl, HBr.out⟩
                    · have HE := Lib.hid (show rpl (s.drop (1 + 2)) (0 + 3600 * (10 * dv a + dv b)) 60 = R by rw [← HP.out, HS.out, if_pos ⟨by unfold isd; simp; omega, by unfold isd; simp; omega⟩]; rfl)
                      go_wp2_with fail
                      go_region
                      go_wp2_with fail
                      go_roundw
                      case rel => exact ⟨1 + 2, 0 + 3600 * (10 * dv a + dv b), 60, by unfold dv; try simp, rfl, rfl, by omega, HE.out, .inr (.inl ⟨rfl, rfl, by unfold dv; omega, by unfold dv; omega⟩), HBr.out.drew⟩
                      case measure => simp [intOf]
            ·
              have EV := Lib.hid (rparseV_some (rparse_fin45 (show rpl (s.drop 1) 0 3600 = some n by rw [HR.out, ← HP.out, rpl_short (by simp; omega)]) HC.out (by omega)))
              by_cases ho : -360000 < (-n) ∧ (-n) < 360000
              · have EW := Lib.hid (show rparseV s = .tuple #[.int .i64 (-n), .bool (offText (-n) == s)] by rw [EV.out, decide_eq_true ho]; rfl)
                obtain ⟨o1, o2⟩ := ho
                clear EV
                go_wp2_with fail
                refine (roffset_ok (-n) _ o1 o2).mono ?_
                rintro e w5 ⟨rfl, hb⟩
                have HBw5 := Lib.hid (HBr.out.trans (hb.mono HBr.out.size))
                clear hb
                generalize offText (-n) = T at *
                go_wp2_with fail
                go_ret2
                exact ⟨by rw [EW.out]; rfl, HBw5.out⟩
              · have EW := Lib.hid (show rparseV s = .tuple #[.int .i64 (-n), .bool false] by rw [EV.out, decide_eq_false ho]; rfl)
                clear EV
                first
                | (exfalso; omega)
                | (by_cases h1 : (-n) ≤ -360000
                   · first
                     | (exfalso; omega)
                     | (clear ho
                        go_wp2_with fail
                        go_ret2
                        exact ⟨by rw [EW.out]; rfl, HBr.out⟩)
                   · have h2 : 360000 ≤ (-n) := by omega
                     first
                     | (exfalso; omega)
                     | (clear ho
                        go_wp2_with fail
                        go_ret2
                        exact ⟨by rw [EW.out]; rfl, HBr.out⟩))
            · omega
            · omega
        ·
          have EV := Lib.hid (rparseV_none (rparse_sign Hc.out z1 z2))
          have n1 : ((c.toNat : Int) == 43) = false := byte_ne z1
          have n2 : ((c.toNat : Int) == 45) = false := byte_ne z2
          have m1 : ((c.toNat : Int) != 43) = true := by rw [bne, n1]; rfl
          have m2 : ((c.toNat : Int) != 45) = true := by rw [bne, n2]; rfl
          clear z1 z2
          go_enter Tryd.func19, Tryd.ntmps19
          go_wp2_with fail
          go_ret2
          exact ⟨by rw [EV.out]; rfl, HBw.out⟩
    · by_cases z1 : c = 43
      ·
        have cn : (c.toNat : Int) = 43 := by rw [z1]; rfl
        have HC := Lib.hid (show s.head? = some 43 by rw [Hc.out, z1])
        clear z1
        obtain ⟨R, hR⟩ : ∃ R, rpl (s.drop 1) 0 3600 = R := ⟨_, rfl⟩
        have HR := Lib.hid hR
        clear hR
        go_enter Tryd.func19, Tryd.ntmps19
        go_wp2_with fail
        go_loopw [4, 5, 6] (fun v4 v5 v6 wr => ∃ (i : Nat) (n u : Int), v4 = .int .i64 n ∧ v5 = .int .i64 u ∧ v6 = .int .i64 i ∧ i ≤ 5 ∧ rpl (s.drop i) n u = R ∧ (i = 1 ∧ u = 3600 ∧ n = 0 ∨ i = 3 ∧ u = 60 ∧ 0 ≤ n ∧ n ≤ 356400 ∨ i = 5 ∧ u = 1 ∧ 0 ≤ n ∧ n ≤ 362340 ∨ i = 7 ∧ u = 0 ∧ 0 ≤ n ∧ n ≤ 362439) ∧ Below w.heap.size w wr) (fun _ _ v6 _ => (2000 - intOf v6).toNat)
        case atStart => exact ⟨1, 0, 3600, rfl, rfl, rfl, by omega, HR.out, .inl ⟨rfl, rfl, rfl⟩, HBw.out⟩
        case round =>
          obtain ⟨i, n, u, rfl, rfl, rfl, i1, hp, hu, hB⟩ := hrel
          have HP := Lib.hid hp
          have HBr := Lib.hid hB
          clear hp hB
          rcases hu with ⟨rfl, rfl, rfl⟩ | ⟨rfl, rfl, n1, n2⟩ | ⟨rfl, rfl, n1, n2⟩ | ⟨rfl, rfl, n1, n2⟩
          ·
            obtain ⟨a, ha⟩ : ∃ a, (⟨s.toArray⟩ : ByteArray)[1]'(by show 1 < s.toArray.size; simp; omega) = a := ⟨_, rfl⟩
            obtain ⟨b, hb⟩ : ∃ b, (⟨s.toArray⟩ : ByteArray)[1 + 1]'(by show 1 + 1 < s.toArray.size; simp; omega) = b := ⟨_, rfl⟩
            have HS := Lib.hid (rpl_step (l := s) (i := 1) (a := a) (b := b) (by rw [← ha]; exact List.getElem?_eq_getElem (by omega)) (by rw [← hb]; exact List.getElem?_eq_getElem (by omega)) (0) 3600)
            have A1 : (a.toNat : Int) ≤ 255 := by have := a.toNat_lt; omega
            have B1 : (b.toNat : Int) ≤ 255 := by have := b.toNat_lt; omega
            have A0 : 0 ≤ (a.toNat : Int) := by omega
            have B0 : 0 ≤ (b.toNat : Int) := by omega
            by_cases a1 : (a.toNat : Int) < 48
            ·
              have EV := Lib.hid (rparseV_none (rparse_fail (show rpl (s.drop 1) 0 3600 = none by rw [HR.out, ← HP.out, HS.out, if_neg (by unfold isd; simp <;> omega)])))
              go_wp2_with fail
              go_ret2
              exact ⟨by rw [EV.out]; rfl, HBr.out⟩
            · by_cases a2 : 57 < (a.toNat : Int)
              ·
                have EV := Lib.hid (rparseV_none (rparse_fail (show rpl (s.drop 1) 0 3600 = none by rw [HR.out, ← HP.out, HS.out, if_neg (by unfold isd; simp <;> omega)])))
                go_wp2_with fail
                go_ret2
                exact ⟨by rw [EV.out]; rfl, HBr.out⟩
              · by_cases b1 : (b.toNat : Int) < 48
                ·
                  have EV := Lib.hid (rparseV_none (rparse_fail (show rpl (s.drop 1) 0 3600 = none by rw [HR.out, ← HP.out, HS.out, if_neg (by unfold isd; simp <;> omega)])))
                  go_wp2_with fail
                  go_ret2
                  exact ⟨by rw [EV.out]; rfl, HBr.out⟩
                · by_cases b2 : 57 < (b.toNat : Int)
                  ·
                    have EV := Lib.hid (rparseV_none (rparse_fail (show rpl (s.drop 1) 0 3600 = none by rw [HR.out, ← HP.out, HS.out, if_neg (by unfold isd; simp <;> omega)])))
                    go_wp2_with fail
                    go_ret2
                    exact ⟨by rw [EV.out]; rfl, HBr.out⟩
                  · have HE := Lib.hid (show rpl (s.drop (1 + 2)) (0 + 3600 * (10 * dv a + dv b)) 60 = R by rw [← HP.out, HS.out, if_pos ⟨by unfold isd; simp; omega, by unfold isd; simp; omega⟩]; rfl)
                    go_wp2_with fail
                    go_region
                    go_wp2_with fail
                    go_roundw
                    case rel => exact ⟨1 + 2, 0 + 3600 * (10 * dv a + dv b), 60, by unfold dv; try simp, rfl, rfl, by omega, HE.out, .inr (.inl ⟨rfl, rfl, by unfold dv; omega, by unfold dv; omega⟩), HBr.out.drew⟩
                    case measure => simp [intOf]
          ·
            obtain ⟨a, ha⟩ : ∃ a, (⟨s.toArray⟩ : ByteArray)[3]'(by show 3 < s.toArray.size; simp; omega) = a := ⟨_, rfl⟩
            obtain ⟨b, hb⟩ : ∃ b, (⟨s.toArray⟩ : ByteArray)[3 + 1]'(by show 3 + 1 < s.toArray.size; simp; omega) = b := ⟨_, rfl⟩
            have HS := Lib.hid (rpl_step (l := s) (i := 3) (a := a) (b := b) (by rw [← ha]; exact List.getElem?_eq_getElem (by omega)) (by rw [← hb]; exact List.getElem?_eq_getElem (by omega)) (n) 60)
            have A1 : (a.toNat : Int) ≤ 255 := by have := a.toNat_lt; omega
            have B1 : (b.toNat : Int) ≤ 255 := by have := b.toNat_lt; omega
            have A0 : 0 ≤ (a.toNat : Int) := by omega
            have B0 : 0 ≤ (b.toNat : Int) := by omega
            by_cases a1 : (a.toNat : Int) < 48
            ·
              have EV := Lib.hid (rparseV_none (rparse_fail (show rpl (s.drop 1) 0 3600 = none by rw [HR.out, ← HP.out, HS.out, if_neg (by unfold isd; simp <;> omega)])))
              go_wp2_with fail
              go_ret2
              exact ⟨by rw [EV.out]; rfl, HBr.out⟩
            · by_cases a2 : 57 < (a.toNat : Int)
              ·
                have EV := Lib.hid (rparseV_none (rparse_fail (show rpl (s.drop 1) 0 3600 = none by rw [HR.out, ← HP.out, HS.out, if_neg (by unfold isd; simp <;> omega)])))
                go_wp2_with fail
                go_ret2
                exact ⟨by rw [EV.out]; rfl, HBr.out⟩
              · by_cases b1 : (b.toNat : Int) < 48
                ·
                  have EV := Lib.hid (rparseV_none (rparse_fail (show rpl (s.drop 1) 0 3600 = none by rw [HR.out, ← HP.out, HS.out, if_neg (by unfold isd; simp <;> omega)])))
                  go_wp2_with fail
                  go_ret2
                  exact ⟨by rw [EV.out]; rfl, HBr.out⟩
                · by_cases b2 : 57 < (b.toNat : Int)
                  ·
                    have EV := Lib.hid (rparseV_none (rparse_fail (show rpl (s.drop 1) 0 3600 = none by rw [HR.out, ← HP.out, HS.out, if_neg (by unfold isd; simp <;> omega)])))
                    go_wp2_with fail
                    go_ret2
                    exact ⟨by rw [EV.out]; rfl, HBr.out⟩
                  · have HE := Lib.hid (show rpl (s.drop (3 + 2)) (n + 60 * (10 * dv a + dv b)) 1 = R by rw [← HP.out, HS.out, if_pos ⟨by unfold isd; simp; omega, by unfold isd; simp; omega⟩]; rfl)
                    go_wp2_with fail
                    go_region
                    go_wp2_with fail
                    go_roundw
                    case rel => exact ⟨3 + 2, n + 60 * (10 * dv a + dv b), 1, by unfold dv; try simp, rfl, rfl, by omega, HE.out, .inr (.inr (.inl ⟨rfl, rfl, by unfold dv; omega, by unfold dv; omega⟩)), HBr.out.drew⟩
                    case measure => simp [intOf]
          ·
            have EV := Lib.hid (rparseV_some (rparse_fin43 (show rpl (s.drop 1) 0 3600 = some n by rw [HR.out, ← HP.out, rpl_short (by simp; omega)]) HC.out (by omega)))
            by_cases ho : -360000 < n ∧ n < 360000
            · have EW := Lib.hid (show rparseV s = .tuple #[.int .i64 n, .bool (offText n == s)] by rw [EV.out, decide_eq_true ho]; rfl)
              obtain ⟨o1, o2⟩ := ho
              clear EV
              go_wp2_with fail
              refine (roffset_ok n _ o1 o2).mono ?_
              rintro e w5 ⟨rfl, hb⟩
              have HBw5 := Lib.hid (HBr.out.trans (hb.mono HBr.out.size))
              clear hb
              generalize offText n = T at *
              go_wp2_with fail
              go_ret2
              exact ⟨by rw [EW.out]; rfl, HBw5.out⟩
            · have EW := Lib.hid (show rparseV s = .tuple #[.int .i64 n, .bool false] by rw [EV.out, decide_eq_false ho]; rfl)
              clear EV
              first
              | (exfalso; omega)
              | (by_cases h1 : n ≤ -360000
                 · first
                   | (exfalso; omega)
                   | (clear ho
                      go_wp2_with fail
                      go_ret2
                      exact ⟨by rw [EW.out]; rfl, HBr.out⟩)
                 · have h2 : 360000 ≤ n := by omega
                   first
                   | (exfalso; omega)
                   | (clear ho
                      go_wp2_with fail
                      go_ret2
                      exact ⟨by rw [EW.out]; rfl, HBr.out⟩))
          · omega
      · by_cases z2 : c = 45
        ·
          have cn : (c.toNat : Int) = 45 := by rw [z2]; rfl
          have HC := Lib.hid (show s.head? = some 45 by rw [Hc.out, z2])
          clear z1 z2
          obtain ⟨R, hR⟩ : ∃ R, rpl (s.drop 1) 0 3600 = R := ⟨_, rfl⟩
          have HR := Lib.hid hR
          clear hR
          go_enter Tryd.func19, Tryd.ntmps19
          go_wp2_with fail
          go_loopw [4, 5, 6] (fun v4 v5 v6 wr => ∃ (i : Nat) (n u : Int), v4 = .int .i64 n ∧ v5 = .int .i64 u ∧ v6 = .int .i64 i ∧ i ≤ 5 ∧ rpl (s.drop i) n u = R ∧ (i = 1 ∧ u = 3600 ∧ n = 0 ∨ i = 3 ∧ u = 60 ∧ 0 ≤ n ∧ n ≤ 356400 ∨ i = 5 ∧ u = 1 ∧ 0 ≤ n ∧ n ≤ 362340 ∨ i = 7 ∧ u = 0 ∧ 0 ≤ n ∧ n ≤ 362439) ∧ Below w.heap.size w wr) (fun _ _ v6 _ => (2000 - intOf v6).toNat)
          case atStart => exact ⟨1, 0, 3600, rfl, rfl, rfl, by omega, HR.out, .inl ⟨rfl, rfl, rfl⟩, HBw.out⟩
          case round =>
            obtain ⟨i, n, u, rfl, rfl, rfl, i1, hp, hu, hB⟩ := hrel
            have HP := Lib.hid hp
            have HBr := Lib.hid hB
            clear hp hB
            rcases hu with ⟨rfl, rfl, rfl⟩ | ⟨rfl, rfl, n1, n2⟩ | ⟨rfl, rfl, n1, n2⟩ | ⟨rfl, rfl, n1, n2⟩
            ·
              obtain ⟨a, ha⟩ : ∃ a, (⟨s.toArray⟩ : ByteArray)[1]'(by show 1 < s.toArray.size; simp; omega) = a := ⟨_, rfl⟩
              obtain ⟨b, hb⟩ : ∃ b, (⟨s.toArray⟩ : ByteArray)[1 + 1]'(by show 1 + 1 < s.toArray.size; simp; omega) = b := ⟨_, rfl⟩
              have HS := Lib.hid (rpl_step (l := s) (i := 1) (a := a) (b := b) (by rw [← ha]; exact List.getElem?_eq_getElem (by omega)) (by rw [← hb]; exact List.getElem?_eq_getElem (by omega)) (0) 3600)
              have A1 : (a.toNat : Int) ≤ 255 := by have := a.toNat_lt; omega
              have B1 : (b.toNat : Int) ≤ 255 := by have := b.toNat_lt; omega
              have A0 : 0 ≤ (a.toNat : Int) := by omega
              have B0 : 0 ≤ (b.toNat : Int) := by omega
              by_cases a1 : (a.toNat : Int) < 48
              ·
                have EV := Lib.hid (rparseV_none (rparse_fail (show rpl (s.drop 1) 0 3600 = none by rw [HR.out, ← HP.out, HS.out, if_neg (by unfold isd; simp <;> omega)])))
                go_wp2_with fail
                go_ret2
                exact ⟨by rw [EV.out]; rfl, HBr.out⟩
              · by_cases a2 : 57 < (a.toNat : Int)
                ·
                  have EV := Lib.hid (rparseV_none (rparse_fail (show rpl (s.drop 1) 0 3600 = none by rw [HR.out, ← HP.out, HS.out, if_neg (by unfold isd; simp <;> omega)])))
                  go_wp2_with fail
                  go_ret2
                  exact ⟨by rw [EV.out]; rfl, HBr.out⟩
                · by_cases b1 : (b.toNat : Int) < 48
                  ·
                    have EV := Lib.hid (rparseV_none (rparse_fail (show rpl (s.drop 1) 0 3600 = none by rw [HR.out, ← HP.out, HS.out, if_neg (by unfold isd; simp <;> omega)])))
                    go_wp2_with fail
                    go_ret2
                    exact ⟨by rw [EV.out]; rfl, HBr.out⟩
                  · by_cases b2 : 57 < (b.toNat : Int)
                    ·
                      have EV := Lib.hid (rparseV_none (rparse_fail (show rpl (s.drop 1) 0 3600 = none by rw [HR.out, ← HP.out, HS.out, if_neg (by unfold isd; simp <;> omega)])))
                      go_wp2_with fail
                      go_ret2
                      exact ⟨by rw [EV.out]; rfl, HBr.out⟩
                    · have HE := Lib.hid (show rpl (s.drop (1 + 2)) (0 + 3600 * (10 * dv a + dv b)) 60 = R by rw [← HP.out, HS.out, if_pos ⟨by unfold isd; simp; omega, by unfold isd; simp; omega⟩]; rfl)
                      go_wp2_with fail
                      go_region
                      go_wp2_with fail
                      go_roundw
                      case rel => exact ⟨1 + 2, 0 + 3600 * (10 * dv a + dv b), 60, by unfold dv; try simp, rfl, rfl, by omega, HE.out, .inr (.inl ⟨rfl, rfl, by unfold dv; omega, by unfold dv; omega⟩), HBr.out.drew⟩
                      case measure => simp [intOf]
            ·
              obtain ⟨a, ha⟩ : ∃ a, (⟨s.toArray⟩ : ByteArray)[3]'(by show 3 < s.toArray.size; simp; omega) = a := ⟨_, rfl⟩
              obtain ⟨b, hb⟩ : ∃ b, (⟨s.toArray⟩ : ByteArray)[3 + 1]'(by show 3 + 1 < s.toArray.size; simp; omega) = b := ⟨_, rfl⟩
              have HS := Lib.hid (rpl_step (l := s) (i := 3) (a := a) (b := b) (by rw [← ha]; exact List.getElem?_eq_getElem (by omega)) (by rw [← hb]; exact List.getElem?_eq_getElem (by omega)) (n) 60)
              have A1 : (a.toNat : Int) ≤ 255 := by have := a.toNat_lt; omega
              have B1 : (b.toNat : Int) ≤ 255 := by have := b.toNat_lt; omega
              have A0 : 0 ≤ (a.toNat : Int) := by omega
              have B0 : 0 ≤ (b.toNat : Int) := by omega
              by_cases a1 : (a.toNat : Int) < 48
              ·
                have EV := Lib.hid (rparseV_none (rparse_fail (show rpl (s.drop 1) 0 3600 = none by rw [HR.out, ← HP.out, HS.out, if_neg (by unfold isd; simp <;> omega)])))
                go_wp2_with fail
                go_ret2
                exact ⟨by rw [EV.out]; rfl, HBr.out⟩
              · by_cases a2 : 57 < (a.toNat : Int)
                ·
                  have EV := Lib.hid (rparseV_none (rparse_fail (show rpl (s.drop 1) 0 3600 = none by rw [HR.out, ← HP.out, HS.out, if_neg (by unfold isd; simp <;> omega)])))
                  go_wp2_with fail
                  go_ret2
                  exact ⟨by rw [EV.out]; rfl, HBr.out⟩
                · by_cases b1 : (b.toNat : Int) < 48
                  ·
                    have EV := Lib.hid (rparseV_none (rparse_fail (show rpl (s.drop 1) 0 3600 = none by rw [HR.out, ← HP.out, HS.out, if_neg (by unfold isd; simp <;> omega)])))
                    go_wp2_with fail
                    go_ret2
                    exact ⟨by rw [EV.out]; rfl, HBr.out⟩
                  · by_cases b2 : 57 < (b.toNat : Int)
                    ·
                      have EV := Lib.hid (rparseV_none (rparse_fail (show rpl (s.drop 1) 0 3600 = none by rw [HR.out, ← HP.out, HS.out, if_neg (by unfold isd; simp <;> omega)])))
                      go_wp2_with fail
                      go_ret2
                      exact ⟨by rw [EV.out]; rfl, HBr.out⟩
                    · have HE := Lib.hid (show rpl (s.drop (3 + 2)) (n + 60 * (10 * dv a + dv b)) 1 = R by rw [← HP.out, HS.out, if_pos ⟨by unfold isd; simp; omega, by unfold isd; simp; omega⟩]; rfl)
                      go_wp2_with fail
                      go_region
                      go_wp2_with fail
                      go_roundw
                      case rel => exact ⟨3 + 2, n + 60 * (10 * dv a + dv b), 1, by unfold dv; try simp, rfl, rfl, by omega, HE.out, .inr (.inr (.inl ⟨rfl, rfl, by unfold dv; omega, by unfold dv; omega⟩)), HBr.out.drew⟩
                      case measure => simp [intOf]
            ·
              have EV := Lib.hid (rparseV_some (rparse_fin45 (show rpl (s.drop 1) 0 3600 = some n by rw [HR.out, ← HP.out, rpl_short (by simp; omega)]) HC.out (by omega)))
              by_cases ho : -360000 < (-n) ∧ (-n) < 360000
              · have EW := Lib.hid (show rparseV s = .tuple #[.int .i64 (-n), .bool (offText (-n) == s)] by rw [EV.out, decide_eq_true ho]; rfl)
                obtain ⟨o1, o2⟩ := ho
                clear EV
                go_wp2_with fail
                refine (roffset_ok (-n) _ o1 o2).mono ?_
                rintro e w5 ⟨rfl, hb⟩
                have HBw5 := Lib.hid (HBr.out.trans (hb.mono HBr.out.size))
                clear hb
                generalize offText (-n) = T at *
                go_wp2_with fail
                go_ret2
                exact ⟨by rw [EW.out]; rfl, HBw5.out⟩
              · have EW := Lib.hid (show rparseV s = .tuple #[.int .i64 (-n), .bool false] by rw [EV.out, decide_eq_false ho]; rfl)
                clear EV
                first
                | (exfalso; omega)
                | (by_cases h1 : (-n) ≤ -360000
                   · first
                     | (exfalso; omega)
                     | (clear ho
                        go_wp2_with fail
                        go_ret2
                        exact ⟨by rw [EW.out]; rfl, HBr.out⟩)
                   · have h2 : 360000 ≤ (-n) := by omega
                     first
                     | (exfalso; omega)
                     | (clear ho
                        go_wp2_with fail
                        go_ret2
                        exact ⟨by rw [EW.out]; rfl, HBr.out⟩))
            · omega
        ·
          have EV := Lib.hid (rparseV_none (rparse_sign Hc.out z1 z2))
          have n1 : ((c.toNat : Int) == 43) = false := byte_ne z1
          have n2 : ((c.toNat : Int) == 45) = false := byte_ne z2
          have m1 : ((c.toNat : Int) != 43) = true := by rw [bne, n1]; rfl
          have m2 : ((c.toNat : Int) != 45) = true := by rw [bne, n2]; rfl
          clear z1 z2
          go_enter Tryd.func19, Tryd.ntmps19
          go_wp2_with fail
          go_ret2
          exact ⟨by rw [EV.out]; rfl, HBw.out⟩
    · by_cases z1 : c = 43
      ·
        have cn : (c.toNat : Int) = 43 := by rw [z1]; rfl
        have HC := Lib.hid (show s.head? = some 43 by rw [Hc.out, z1])
        clear z1
        obtain ⟨R, hR⟩ : ∃ R, rpl (s.drop 1) 0 3600 = R := ⟨_, rfl⟩
        have HR := Lib.hid hR
        clear hR
        go_enter Tryd.func19, Tryd.ntmps19
        go_wp2_with fail
        go_loopw [4, 5, 6] (fun v4 v5 v6 wr => ∃ (i : Nat) (n u : Int), v4 = .int .i64 n ∧ v5 = .int .i64 u ∧ v6 = .int .i64 i ∧ i ≤ 7 ∧ rpl (s.drop i) n u = R ∧ (i = 1 ∧ u = 3600 ∧ n = 0 ∨ i = 3 ∧ u = 60 ∧ 0 ≤ n ∧ n ≤ 356400 ∨ i = 5 ∧ u = 1 ∧ 0 ≤ n ∧ n ≤ 362340 ∨ i = 7 ∧ u = 0 ∧ 0 ≤ n ∧ n ≤ 362439) ∧ Below w.heap.size w wr) (fun _ _ v6 _ => (2000 - intOf v6).toNat)
        case atStart => exact ⟨1, 0, 3600, rfl, rfl, rfl, by omega, HR.out, .inl ⟨rfl, rfl, rfl⟩, HBw.out⟩
        case round =>
          obtain ⟨i, n, u, rfl, rfl, rfl, i1, hp, hu, hB⟩ := hrel
          have HP := Lib.hid hp
          have HBr := Lib.hid hB
          clear hp hB
          rcases hu with ⟨rfl, rfl, rfl⟩ | ⟨rfl, rfl, n1, n2⟩ | ⟨rfl, rfl, n1, n2⟩ | ⟨rfl, rfl, n1, n2⟩
          ·
            obtain ⟨a, ha⟩ : ∃ a, (⟨s.toArray⟩ : ByteArray)[1]'(by show 1 < s.toArray.size; simp; omega) = a := ⟨_, rfl⟩
            obtain ⟨b, hb⟩ : ∃ b, (⟨s.toArray⟩ : ByteArray)[1 + 1]'(by show 1 + 1 < s.toArray.size; simp; omega) = b := ⟨_, rfl⟩
            have HS := Lib.hid (rpl_step (l := s) (i := 1) (a := a) (b := b) (by rw [← ha]; exact List.getElem?_eq_getElem (by omega)) (by rw [← hb]; exact List.getElem?_eq_getElem (by omega)) (0) 3600)
            have A1 : (a.toNat : Int) ≤ 255 := by have := a.toNat_lt; omega
            have B1 : (b.toNat : Int) ≤ 255 := by have := b.toNat_lt; omega
            have A0 : 0 ≤ (a.toNat : Int) := by omega
            have B0 : 0 ≤ (b.toNat : Int) := by omega
            by_cases a1 : (a.toNat : Int) < 48
            ·
              have EV := Lib.hid (rparseV_none (rparse_fail (show rpl (s.drop 1) 0 3600 = none by rw [HR.out, ← HP.out, HS.out, if_neg (by unfold isd; simp <;> omega)])))
              go_wp2_with fail
              go_ret2
              exact ⟨by rw [EV.out]; rfl, HBr.out⟩
            · by_cases a2 : 57 < (a.toNat : Int)
              ·
                have EV := Lib.hid (rparseV_none (rparse_fail (show rpl (s.drop 1) 0 3600 = none by rw [HR.out, ← HP.out, HS.out, if_neg (by unfold isd; simp <;> omega)])))
                go_wp2_with fail
                go_ret2
                exact ⟨by rw [EV.out]; rfl, HBr.out⟩
              · by_cases b1 : (b.toNat : Int) < 48
                ·
                  have EV := Lib.hid (rparseV_none (rparse_fail (show rpl (s.drop 1) 0 3600 = none by rw [HR.out, ← HP.out, HS.out, if_neg (by unfold isd; simp <;> omega)])))
                  go_wp2_with fail
                  go_ret2
                  exact ⟨by rw [EV.out]; rfl, HBr.out⟩
                · by_cases b2 : 57 < (b.toNat : Int)
                  ·
                    have EV := Lib.hid (rparseV_none (rparse_fail (show rpl (s.drop 1) 0 3600 = none by rw [HR.out, ← HP.out, HS.out, if_neg (by unfold isd; simp <;> omega)])))
                    go_wp2_with fail
                    go_ret2
                    exact ⟨by rw [EV.out]; rfl, HBr.out⟩
                  · have HE := Lib.hid (show rpl (s.drop (1 + 2)) (0 + 3600 * (10 * dv a + dv b)) 60 = R by rw [← HP.out, HS.out, if_pos ⟨by unfold isd; simp; omega, by unfold isd; simp; omega⟩]; rfl)
                    go_wp2_with fail
                    go_region
                    go_wp2_with fail
                    go_roundw
                    case rel => exact ⟨1 + 2, 0 + 3600 * (10 * dv a + dv b), 60, by unfold dv; try simp, rfl, rfl, by omega, HE.out, .inr (.inl ⟨rfl, rfl, by unfold dv; omega, by unfold dv; omega⟩), HBr.out.drew⟩
                    case measure => simp [intOf]
          ·
            obtain ⟨a, ha⟩ : ∃ a, (⟨s.toArray⟩ : ByteArray)[3]'(by show 3 < s.toArray.size; simp; omega) = a := ⟨_, rfl⟩
            obtain ⟨b, hb⟩ : ∃ b, (⟨s.toArray⟩ : ByteArray)[3 + 1]'(by show 3 + 1 < s.toArray.size; simp; omega) = b := ⟨_, rfl⟩
            have HS := Lib.hid (rpl_step (l := s) (i := 3) (a := a) (b := b) (by rw [← ha]; exact List.getElem?_eq_getElem (by omega)) (by rw [← hb]; exact List.getElem?_eq_getElem (by omega)) (n) 60)
            have A1 : (a.toNat : Int) ≤ 255 := by have := a.toNat_lt; omega
            have B1 : (b.toNat : Int) ≤ 255 := by have := b.toNat_lt; omega
            have A0 : 0 ≤ (a.toNat : Int) := by omega
            have B0 : 0 ≤ (b.toNat : Int) := by omega
            by_cases a1 : (a.toNat : Int) < 48
            ·
              have EV := Lib.hid (rparseV_none (rparse_fail (show rpl (s.drop 1) 0 3600 = none by rw [HR.out, ← HP.out, HS.out, if_neg (by unfold isd; simp <;> omega)])))
              go_wp2_with fail
              go_ret2
              exact ⟨by rw [EV.out]; rfl, HBr.out⟩
            · by_cases a2 : 57 < (a.toNat : Int)
              ·
                have EV := Lib.hid (rparseV_none (rparse_fail (show rpl (s.drop 1) 0 3600 = none by rw [HR.out, ← HP.out, HS.out, if_neg (by unfold isd; simp <;> omega)])))
                go_wp2_with fail
                go_ret2
                exact ⟨by rw [EV.out]; rfl, HBr.out⟩
              · by_cases b1 : (b.toNat : Int) < 48
                ·
                  have EV := Lib.hid (rparseV_none (rparse_fail (show rpl (s.drop 1) 0 3600 = none by rw [HR.out, ← HP.out, HS.out, if_neg (by unfold isd; simp <;> omega)])))
                  go_wp2_with fail
                  go_ret2
                  exact ⟨by rw [EV.out]; rfl, HBr.out⟩
                · by_cases b2 : 57 < (b.toNat : Int)
                  ·
                    have EV := Lib.hid (rparseV_none (rparse_fail (show rpl (s.drop 1) 0 3600 = none by rw [HR.out, ← HP.out, HS.out, if_neg (by unfold isd; simp <;> omega)])))
                    go_wp2_with fail
                    go_ret2
                    exact ⟨by rw [EV.out]; rfl, HBr.out⟩
                  · have HE := Lib.hid (show rpl (s.drop (3 + 2)) (n + 60 * (10 * dv a + dv b)) 1 = R by rw [← HP.out, HS.out, if_pos ⟨by unfold isd; simp; omega, by unfold isd; simp; omega⟩]; rfl)
                    go_wp2_with fail
                    go_region
                    go_wp2_with fail
                    go_roundw
                    case rel => exact ⟨3 + 2, n + 60 * (10 * dv a + dv b), 1, by unfold dv; try simp, rfl, rfl, by omega, HE.out, .inr (.inr (.inl ⟨rfl, rfl, by unfold dv; omega, by unfold dv; omega⟩)), HBr.out.drew⟩
                    case measure => simp [intOf]
          ·
            obtain ⟨a, ha⟩ : ∃ a, (⟨s.toArray⟩ : ByteArray)[5]'(by show 5 < s.toArray.size; simp; omega) = a := ⟨_, rfl⟩
            obtain ⟨b, hb⟩ : ∃ b, (⟨s.toArray⟩ : ByteArray)[5 + 1]'(by show 5 + 1 < s.toArray.size; simp; omega) = b := ⟨_, rfl⟩
            have HS := Lib.hid (rpl_step (l := s) (i := 5) (a := a) (b := b) (by rw [← ha]; exact List.getElem?_eq_getElem (by omega)) (by rw [← hb]; exact List.getElem?_eq_getElem (by omega)) (n) 1)
            have A1 : (a.toNat : Int) ≤ 255 := by have := a.toNat_lt; omega
            have B1 : (b.toNat : Int) ≤ 255 := by have := b.toNat_lt; omega
            have A0 : 0 ≤ (a.toNat : Int) := by omega
            have B0 : 0 ≤ (b.toNat : Int) := by omega
            by_cases a1 : (a.toNat : Int) < 48
            ·
              have EV := Lib.hid (rparseV_none (rparse_fail (show rpl (s.drop 1) 0 3600 = none by rw [HR.out, ← HP.out, HS.out, if_neg (by unfold isd; simp <;> omega)])))
              go_wp2_with fail
              go_ret2
              exact ⟨by rw [EV.out]; rfl, HBr.out⟩
            · by_cases a2 : 57 < (a.toNat : Int)
              ·
                have EV := Lib.hid (rparseV_none (rparse_fail (show rpl (s.drop 1) 0 3600 = none by rw [HR.out, ← HP.out, HS.out, if_neg (by unfold isd; simp <;> omega)])))
                go_wp2_with fail
                go_ret2
                exact ⟨by rw [EV.out]; rfl, HBr.out⟩
              · by_cases b1 : (b.toNat : Int) < 48
                ·
                  have EV := Lib.hid (rparseV_none (rparse_fail (show rpl (s.drop 1) 0 3600 = none by rw [HR.out, ← HP.out, HS.out, if_neg (by unfold isd; simp <;> omega)])))
                  go_wp2_with fail
                  go_ret2
                  exact ⟨by rw [EV.out]; rfl, HBr.out⟩
                · by_cases b2 : 57 < (b.toNat : Int)
                  ·
                    have EV := Lib.hid (rparseV_none (rparse_fail (show rpl (s.drop 1) 0 3600 = none by rw [HR.out, ← HP.out, HS.out, if_neg (by unfold isd; simp <;> omega)])))
                    go_wp2_with fail
                    go_ret2
                    exact ⟨by rw [EV.out]; rfl, HBr.out⟩
                  · have HE := Lib.hid (show rpl (s.drop (5 + 2)) (n + 1 * (10 * dv a + dv b)) 0 = R by rw [← HP.out, HS.out, if_pos ⟨by unfold isd; simp; omega, by unfold isd; simp; omega⟩]; rfl)
                    go_wp2_with fail
                    go_region
                    go_wp2_with fail
                    go_roundw
                    case rel => exact ⟨5 + 2, n + 1 * (10 * dv a + dv b), 0, by unfold dv; try simp, rfl, rfl, by omega, HE.out, .inr (.inr (.inr ⟨rfl, rfl, by unfold dv; omega, by unfold dv; omega⟩)), HBr.out.drew⟩
                    case measure => simp [intOf]
          ·
            have EV := Lib.hid (rparseV_some (rparse_fin43 (show rpl (s.drop 1) 0 3600 = some n by rw [HR.out, ← HP.out, rpl_short (by simp; omega)]) HC.out (by omega)))
            by_cases ho : -360000 < n ∧ n < 360000
            · have EW := Lib.hid (show rparseV s = .tuple #[.int .i64 n, .bool (offText n == s)] by rw [EV.out, decide_eq_true ho]; rfl)
              obtain ⟨o1, o2⟩ := ho
              clear EV
              go_wp2_with fail
              refine (roffset_ok n _ o1 o2).mono ?_
              rintro e w5 ⟨rfl, hb⟩
              have HBw5 := Lib.hid (HBr.out.trans (hb.mono HBr.out.size))
              clear hb
              generalize offText n = T at *
              go_wp2_with fail
              go_ret2
              exact ⟨by rw [EW.out]; rfl, HBw5.out⟩
            · have EW := Lib.hid (show rparseV s = .tuple #[.int .i64 n, .bool false] by rw [EV.out, decide_eq_false ho]; rfl)
              clear EV
              first
              | (exfalso; omega)
              | (by_cases h1 : n ≤ -360000
                 · first
                   | (exfalso; omega)
                   | (clear ho
                      go_wp2_with fail
                      go_ret2
                      exact ⟨by rw [EW.out]; rfl, HBr.out⟩)
                 · have h2 : 360000 ≤ n := by omega
                   first
                   | (exfalso; omega)
                   | (clear ho
                      go_wp2_with fail
                      go_ret2
                      exact ⟨by rw [EW.out]; rfl, HBr.out⟩))
      · by_cases z2 : c = 45
        ·
          have cn : (c.toNat : Int) = 45 := by rw [z2]; rfl
          have HC := Lib.hid (show s.head? = some 45 by rw [Hc.out, z2])
          clear z1 z2
          obtain ⟨R, hR⟩ : ∃ R, rpl (s.drop 1) 0 3600 = R := ⟨_, rfl⟩
          have HR := Lib.hid hR
          clear hR
          go_enter Tryd.func19, Tryd.ntmps19
          go_wp2_with fail
          go_loopw [4, 5, 6] (fun v4 v5 v6 wr => ∃ (i : Nat) (n u : Int), v4 = .int .i64 n ∧ v5 = .int .i64 u ∧ v6 = .int .i64 i ∧ i ≤ 7 ∧ rpl (s.drop i) n u = R ∧ (i = 1 ∧ u = 3600 ∧ n = 0 ∨ i = 3 ∧ u = 60 ∧ 0 ≤ n ∧ n ≤ 356400 ∨ i = 5 ∧ u = 1 ∧ 0 ≤ n ∧ n ≤ 362340 ∨ i = 7 ∧ u = 0 ∧ 0 ≤ n ∧ n ≤ 362439) ∧ Below w.heap.size w wr) (fun _ _ v6 _ => (2000 - intOf v6).toNat)
          case atStart => exact ⟨1, 0, 3600, rfl, rfl, rfl, by omega, HR.out, .inl ⟨rfl, rfl, rfl⟩, HBw.out⟩
          case round =>
            obtain ⟨i, n, u, rfl, rfl, rfl, i1, hp, hu, hB⟩ := hrel
            have HP := Lib.hid hp
            have HBr := Lib.hid hB
            clear hp hB
            rcases hu with ⟨rfl, rfl, rfl⟩ | ⟨rfl, rfl, n1, n2⟩ | ⟨rfl, rfl, n1, n2⟩ | ⟨rfl, rfl, n1, n2⟩
            ·
              obtain ⟨a, ha⟩ : ∃ a, (⟨s.toArray⟩ : ByteArray)[1]'(by show 1 < s.toArray.size; simp; omega) = a := ⟨_, rfl⟩
              obtain ⟨b, hb⟩ : ∃ b, (⟨s.toArray⟩ : ByteArray)[1 + 1]'(by show 1 + 1 < s.toArray.size; simp; omega) = b := ⟨_, rfl⟩
              have HS := Lib.hid (rpl_step (l := s) (i := 1) (a := a) (b := b) (by rw [← ha]; exact List.getElem?_eq_getElem (by omega)) (by rw [← hb]; exact List.getElem?_eq_getElem (by omega)) (0) 3600)
              have A1 : (a.toNat : Int) ≤ 255 := by have := a.toNat_lt; omega
              have B1 : (b.toNat : Int) ≤ 255 := by have := b.toNat_lt; omega
              have A0 : 0 ≤ (a.toNat : Int) := by omega
              have B0 : 0 ≤ (b.toNat : Int) := by omega
              by_cases a1 : (a.toNat : Int) < 48
              ·
                have EV := Lib.hid (rparseV_none (rparse_fail (show rpl (s.drop 1) 0 3600 = none by rw [HR.out, ← HP.out, HS.out, if_neg (by unfold isd; simp <;> omega)])))
                go_wp2_with fail
                go_ret2
                exact ⟨by rw [EV.out]; rfl, HBr.out⟩
              · by_cases a2 : 57 < (a.toNat : Int)
                ·
                  have EV := Lib.hid (rparseV_none (rparse_fail (show rpl (s.drop 1) 0 3600 = none by rw [HR.out, ← HP.out, HS.out, if_neg (by unfold isd; simp <;> omega)])))
                  go_wp2_with fail
                  go_ret2
                  exact ⟨by rw [EV.out]; rfl, HBr.out⟩
                · by_cases b1 : (b.toNat : Int) < 48
                  ·
                    have EV := Lib.hid (rparseV_none (rparse_fail (show rpl (s.drop 1) 0 3600 = none by rw [HR.out, ← HP.out, HS.out, if_neg (by unfold isd; simp <;> omega)])))
                    go_wp2_with fail
                    go_ret2
                    exact ⟨by rw [EV.out]; rfl, HBr.out⟩
                  · by_cases b2 : 57 < (b.toNat : Int)
                    ·
                      have EV := Lib.hid (rparseV_none (rparse_fail (show rpl (s.drop 1) 0 3600 = none by rw [HR.out, ← HP.out, HS.out, if_neg (by unfold isd; simp <;> omega)])))
                      go_wp2_with fail
                      go_ret2
                      exact ⟨by rw [EV.out]; rfl, HBr.out⟩
                    · have HE := Lib.hid (show rpl (s.drop (1 + 2)) (0 + 3600 * (10 * dv a + dv b)) 60 = R by rw [← HP.out, HS.out, if_pos ⟨by unfold isd; simp; omega, by unfold isd; simp; omega⟩]; rfl)
                      go_wp2_with fail
                      go_region
                      go_wp2_with fail
                      go_roundw
                      case rel => exact ⟨1 + 2, 0 + 3600 * (10 * dv a + dv b), 60, by unfold dv; try simp, rfl, rfl, by omega, HE.out, .inr (.inl ⟨rfl, rfl, by unfold dv; omega, by unfold dv; omega⟩), HBr.out.drew⟩
                      case measure => simp [intOf]
            ·
              obtain ⟨a, ha⟩ : ∃ a, (⟨s.toArray⟩ : ByteArray)[3]'(by show 3 < s.toArray.size; simp; omega) = a := ⟨_, rfl⟩
              obtain ⟨b, hb⟩ : ∃ b, (⟨s.toArray⟩ : ByteArray)[3 + 1]'(by show 3 + 1 < s.toArray.size; simp; omega) = b := ⟨_, rfl⟩
              have HS := Lib.hid (rpl_step (l := s) (i := 3) (a := a) (b := b) (by rw [← ha]; exact List.getElem?_eq_getElem (by omega)) (by rw [← hb]; exact List.getElem?_eq_getElem (by omega)) (n) 60)
              have A1 : (a.toNat : Int) ≤ 255 := by have := a.toNat_lt; omega
              have B1 : (b.toNat : Int) ≤ 255 := by have := b.toNat_lt; omega
              have A0 : 0 ≤ (a.toNat : Int) := by omega
              have B0 : 0 ≤ (b.toNat : Int) := by omega
              by_cases a1 : (a.toNat : Int) < 48
              ·
                have EV := Lib.hid (rparseV_none (rparse_fail (show rpl (s.drop 1) 0 3600 = none by rw [HR.out, ← HP.out, HS.out, if_neg (by unfold isd; simp <;> omega)])))
                go_wp2_with fail
                go_ret2
                exact ⟨by rw [EV.out]; rfl, HBr.out⟩
              · by_cases a2 : 57 < (a.toNat : Int)
                ·
                  have EV := Lib.hid (rparseV_none (rparse_fail (show rpl (s.drop 1) 0 3600 = none by rw [HR.out, ← HP.out, HS.out, if_neg (by unfold isd; simp <;> omega)])))
                  go_wp2_with fail
                  go_ret2
                  exact ⟨by rw [EV.out]; rfl, HBr.out⟩
                · by_cases b1 : (b.toNat : Int) < 48
                  ·
                    have EV := Lib.hid (rparseV_none (rparse_fail (show rpl (s.drop 1) 0 3600 = none by rw [HR.out, ← HP.out, HS.out, if_neg (by unfold isd; simp <;> omega)])))
                    go_wp2_with fail
                    go_ret2
                    exact ⟨by rw [EV.out]; rfl, HBr.out⟩
                  · by_cases b2 : 57 < (b.toNat : Int)
                    ·
                      have EV := Lib.hid (rparseV_none (rparse_fail (show rpl (s.drop 1) 0 3600 = none by rw [HR.out, ← HP.out, HS.out, if_neg (by unfold isd; simp <;> omega)])))
                      go_wp2_with fail
                      go_ret2
                      exact ⟨by rw [EV.out]; rfl, HBr.out⟩
                    · have HE := Lib.hid (show rpl (s.drop (3 + 2)) (n + 60 * (10 * dv a + dv b)) 1 = R by rw [← HP.out, HS.out, if_pos ⟨by unfold isd; simp; omega, by unfold isd; simp; omega⟩]; rfl)
                      go_wp2_with fail
                      go_region
                      go_wp2_with fail
                      go_roundw
                      case rel => exact ⟨3 + 2, n + 60 * (10 * dv a + dv b), 1, by unfold dv; try simp, rfl, rfl, by omega, HE.out, .inr (.inr (.inl ⟨rfl, rfl, by unfold dv; omega, by unfold dv; omega⟩)), HBr.out.drew⟩
                      case measure => simp [intOf]
            ·
              obtain ⟨a, ha⟩ : ∃ a, (⟨s.toArray⟩ : ByteArray)[5]'(by show 5 < s.toArray.size; simp; omega) = a := ⟨_, rfl⟩
              obtain ⟨b, hb⟩ : ∃ b, (⟨s.toArray⟩ : ByteArray)[5 + 1]'(by show 5 + 1 < s.toArray.size; simp; omega) = b := ⟨_, rfl⟩
              have HS := Lib.hid (rpl_step (l := s) (i := 5) (a := a) (b := b) (by rw [← ha]; exact List.getElem?_eq_getElem (by omega)) (by rw [← hb]; exact List.getElem?_eq_getElem (by omega)) (n) 1)
              have A1 : (a.toNat : Int) ≤ 255 := by have := a.toNat_lt; omega
              have B1 : (b.toNat : Int) ≤ 255 := by have := b.toNat_lt; omega
              have A0 : 0 ≤ (a.toNat : Int) := by omega
              have B0 : 0 ≤ (b.toNat : Int) := by omega
              by_cases a1 : (a.toNat : Int) < 48
              ·
                have EV := Lib.hid (rparseV_none (rparse_fail (show rpl (s.drop 1) 0 3600 = none by rw [HR.out, ← HP.out, HS.out, if_neg (by unfold isd; simp <;> omega)])))
                go_wp2_with fail
                go_ret2
                exact ⟨by rw [EV.out]; rfl, HBr.out⟩
              · by_cases a2 : 57 < (a.toNat : Int)
                ·
                  have EV := Lib.hid (rparseV_none (rparse_fail (show rpl (s.drop 1) 0 3600 = none by rw [HR.out, ← HP.out, HS.out, if_neg (by unfold isd; simp <;> omega)])))
                  go_wp2_with fail
                  go_ret2
                  exact ⟨by rw [EV.out]; rfl, HBr.out⟩
                · by_cases b1 : (b.toNat : Int) < 48
                  ·
                    have EV := Lib.hid (rparseV_none (rparse_fail (show rpl (s.drop 1) 0 3600 = none by rw [HR.out, ← HP.out, HS.out, if_neg (by unfold isd; simp <;> omega)])))
                    go_wp2_with fail
                    go_ret2
                    exact ⟨by rw [EV.out]; rfl, HBr.out⟩
                  · by_cases b2 : 57 < (b.toNat : Int)
                    ·
                      have EV := Lib.hid (rparseV_none (rparse_fail (show rpl (s.drop 1) 0 3600 = none by rw [HR.out, ← HP.out, HS.out, if_neg (by unfold isd; simp <;> omega)])))
                      go_wp2_with fail
                      go_ret2
                      exact ⟨by rw [EV.out]; rfl, HBr.out⟩
                    · have HE := Lib.hid (show rpl (s.drop (5 + 2)) (n + 1 * (10 * dv a + dv b)) 0 = R by rw [← HP.out, HS.out, if_pos ⟨by unfold isd; simp; omega, by unfold isd; simp; omega⟩]; rfl)
                      go_wp2_with fail
                      go_region
                      go_wp2_with fail
                      go_roundw
                      case rel => exact ⟨5 + 2, n + 1 * (10 * dv a + dv b), 0, by unfold dv; try simp, rfl, rfl, by omega, HE.out, .inr (.inr (.inr ⟨rfl, rfl, by unfold dv; omega, by unfold dv; omega⟩)), HBr.out.drew⟩
                      case measure => simp [intOf]
            ·
              have EV := Lib.hid (rparseV_some (rparse_fin45 (show rpl (s.drop 1) 0 3600 = some n by rw [HR.out, ← HP.out, rpl_short (by simp; omega)]) HC.out (by omega)))
              by_cases ho : -360000 < (-n) ∧ (-n) < 360000
              · have EW := Lib.hid (show rparseV s = .tuple #[.int .i64 (-n), .bool (offText (-n) == s)] by rw [EV.out, decide_eq_true ho]; rfl)
                obtain ⟨o1, o2⟩ := ho
                clear EV
                go_wp2_with fail
                refine (roffset_ok (-n) _ o1 o2).mono ?_
                rintro e w5 ⟨rfl, hb⟩
                have HBw5 := Lib.hid (HBr.out.trans (hb.mono HBr.out.size))
                clear hb
                generalize offText (-n) = T at *
                go_wp2_with fail
                go_ret2
                exact ⟨by rw [EW.out]; rfl, HBw5.out⟩
              · have EW := Lib.hid (show rparseV s = .tuple #[.int .i64 (-n), .bool false] by rw [EV.out, decide_eq_false ho]; rfl)
                clear EV
                first
                | (exfalso; omega)
                | (by_cases h1 : (-n) ≤ -360000
                   · first
                     | (exfalso; omega)
                     | (clear ho
                        go_wp2_with fail
                        go_ret2
                        exact ⟨by rw [EW.out]; rfl, HBr.out⟩)
                   · have h2 : 360000 ≤ (-n) := by omega
                     first
                     | (exfalso; omega)
                     | (clear ho
                        go_wp2_with fail
                        go_ret2
                        exact ⟨by rw [EW.out]; rfl, HBr.out⟩))
        ·
          have EV := Lib.hid (rparseV_none (rparse_sign Hc.out z1 z2))
          have n1 : ((c.toNat : Int) == 43) = false := byte_ne z1
          have n2 : ((c.toNat : Int) == 45) = false := byte_ne z2
          have m1 : ((c.toNat : Int) != 43) = true := by rw [bne, n1]; rfl
          have m2 : ((c.toNat : Int) != 45) = true := by rw [bne, n2]; rfl
          clear z1 z2
          go_enter Tryd.func19, Tryd.ntmps19
          go_wp2_with fail
          go_ret2
          exact ⟨by rw [EV.out]; rfl, HBw.out⟩
  · have EV := Lib.hid (rparseV_none (rparse_short hl))
    have g3 : ((s.length : Int) == 3) = false := by rw [beq_eq_false_iff_ne]; omega
    have g5 : ((s.length : Int) == 5) = false := by rw [beq_eq_false_iff_ne]; omega
    have g7 : ((s.length : Int) == 7) = false := by rw [beq_eq_false_iff_ne]; omega
    have e3 : ((s.length : Int) != 3) = true := by rw [bne_iff_ne]; omega
    have e5 : ((s.length : Int) != 5) = true := by rw [bne_iff_ne]; omega
    have e7 : ((s.length : Int) != 7) = true := by rw [bne_iff_ne]; omega
    clear hl
    go_enter Tryd.func19, Tryd.ntmps19
    go_wp2_with fail
    go_ret2
    exact ⟨by rw [EV.out]; rfl, HBw.out⟩
end Go.Proofs.YtakpbgjmblbaiaaDoor
