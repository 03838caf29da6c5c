/-
  THE WALK of the document's Number.
-/
import Derived.Test.YtcfcfoiphadmkaaDoorNumText
import Derived.Test.YtcfcfoiphadmkaaDoorFdMath
namespace Go.Proofs.YtcfcfoiphadmkaaDoor
open Go Go.RowKit

theorem ba_drop1 (l : List UInt8) : (⟨l.toArray⟩ : ByteArray).extract 1 l.length = ⟨l.tail.toArray⟩ := by
  rw [ByteArray.extract_mk]
  show ByteArray.mk (List.take (l.length - 1) (List.drop 1 l)).toArray = _
  rw [List.take_of_length_le (by simp), List.drop_one]
def numV (l : List UInt8) : Value := .tuple #[.int .i64 ((number l).getD 0), .bool (number l).isSome]
theorem numV_none {l : List UInt8} (h : number l = none) : numV l = .tuple #[.int .i64 0, .bool false] := by unfold numV; rw [h]; rfl
theorem numV_some {l : List UInt8} {n : Int} (h : number l = some n) : numV l = .tuple #[.int .i64 n, .bool true] := by unfold numV; rw [h]; rfl
theorem number_neg {l T : List UInt8} (h : l.head? = some 45) (hT : l.tail = T) : number l = if T = [48] then none else (numT T).map fun (u : Nat) => -(u : Int) := by unfold number; rw [if_pos h, hT]
theorem number_pos {l : List UInt8} (h : l.head? ≠ some 45) : number l = (numT l).map fun (u : Nat) => (u : Int) := by unfold number; rw [if_neg h]
theorem numT_nil {T : List UInt8} (h : T.length = 0) : numT T = none := by unfold numT; rw [if_pos (.inl (List.length_eq_zero_iff.1 h))]
theorem numT_long {T : List UInt8} (h : 9 < T.length) : numT T = none := by unfold numT; rw [if_pos (.inr (.inl h))]
theorem numT_zero {T : List UInt8} (h : 1 < T.length) (h0 : T.getD 0 0 = 48) : numT T = none := by
  unfold numT
  refine if_pos (.inr (.inr ⟨h, ?_⟩))
  cases T with
  | nil => cases h
  | cons b t => simpa using h0
theorem numT_from {T : List UInt8} (h1 : 1 ≤ T.length) (h9 : T.length ≤ 9) (h0 : ¬ (1 < T.length ∧ T.getD 0 0 = 48)) : numT T = Lib.decFrom 0 T := by
  unfold numT
  rw [if_neg]
  rintro (z | z | ⟨z, y⟩)
  · exact absurd (show T.length = 0 by rw [z]; rfl) (by omega)
  · omega
  · refine h0 ⟨z, ?_⟩
    cases T with
    | nil => cases y
    | cons b t => simpa using y
theorem decFrom_bad {T : List UInt8} {i : Nat} {y : UInt8} (hy : T[i]? = some y) (h : y.toNat < 48 ∨ 57 < y.toNat) : Lib.decFrom 0 T = none := by
  cases hd : Lib.decFrom 0 T with
  | none => rfl
  | some n =>
    obtain ⟨d, hd2⟩ := Lib.digit_of_decFrom T 0 n hd i y hy
    have := Lib.digitVal_eq hd2
    omega
set_option maxHeartbeats 4000000 in
theorem rnumber_neg (l T : List UInt8) (w : World) (hl : l.length ≤ 1000) (hz : 0 < l.length) (h45 : l.getD 0 0 = 45) (hT : l.tail = T) : Calls Tryd.prog 12 #[.string ⟨l.toArray⟩] w fun e w' => e = .returned (numV l) ∧ w = w' := by
  have h0 := byte_at l 0 hz
  have hh : l.head? = some 45 := by
    cases l with
    | nil => cases hz
    | cons b t => simpa using h45
  rw [h45] at h0
  have X := ba_drop1 l
  have hlen : T.length = l.length - 1 := by rw [← hT]; simp
  have hN := number_neg hh hT
  rw [hT] at X
  have z1 : 0 < (l.length : Int) := by omega
  have z2 : 1 ≤ (l.length : Int) := by omega
  have z3 : (T.length : Int) = l.length - 1 := by omega
  clear hT h45 hh z3 hlen
  by_cases c1 : T.length = 0
  · have t1 : (T.length : Int) < 1 := by omega
    have EV := Lib.hid (numV_none (by rw [hN, numT_nil c1]; split <;> rfl))
    go_enter Tryd.func12, Tryd.ntmps12
    go_wp2_with fail
    go_ret2
    exact ⟨by rw [EV.out]; rfl, rfl⟩
  · by_cases c2 : 9 < T.length
    · have t1 : 1 ≤ (T.length : Int) := by omega
      have t9 : 9 < (T.length : Int) := by omega
      have EV := Lib.hid (numV_none (by rw [hN, numT_long c2]; split <;> rfl))
      go_enter Tryd.func12, Tryd.ntmps12
      go_wp2_with fail
      go_ret2
      exact ⟨by rw [EV.out]; rfl, rfl⟩
    · have b0 := byte_at T 0 (by omega)
      have HB0 := Lib.hid (show ∀ b, T.getD 0 0 = b → T.getD 0 0 = b from fun _ h => h)
      obtain ⟨y, hy⟩ : ∃ y, T.getD 0 0 = y := ⟨_, rfl⟩
      rw [hy] at b0
      have y1 : (y.toNat : Int) ≤ 255 := by have := y.toNat_lt; omega
      have y0 : 0 ≤ (y.toNat : Int) := by omega
      clear HB0
      have t1 : 1 ≤ (T.length : Int) := by omega
      have t9 : (T.length : Int) ≤ 9 := by omega
      by_cases c3 : 1 < T.length
      · have t2 : 1 < (T.length : Int) := by omega
        by_cases c4 : y = 48
        · subst c4
          have EV := Lib.hid (numV_none (by rw [hN, numT_zero c3 hy]; split <;> rfl))
          go_enter Tryd.func12, Tryd.ntmps12
          go_wp2_with fail
          go_ret2
          exact ⟨by rw [EV.out]; rfl, rfl⟩
        · have q1 : ((y.toNat : Int) == 48) = false := by
            rw [beq_eq_false_iff_ne]
            intro z
            exact c4 (UInt8.toNat_inj.1 (by show y.toNat = 48; omega))
          have q2 : (T == [48]) = false := by
            rw [beq_eq_false_iff_ne]
            intro z
            rw [z] at c3
            exact absurd c3 (by decide)
          have hF := numT_from (T := T) (by omega) (by omega) (fun z => c4 (by rw [← hy]; exact z.2))
          rw [if_neg (by simpa using q2)] at hN
          clear hy c4 t1 t9
          have t1 : 1 ≤ (T.length : Int) := by omega
          have t9 : (T.length : Int) ≤ 9 := by omega
          have HF := Lib.hid hF
          have HN := Lib.hid hN
          clear hF hN
          go_enter Tryd.func12, Tryd.ntmps12
          go_wp2_with fail
          go_loopw [5, 6] (fun v5 v6 wr => ∃ (i m : Nat), v5 = .int .i64 m ∧ v6 = .int .i64 i ∧ i ≤ T.length ∧ m < 1000000000 ∧ Lib.decFrom 0 (T.take i) = some m ∧ wr = w) (fun _ v6 _ => ((T.length : Int) - intOf v6).toNat)
          case atStart => exact ⟨0, 0, rfl, rfl, by omega, by omega, rfl, rfl⟩
          case round =>
            obtain ⟨i, m, rfl, rfl, i1, m9, hd, rfl⟩ := hrel
            have HD := Lib.hid hd
            clear hd
            by_cases hi : i < T.length
            · have hi2 : (i : Int) < (T.length : Int) := by omega
              have hy := byte_at T i hi
              have HY := Lib.hid (show T[i]? = some (T.getD i 0) by simp [List.getD, hi])
              generalize T.getD i 0 = y at *
              have y1 : (y.toNat : Int) ≤ 255 := by have := y.toNat_lt; omega
              have y0 : 0 ≤ (y.toNat : Int) := by omega
              by_cases a1 : (y.toNat : Int) < 48
              · have EV := Lib.hid (numV_none (by rw [HN.out, HF.out, decFrom_bad HY.out (by omega)]; rfl))
                go_wp2_with fail
                go_ret2
                exact ⟨by rw [EV.out]; rfl, rfl⟩
              · by_cases a2 : 57 < (y.toNat : Int)
                · have EV := Lib.hid (numV_none (by rw [HN.out, HF.out, decFrom_bad HY.out (by omega)]; rfl))
                  go_wp2_with fail
                  go_ret2
                  exact ⟨by rw [EV.out]; rfl, rfl⟩
                · have HE := Lib.hid (Lib.decFrom_take T i 0 m y (y.toNat - 48) HD.out HY.out (by unfold Lib.digitVal; rw [if_pos (by omega)]))
                  have hlt := Lib.decFrom_lt _ 0 _ HE.out
                  have hp : 10 ^ (T.take (i + 1)).length ≤ 10 ^ 9 := Nat.pow_le_pow_right (by decide) (by rw [List.length_take]; omega)
                  have hlt2 : m * 10 + (y.toNat - 48) < 1000000000 := by omega
                  clear hlt hp
                  go_wp2_with fail
                  go_roundw
                  case rel => exact ⟨i + 1, m * 10 + (y.toNat - 48), by first | (congr 1; omega) | (simp; omega), rfl, by omega, hlt2, HE.out, by first | trivial | rfl⟩
                  case measure => simp [intOf]; omega
            · obtain rfl : i = T.length := by omega
              rw [List.take_length] at HD
              have EV := Lib.hid (numV_some (show number l = some (-(m : Int)) by rw [HN.out, HF.out, HD.out]; rfl))
              go_wp2_with fail
              go_ret2
              exact ⟨by rw [EV.out]; rfl, rfl⟩
      · obtain ⟨x, rfl⟩ : ∃ x, T = [x] := by
          match T, c1, c3 with
          | [x], _, _ => exact ⟨x, rfl⟩
          | [], c1, _ => exact absurd rfl c1
          | _ :: _ :: _, _, c3 => exact absurd (by simp) c3
        by_cases c4 : x = 48
        · subst c4
          clear b0 hy t1 t9
          have EV := Lib.hid (numV_none (by rw [hN]; rfl))
          go_enter Tryd.func12, Tryd.ntmps12
          go_wp2_with fail
          go_ret2
          exact ⟨by rw [EV.out]; rfl, rfl⟩
        · have hF := numT_from (T := [x]) (by simp) (by simp) (fun z => absurd z.1 (by simp))
          rw [if_neg (by simpa using c4)] at hN
          obtain ⟨T, hT⟩ : ∃ T, [x] = T := ⟨_, rfl⟩
          have q2 : (T == [48]) = false := by
            rw [← hT, beq_eq_false_iff_ne]
            simpa using c4
          have t2 : (T.length : Int) ≤ 1 := by rw [← hT]; simp
          have t3 : T.length = 1 := by rw [← hT]; rfl
          rw [hT] at X hN hF
          clear hT b0 hy c4 t1 t9 c1 c2 c3
          have t1 : 1 ≤ (T.length : Int) := by omega
          have t9 : (T.length : Int) ≤ 9 := by omega
          have HF := Lib.hid hF
          have HN := Lib.hid hN
          clear hF hN
          go_enter Tryd.func12, Tryd.ntmps12
          go_wp2_with fail
          go_loopw [5, 6] (fun v5 v6 wr => ∃ (i m : Nat), v5 = .int .i64 m ∧ v6 = .int .i64 i ∧ i ≤ T.length ∧ m < 1000000000 ∧ Lib.decFrom 0 (T.take i) = some m ∧ wr = w) (fun _ v6 _ => ((T.length : Int) - intOf v6).toNat)
          case atStart => exact ⟨0, 0, rfl, rfl, by omega, by omega, rfl, rfl⟩
          case round =>
            obtain ⟨i, m, rfl, rfl, i1, m9, hd, rfl⟩ := hrel
            have HD := Lib.hid hd
            clear hd
            by_cases hi : i < T.length
            · have hi2 : (i : Int) < (T.length : Int) := by omega
              have hy := byte_at T i hi
              have HY := Lib.hid (show T[i]? = some (T.getD i 0) by simp [List.getD, hi])
              generalize T.getD i 0 = y at *
              have y1 : (y.toNat : Int) ≤ 255 := by have := y.toNat_lt; omega
              have y0 : 0 ≤ (y.toNat : Int) := by omega
              by_cases a1 : (y.toNat : Int) < 48
              · have EV := Lib.hid (numV_none (by rw [HN.out, HF.out, decFrom_bad HY.out (by omega)]; rfl))
                go_wp2_with fail
                go_ret2
                exact ⟨by rw [EV.out]; rfl, rfl⟩
              · by_cases a2 : 57 < (y.toNat : Int)
                · have EV := Lib.hid (numV_none (by rw [HN.out, HF.out, decFrom_bad HY.out (by omega)]; rfl))
                  go_wp2_with fail
                  go_ret2
                  exact ⟨by rw [EV.out]; rfl, rfl⟩
                · have HE := Lib.hid (Lib.decFrom_take T i 0 m y (y.toNat - 48) HD.out HY.out (by unfold Lib.digitVal; rw [if_pos (by omega)]))
                  have hlt := Lib.decFrom_lt _ 0 _ HE.out
                  have hp : 10 ^ (T.take (i + 1)).length ≤ 10 ^ 9 := Nat.pow_le_pow_right (by decide) (by rw [List.length_take]; omega)
                  have hlt2 : m * 10 + (y.toNat - 48) < 1000000000 := by omega
                  clear hlt hp
                  go_wp2_with fail
                  go_roundw
                  case rel => exact ⟨i + 1, m * 10 + (y.toNat - 48), by first | (congr 1; omega) | (simp; omega), rfl, by omega, hlt2, HE.out, by first | trivial | rfl⟩
                  case measure => simp [intOf]; omega
            · obtain rfl : i = T.length := by omega
              rw [List.take_length] at HD
              have EV := Lib.hid (numV_some (show number l = some (-(m : Int)) by rw [HN.out, HF.out, HD.out]; rfl))
              go_wp2_with fail
              go_ret2
              exact ⟨by rw [EV.out]; rfl, rfl⟩
set_option maxHeartbeats 4000000 in
theorem rnumber_pos (l : List UInt8) (w : World) (hl : l.length ≤ 1000) (h45 : l.head? ≠ some 45) : Calls Tryd.prog 12 #[.string ⟨l.toArray⟩] w fun e w' => e = .returned (numV l) ∧ w = w' := by
  have hN := number_pos h45
  by_cases c1 : l.length = 0
  · obtain rfl := List.length_eq_zero_iff.1 c1
    clear c1 h45 hl
    have EV := Lib.hid (numV_none (by rw [hN]; rfl))
    go_enter Tryd.func12, Tryd.ntmps12
    go_wp2_with fail
    go_ret2
    exact ⟨by rw [EV.out]; rfl, rfl⟩
  · have b0 := byte_at l 0 (by omega)
    obtain ⟨y, hy⟩ : ∃ y, l.getD 0 0 = y := ⟨_, rfl⟩
    rw [hy] at b0
    have y1 : (y.toNat : Int) ≤ 255 := by have := y.toNat_lt; omega
    have y0 : 0 ≤ (y.toNat : Int) := by omega
    have z1 : 0 < (l.length : Int) := by omega
    have z2 : 1 ≤ (l.length : Int) := by omega
    have q5 : ((y.toNat : Int) == 45) = false := by
      rw [beq_eq_false_iff_ne]
      intro z
      apply h45
      cases l with
      | nil => exact absurd rfl c1
      | cons b t =>
        have : b = y := by simpa using hy
        rw [List.head?_cons, this]
        exact congrArg some (UInt8.toNat_inj.1 (by show y.toNat = 45; omega))
    clear h45
    by_cases c2 : 9 < l.length
    · have t9 : 9 < (l.length : Int) := by omega
      have EV := Lib.hid (numV_none (by rw [hN, numT_long c2]; rfl))
      go_enter Tryd.func12, Tryd.ntmps12
      go_wp2_with fail
      go_ret2
      exact ⟨by rw [EV.out]; rfl, rfl⟩
    · have t9 : (l.length : Int) ≤ 9 := by omega
      by_cases c3 : 1 < l.length
      · have t2 : 1 < (l.length : Int) := by omega
        by_cases c4 : y = 48
        · subst c4
          have EV := Lib.hid (numV_none (by rw [hN, numT_zero c3 hy]; rfl))
          go_enter Tryd.func12, Tryd.ntmps12
          go_wp2_with fail
          go_ret2
          exact ⟨by rw [EV.out]; rfl, rfl⟩
        · have q1 : ((y.toNat : Int) == 48) = false := by
            rw [beq_eq_false_iff_ne]
            intro z
            exact c4 (UInt8.toNat_inj.1 (by show y.toNat = 48; omega))
          have hF := numT_from (T := l) (by omega) (by omega) (fun z => c4 (by rw [← hy]; exact z.2))
          clear hy c4 t9 z2
          have t1 : 1 ≤ (l.length : Int) := by omega
          have t9 : (l.length : Int) ≤ 9 := by omega
          have HF := Lib.hid hF
          have HN := Lib.hid hN
          clear hF hN
          go_enter Tryd.func12, Tryd.ntmps12
          go_wp2_with fail
          go_loopw [5, 6] (fun v5 v6 wr => ∃ (i m : Nat), v5 = .int .i64 m ∧ v6 = .int .i64 i ∧ i ≤ l.length ∧ m < 1000000000 ∧ Lib.decFrom 0 (l.take i) = some m ∧ wr = w) (fun _ v6 _ => ((l.length : Int) - intOf v6).toNat)
          case atStart => exact ⟨0, 0, rfl, rfl, by omega, by omega, rfl, rfl⟩
          case round =>
            obtain ⟨i, m, rfl, rfl, i1, m9, hd, rfl⟩ := hrel
            have HD := Lib.hid hd
            clear hd
            by_cases hi : i < l.length
            · have hi2 : (i : Int) < (l.length : Int) := by omega
              have hy := byte_at l i hi
              have HY := Lib.hid (show l[i]? = some (l.getD i 0) by simp [List.getD, hi])
              generalize l.getD i 0 = y at *
              have y1 : (y.toNat : Int) ≤ 255 := by have := y.toNat_lt; omega
              have y0 : 0 ≤ (y.toNat : Int) := by omega
              by_cases a1 : (y.toNat : Int) < 48
              · have EV := Lib.hid (numV_none (by rw [HN.out, HF.out, decFrom_bad HY.out (by omega)]; rfl))
                go_wp2_with fail
                go_ret2
                exact ⟨by rw [EV.out]; rfl, rfl⟩
              · by_cases a2 : 57 < (y.toNat : Int)
                · have EV := Lib.hid (numV_none (by rw [HN.out, HF.out, decFrom_bad HY.out (by omega)]; rfl))
                  go_wp2_with fail
                  go_ret2
                  exact ⟨by rw [EV.out]; rfl, rfl⟩
                · have HE := Lib.hid (Lib.decFrom_take l i 0 m y (y.toNat - 48) HD.out HY.out (by unfold Lib.digitVal; rw [if_pos (by omega)]))
                  have hlt := Lib.decFrom_lt _ 0 _ HE.out
                  have hp : 10 ^ (l.take (i + 1)).length ≤ 10 ^ 9 := Nat.pow_le_pow_right (by decide) (by rw [List.length_take]; omega)
                  have hlt2 : m * 10 + (y.toNat - 48) < 1000000000 := by omega
                  clear hlt hp
                  go_wp2_with fail
                  go_roundw
                  case rel => exact ⟨i + 1, m * 10 + (y.toNat - 48), by first | (congr 1; omega) | (simp; omega), rfl, by omega, hlt2, HE.out, by first | trivial | rfl⟩
                  case measure => simp [intOf]; omega
            · obtain rfl : i = l.length := by omega
              rw [List.take_length] at HD
              have EV := Lib.hid (numV_some (show number l = some ((m : Int)) by rw [HN.out, HF.out, HD.out]; rfl))
              go_wp2_with fail
              go_ret2
              exact ⟨by rw [EV.out]; rfl, rfl⟩
      · have t2 : (l.length : Int) ≤ 1 := by omega
        have hF := numT_from (T := l) (by omega) (by omega) (fun z => c3 z.1)
        clear hy t9 z2
        have t1 : 1 ≤ (l.length : Int) := by omega
        have t9 : (l.length : Int) ≤ 9 := by omega
        have HF := Lib.hid hF
        have HN := Lib.hid hN
        clear hF hN
        go_enter Tryd.func12, Tryd.ntmps12
        go_wp2_with fail
        go_loopw [5, 6] (fun v5 v6 wr => ∃ (i m : Nat), v5 = .int .i64 m ∧ v6 = .int .i64 i ∧ i ≤ l.length ∧ m < 1000000000 ∧ Lib.decFrom 0 (l.take i) = some m ∧ wr = w) (fun _ v6 _ => ((l.length : Int) - intOf v6).toNat)
        case atStart => exact ⟨0, 0, rfl, rfl, by omega, by omega, rfl, rfl⟩
        case round =>
          obtain ⟨i, m, rfl, rfl, i1, m9, hd, rfl⟩ := hrel
          have HD := Lib.hid hd
          clear hd
          by_cases hi : i < l.length
          · have hi2 : (i : Int) < (l.length : Int) := by omega
            have hy := byte_at l i hi
            have HY := Lib.hid (show l[i]? = some (l.getD i 0) by simp [List.getD, hi])
            generalize l.getD i 0 = y at *
            have y1 : (y.toNat : Int) ≤ 255 := by have := y.toNat_lt; omega
            have y0 : 0 ≤ (y.toNat : Int) := by omega
            by_cases a1 : (y.toNat : Int) < 48
            · have EV := Lib.hid (numV_none (by rw [HN.out, HF.out, decFrom_bad HY.out (by omega)]; rfl))
              go_wp2_with fail
              go_ret2
              exact ⟨by rw [EV.out]; rfl, rfl⟩
            · by_cases a2 : 57 < (y.toNat : Int)
              · have EV := Lib.hid (numV_none (by rw [HN.out, HF.out, decFrom_bad HY.out (by omega)]; rfl))
                go_wp2_with fail
                go_ret2
                exact ⟨by rw [EV.out]; rfl, rfl⟩
              · have HE := Lib.hid (Lib.decFrom_take l i 0 m y (y.toNat - 48) HD.out HY.out (by unfold Lib.digitVal; rw [if_pos (by omega)]))
                have hlt := Lib.decFrom_lt _ 0 _ HE.out
                have hp : 10 ^ (l.take (i + 1)).length ≤ 10 ^ 9 := Nat.pow_le_pow_right (by decide) (by rw [List.length_take]; omega)
                have hlt2 : m * 10 + (y.toNat - 48) < 1000000000 := by omega
                clear hlt hp
                go_wp2_with fail
                go_roundw
                case rel => exact ⟨i + 1, m * 10 + (y.toNat - 48), by first | (congr 1; omega) | (simp; omega), rfl, by omega, hlt2, HE.out, by first | trivial | rfl⟩
                case measure => simp [intOf]; omega
          · obtain rfl : i = l.length := by omega
            rw [List.take_length] at HD
            have EV := Lib.hid (numV_some (show number l = some ((m : Int)) by rw [HN.out, HF.out, HD.out]; rfl))
            go_wp2_with fail
            go_ret2
            exact ⟨by rw [EV.out]; rfl, rfl⟩
theorem rnumber_any (l : List UInt8) (w : World) (hl : l.length ≤ 1000) : Calls Tryd.prog 12 #[.string ⟨l.toArray⟩] w fun e w' => e = .returned (numV l) ∧ w = w' := by
  by_cases h : l.head? = some 45
  · refine rnumber_neg l _ w hl ?_ ?_ rfl
    · cases l with
      | nil => cases h
      | cons => simp
    · cases l with
      | nil => cases h
      | cons b t => simpa using h
  · exact rnumber_pos l w hl h
end Go.Proofs.YtcfcfoiphadmkaaDoor
