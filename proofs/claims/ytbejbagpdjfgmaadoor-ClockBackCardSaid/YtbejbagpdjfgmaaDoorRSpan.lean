/-
  THE WALKS of the document's digits, parts, Span and Parse.
-/
import Derived.Test.YtbejbagpdjfgmaaDoorCPAny
import Derived.Test.YtbejbagpdjfgmaaDoorCkRise
import Derived.Laws.AppendOwn
import Derived.Laws.AppendOwnNone
import Derived.OwnWalk
namespace Go.Proofs.YtbejbagpdjfgmaaDoor
open Go Go.RowKit
theorem byte_at (l : List UInt8) (k : Nat) (h : k < l.length) : (⟨l.toArray⟩ : ByteArray)[k]'(by show k < l.toArray.size; simpa using h) = l.getD k 0 := by
  simp [List.getD, h, ByteArray.getElem_eq_getElem_data]
theorem fw_step (l : List UInt8) (i : Nat) (y : UInt8) (h : l[i]? = some y) : fw (l.take (i + 1)) = IntKind.i64.wrap (IntKind.i64.wrap (10 * fw (l.take i)) + ((y.toNat : Int) - 48)) := by
  unfold fw
  rw [List.take_add_one, h, List.foldl_append]
  rfl
def alld (l : List UInt8) : Prop := ∀ c ∈ l, 48 ≤ c.toNat ∧ c.toNat ≤ 57
set_option maxHeartbeats 2000000 in
theorem rdig_any (l : List UInt8) (w : World) (hl : l.length ≤ 1000) :
    Calls Tryd.prog 38 #[.string ⟨l.toArray⟩] w fun e w' => e = .returned (.int .i64 (rdg l)) ∧ w = w' := by
  have hl2 : (l.length : Int) ≤ 1000 := by omega
  go_enter Tryd.func38, Tryd.ntmps38
  go_wp2_with fail
  go_loopw [3, 4] (fun v3 v4 wr => ∃ (i : Nat) (n : Int), v3 = .int .i64 n ∧ v4 = .int .i64 i ∧ i ≤ l.length ∧ n = fw (l.take i) ∧ alld (l.take i) ∧ wr = w) (fun _ v4 _ => ((l.length : Int) - intOf v4).toNat)
  case atStart => exact ⟨0, 0, rfl, rfl, by omega, rfl, (fun c hc => by simp at hc), rfl⟩
  case round =>
    obtain ⟨i, n, rfl, rfl, i1, hn, ha, rfl⟩ := hrel
    have HN := Lib.hid hn
    have HA := Lib.hid ha
    clear hn ha
    by_cases hi : i < l.length
    · have hi2 : (i : Int) < (l.length : Int) := by omega
      have hy := byte_at l i hi
      have HY := Lib.hid (show l[i]? = some (l.getD i 0) by simp [List.getD, hi])
      generalize l.getD i 0 = y at *
      have y1 : (y.toNat : Int) ≤ 255 := by have := y.toNat_lt; omega
      have y0 : 0 ≤ (y.toNat : Int) := by omega
      by_cases a1 : (y.toNat : Int) < 48
      ·
        have EV := Lib.hid (show rdg l = -1 from rdg_no fun hg => by have := hg.2 y (List.mem_of_getElem? HY.out); omega)
        go_wp2_with fail
        go_ret
        exact ⟨by first | (rw [EV.out]; done) | (rw [EV.out]; rfl), rfl⟩
      · by_cases a2 : 57 < (y.toNat : Int)
        ·
          have EV := Lib.hid (show rdg l = -1 from rdg_no fun hg => by have := hg.2 y (List.mem_of_getElem? HY.out); omega)
          go_wp2_with fail
          go_ret
          exact ⟨by first | (rw [EV.out]; done) | (rw [EV.out]; rfl), rfl⟩
        · have HE := Lib.hid (fw_step l i y HY.out)
          rw [← HN.out] at HE
          obtain ⟨q, hq⟩ : ∃ q, IntKind.i64.wrap (10 * n) = q := ⟨_, rfl⟩
          rw [hq] at HE
          obtain ⟨r, hr⟩ : ∃ r, IntKind.i64.wrap (q + ((y.toNat : Int) - 48)) = r := ⟨_, rfl⟩
          rw [hr] at HE
          go_wp2_with fail
          go_roundw
          case rel =>
            refine ⟨i + 1, r, by trivial, by trivial, by omega, HE.out.symm, ?_, by trivial⟩
            intro c hc
            rw [List.take_add_one, HY.out] at hc
            rcases List.mem_append.1 hc with hc | hc
            · exact HA.out c hc
            · obtain rfl : c = y := by simpa using hc
              omega
          case measure => simp [intOf]; omega
    · obtain rfl : i = l.length := by omega
      rw [List.take_length] at HN HA
      by_cases h0 : l = []
      · subst h0
        clear hi
        go_wp2_with fail
        go_ret
        exact ⟨rfl, rfl⟩
      · have e1 : (l == []) = false := beq_eq_false_iff_ne.2 h0
        have e2 : l.isEmpty = false := by cases l with | nil => exact absurd rfl h0 | cons _ _ => rfl
        have EV := Lib.hid (show rdg l = n by unfold rdg; rw [if_pos ⟨h0, HA.out⟩, HN.out])
        clear h0
        go_wp2_with fail
        go_ret
        exact ⟨by first | (rw [EV.out]; done) | (rw [EV.out]; rfl), rfl⟩
end Go.Proofs.YtbejbagpdjfgmaaDoor
