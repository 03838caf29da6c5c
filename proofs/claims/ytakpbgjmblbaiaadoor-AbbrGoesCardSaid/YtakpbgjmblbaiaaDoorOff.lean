/-
  THE WALKS of offsets' texts: the program's and the document's.
-/
import Derived.Test.YtakpbgjmblbaiaaDoorProg
import Derived.Test.YtakpbgjmblbaiaaDoorMem
import Derived.Test.YtakpbgjmblbaiaaDoorQuiet
import Derived.Below
import Derived.Handy
import Derived.RegionTactic
import Derived.ChangeAlike
import Derived.IntWalk
import Derived.Outline
import Derived.WalkLawsBesides
import Derived.Laws.IdiomStrings
import Derived.Deep.QuietTactic
import Derived.Deep.Cut
import Derived.BigQuiet
namespace Go.Proofs.YtakpbgjmblbaiaaDoor
open Go Go.RowKit

theorem ba_app (a b : List UInt8) : (⟨a.toArray⟩ : ByteArray) ++ ⟨b.toArray⟩ = ⟨(a ++ b).toArray⟩ := by
  apply ByteArray.ext
  simp
/-- a digit -/
def dgt (n : Int) : UInt8 := UInt8.ofNat (48 + n.toNat)
theorem dgt_nat {n : Int} (h0 : 0 ≤ n) (h1 : n < 10) : ((dgt n).toNat : Int) = 48 + n := by
  have : (dgt n).toNat = 48 + n.toNat := by simp [dgt, UInt8.toNat_ofNat']; omega
  rw [this]; omega
/-- a number in two digits -/
def two (n : Int) : List UInt8 := [dgt (n / 10), dgt (n % 10)]
theorem cv_two (a b : Int) (w : World) (a0 : 0 ≤ a) (a1 : a < 10) (b0 : 0 ≤ b) (b1 : b < 10) :
    (convert 61 9 (.slice (some ⟨w.heap.size, 0, none⟩) 2 2)).run Tryd.prog (w.alloc (.cells #[.int .u8 (48 + a), .int .u8 (48 + b)] 5)) = .ok (.string ⟨[dgt a, dgt b].toArray⟩) (w.alloc (.cells #[.int .u8 (48 + a), .int .u8 (48 + b)] 5)) :=
  run_convert_bytes_back (w.alloc (.cells #[.int .u8 (48 + a), .int .u8 (48 + b)] 5)) 61 9 5 ⟨w.heap.size, 0, none⟩ 2 [dgt a, dgt b] Tryd.underlying61 Tryd.underlying5 Tryd.underlying9 (fun j hj => by
    have e0 := dgt_nat a0 a1
    have e1 := dgt_nat b0 b1
    match j, hj with
    | 0, _ =>
      simp only [List.getElem_cons_zero, e0]
      exact World.cell?_alloc_mark w _ _ _ 0
    | 1, _ =>
      simp only [List.getElem_cons_succ, List.getElem_cons_zero, e1]
      exact World.cell?_alloc_mark w _ _ _ 1)
theorem two_any (n : Int) (w : World) (h0 : 0 ≤ n) (h1 : n < 100) :
    Calls Tryd.prog 25 #[.int .i64 n] w fun e w' => e = .returned (.string ⟨(two n).toArray⟩) ∧ Below w.heap.size w w' := by
  have a0 : 0 ≤ n / 10 := by omega
  have a1 : n / 10 < 10 := by omega
  have b0 : 0 ≤ n % 10 := by omega
  have b1 : n % 10 < 10 := by omega
  have E := Lib.hid (show two n = [dgt (n / 10), dgt (n % 10)] from rfl)
  have RC := cv_two (n / 10) (n % 10) w a0 a1 b0 b1
  go_enter Tryd.func25, Tryd.ntmps25
  go_wp2_with fail
  go_ret
  exact ⟨by first | (rw [E.out]; done) | (rw [E.out]; rfl), (Below.refl _ _).alloc (Nat.le_refl _) _⟩
theorem pair_any (n : Int) (w : World) (h0 : 0 ≤ n) (h1 : n < 100) :
    Calls Tryd.prog 27 #[.int .i64 n] w fun e w' => e = .returned (.string ⟨(two n).toArray⟩) ∧ Below w.heap.size w w' := by
  have a0 : 0 ≤ n / 10 := by omega
  have a1 : n / 10 < 10 := by omega
  have b0 : 0 ≤ n % 10 := by omega
  have b1 : n % 10 < 10 := by omega
  have E := Lib.hid (show two n = [dgt (n / 10), dgt (n % 10)] from rfl)
  have RC := cv_two (n / 10) (n % 10) w a0 a1 b0 b1
  have Em : n / 10 % 10 = n / 10 := by omega
  go_enter Tryd.func27, Tryd.ntmps27
  go_wp2_with fail
  go_ret
  exact ⟨by first | (rw [E.out]; done) | (rw [E.out]; rfl), (Below.refl _ _).alloc (Nat.le_refl _) _⟩
/-- an offset's text, of a number that is not below nought, behind a sign -/
def otext (s : List UInt8) (n : Int) : List UInt8 :=
  s ++ two (n / 3600) ++ (if 0 < n % 3600 then two (n % 3600 / 60) else []) ++ if 0 < n % 60 then two (n % 60) else []
def offText (off : Int) : List UInt8 := if off < 0 then otext [45] (-off) else otext [43] off
theorem offset_pos (n : Int) (w : World) (h0 : 0 ≤ n) (hn : n < 360000) :
    Calls Tryd.prog 15 #[.int .i64 n] w fun e w' => e = .returned (.tuple #[.string ⟨(otext [43] n).toArray⟩, .int .i64 0]) ∧ Below w.heap.size w w' := by
  have q1 : 0 ≤ n / 3600 := by omega
  have q2 : n / 3600 < 100 := by omega
  have HBw := Lib.hid (Below.refl w.heap.size w)
  have E : otext [43] n = [43] ++ two (n / 3600) ++ (if 0 < n % 3600 then two (n % 3600 / 60) else []) ++ (if 0 < n % 60 then two (n % 60) else []) := rfl
  by_cases h1 : 0 < n % 3600
  · by_cases h2 : 0 < n % 60
    · rw [if_pos h1, if_pos h2] at E
      have HE := Lib.hid E
      clear E
      go_enter Tryd.func15, Tryd.ntmps15
      go_wp2_with fail
      refine (two_any (n / 3600) _ q1 q2).mono ?_
      rintro e w1 ⟨rfl, hb⟩
      have HBw1 := Lib.hid (HBw.out.trans (hb.mono HBw.out.size))
      clear hb
      go_wp2_with fail
      refine (two_any (n % 3600 / 60) _ (by omega) (by omega)).mono ?_
      rintro e w2 ⟨rfl, hb⟩
      have HBw2 := Lib.hid (HBw1.out.trans (hb.mono HBw1.out.size))
      clear hb
      go_wp2_with fail
      refine (two_any (n % 60) _ (by omega) (by omega)).mono ?_
      rintro e w3 ⟨rfl, hb⟩
      have HBw3 := Lib.hid (HBw2.out.trans (hb.mono HBw2.out.size))
      clear hb
      go_wp2_with fail
      go_ret2
      exact ⟨by rw [HE.out]; simp [ba_app], HBw3.out⟩
    · rw [if_pos h1, if_neg h2] at E
      have HE := Lib.hid E
      clear E
      go_enter Tryd.func15, Tryd.ntmps15
      go_wp2_with fail
      refine (two_any (n / 3600) _ q1 q2).mono ?_
      rintro e w1 ⟨rfl, hb⟩
      have HBw1 := Lib.hid (HBw.out.trans (hb.mono HBw.out.size))
      clear hb
      go_wp2_with fail
      refine (two_any (n % 3600 / 60) _ (by omega) (by omega)).mono ?_
      rintro e w2 ⟨rfl, hb⟩
      have HBw2 := Lib.hid (HBw1.out.trans (hb.mono HBw1.out.size))
      clear hb
      go_wp2_with fail
      go_ret2
      exact ⟨by rw [HE.out]; simp [ba_app], HBw2.out⟩
  · have h2 : ¬ 0 < n % 60 := by omega
    rw [if_neg h1, if_neg h2] at E
    have HE := Lib.hid E
    clear E
    go_enter Tryd.func15, Tryd.ntmps15
    go_wp2_with fail
    refine (two_any (n / 3600) _ q1 q2).mono ?_
    rintro e w1 ⟨rfl, hb⟩
    have HBw1 := Lib.hid (HBw.out.trans (hb.mono HBw.out.size))
    clear hb
    go_wp2_with fail
    go_ret2
    exact ⟨by rw [HE.out]; simp [ba_app], HBw1.out⟩
theorem offset_neg (n : Int) (w : World) (h0 : 0 < n) (hn : n < 360000) :
    Calls Tryd.prog 15 #[.int .i64 (-n)] w fun e w' => e = .returned (.tuple #[.string ⟨(otext [45] n).toArray⟩, .int .i64 0]) ∧ Below w.heap.size w w' := by
  have q1 : 0 ≤ n / 3600 := by omega
  have q2 : n / 3600 < 100 := by omega
  have HBw := Lib.hid (Below.refl w.heap.size w)
  have E : otext [45] n = [45] ++ two (n / 3600) ++ (if 0 < n % 3600 then two (n % 3600 / 60) else []) ++ (if 0 < n % 60 then two (n % 60) else []) := rfl
  by_cases h1 : 0 < n % 3600
  · by_cases h2 : 0 < n % 60
    · rw [if_pos h1, if_pos h2] at E
      have HE := Lib.hid E
      clear E
      go_enter Tryd.func15, Tryd.ntmps15
      go_wp2_with fail
      refine (two_any (n / 3600) _ q1 q2).mono ?_
      rintro e w1 ⟨rfl, hb⟩
      have HBw1 := Lib.hid (HBw.out.trans (hb.mono HBw.out.size))
      clear hb
      go_wp2_with fail
      refine (two_any (n % 3600 / 60) _ (by omega) (by omega)).mono ?_
      rintro e w2 ⟨rfl, hb⟩
      have HBw2 := Lib.hid (HBw1.out.trans (hb.mono HBw1.out.size))
      clear hb
      go_wp2_with fail
      refine (two_any (n % 60) _ (by omega) (by omega)).mono ?_
      rintro e w3 ⟨rfl, hb⟩
      have HBw3 := Lib.hid (HBw2.out.trans (hb.mono HBw2.out.size))
      clear hb
      go_wp2_with fail
      go_ret2
      exact ⟨by rw [HE.out]; simp [ba_app], HBw3.out⟩
    · rw [if_pos h1, if_neg h2] at E
      have HE := Lib.hid E
      clear E
      go_enter Tryd.func15, Tryd.ntmps15
      go_wp2_with fail
      refine (two_any (n / 3600) _ q1 q2).mono ?_
      rintro e w1 ⟨rfl, hb⟩
      have HBw1 := Lib.hid (HBw.out.trans (hb.mono HBw.out.size))
      clear hb
      go_wp2_with fail
      refine (two_any (n % 3600 / 60) _ (by omega) (by omega)).mono ?_
      rintro e w2 ⟨rfl, hb⟩
      have HBw2 := Lib.hid (HBw1.out.trans (hb.mono HBw1.out.size))
      clear hb
      go_wp2_with fail
      go_ret2
      exact ⟨by rw [HE.out]; simp [ba_app], HBw2.out⟩
  · have h2 : ¬ 0 < n % 60 := by omega
    rw [if_neg h1, if_neg h2] at E
    have HE := Lib.hid E
    clear E
    go_enter Tryd.func15, Tryd.ntmps15
    go_wp2_with fail
    refine (two_any (n / 3600) _ q1 q2).mono ?_
    rintro e w1 ⟨rfl, hb⟩
    have HBw1 := Lib.hid (HBw.out.trans (hb.mono HBw.out.size))
    clear hb
    go_wp2_with fail
    go_ret2
    exact ⟨by rw [HE.out]; simp [ba_app], HBw1.out⟩
theorem offset_ok (off : Int) (w : World) (h0 : -360000 < off) (hn : off < 360000) :
    Calls Tryd.prog 15 #[.int .i64 off] w fun e w' => e = .returned (.tuple #[.string ⟨(offText off).toArray⟩, .int .i64 0]) ∧ Below w.heap.size w w' := by
  unfold offText
  by_cases h : off < 0
  · rw [if_pos h]
    have := offset_neg (-off) w (by omega) (by omega)
    rwa [show -(-off) = off by omega] at this
  · rw [if_neg h]
    exact offset_pos off w (by omega) hn
theorem offset_no (off : Int) (w : World) (h : ¬ (-360000 < off ∧ off < 360000)) :
    Calls Tryd.prog 15 #[.int .i64 off] w fun e w' => e = .returned (.tuple #[.string ⟨#[]⟩, .int .i64 10]) ∧ Below w.heap.size w w' := by
  by_cases h1 : off ≤ -360000
  · clear h
    go_enter Tryd.func15, Tryd.ntmps15
    go_wp2_with fail
    go_ret2
    exact ⟨rfl, Below.refl _ _⟩
  · have h2 : 360000 ≤ off := by omega
    clear h
    go_enter Tryd.func15, Tryd.ntmps15
    go_wp2_with fail
    go_ret2
    exact ⟨rfl, Below.refl _ _⟩
set_option maxHeartbeats 1000000 in
theorem roffset_pos (n : Int) (w : World) (h0 : 0 ≤ n) (hn : n < 360000) :
    Calls Tryd.prog 17 #[.int .i64 n] w fun e w' => e = .returned (.string ⟨(otext [43] n).toArray⟩) ∧ Below w.heap.size w w' := by
  have HBw := Lib.hid (Below.refl w.heap.size w)
  have q1 : 0 ≤ n / 3600 := by omega
  have q2 : n / 3600 < 100 := by omega
  have q3 : 0 ≤ n % 3600 / 60 := by omega
  have q4 : n % 3600 / 60 < 100 := by omega
  have q5 : 0 ≤ n % 60 := by omega
  have q6 : n % 60 < 100 := by omega
  have Em : n / 60 - 60 * (n / 3600) = n % 3600 / 60 := by omega
  have Ec : n - 3600 * (n / 3600) - 60 * (n % 3600 / 60) = n % 60 := by omega
  have G1 := Lib.hid (fun w => pair_any (n / 3600) w q1 q2)
  have G2 := Lib.hid (fun w => pair_any (n % 3600 / 60) w q3 q4)
  have G3 := Lib.hid (fun w => pair_any (n % 60) w q5 q6)
  have E : otext [43] n = [43] ++ two (n / 3600) ++ (if 0 < n % 3600 then two (n % 3600 / 60) else []) ++ (if 0 < n % 60 then two (n % 60) else []) := rfl
  by_cases h2 : 0 < n % 60
  · have f2 : (n % 60 != 0) = true := by simp; omega
    have h1 : 0 < n % 3600 := by omega
    rw [if_pos h1, if_pos h2] at E
    have HE := Lib.hid E
    clear E h1 h2
    go_enter Tryd.func17, Tryd.ntmps17
    go_wp2_with fail
    refine (G1.out _).mono ?_
    rintro e w1 ⟨rfl, hb⟩
    have HBw1 := Lib.hid (HBw.out.trans (hb.mono HBw.out.size))
    clear hb
    go_wp2_with fail
    refine (G2.out _).mono ?_
    rintro e w2 ⟨rfl, hb⟩
    have HBw2 := Lib.hid (HBw1.out.trans (hb.mono HBw1.out.size))
    clear hb
    go_wp2_with fail
    refine (G3.out _).mono ?_
    rintro e w3 ⟨rfl, hb⟩
    have HBw3 := Lib.hid (HBw2.out.trans (hb.mono HBw2.out.size))
    clear hb
    go_wp2_with fail
    go_ret
    exact ⟨by rw [HE.out]; simp [ba_app], HBw3.out⟩
  · have f2 : (n % 60 != 0) = false := by simp; omega
    by_cases h1 : 0 < n % 3600
    · have f1 : (n % 3600 / 60 != 0) = true := by simp; omega
      rw [if_pos h1, if_neg h2] at E
      have HE := Lib.hid E
      clear E h1 h2
      go_enter Tryd.func17, Tryd.ntmps17
      go_wp2_with fail
      refine (G1.out _).mono ?_
      rintro e w1 ⟨rfl, hb⟩
      have HBw1 := Lib.hid (HBw.out.trans (hb.mono HBw.out.size))
      clear hb
      go_wp2_with fail
      refine (G2.out _).mono ?_
      rintro e w2 ⟨rfl, hb⟩
      have HBw2 := Lib.hid (HBw1.out.trans (hb.mono HBw1.out.size))
      clear hb
      go_wp2_with fail
      go_ret
      exact ⟨by rw [HE.out]; simp [ba_app], HBw2.out⟩
    · have f1 : (n % 3600 / 60 != 0) = false := by simp; omega
      rw [if_neg h1, if_neg h2] at E
      have HE := Lib.hid E
      clear E h1 h2
      go_enter Tryd.func17, Tryd.ntmps17
      go_wp2_with fail
      refine (G1.out _).mono ?_
      rintro e w1 ⟨rfl, hb⟩
      have HB1 := Lib.hid hb
      clear hb
      go_wp2_with fail
      go_ret
      exact ⟨by rw [HE.out]; simp [ba_app], HB1.out⟩
set_option maxHeartbeats 1000000 in
theorem roffset_neg (n : Int) (w : World) (h0 : 0 < n) (hn : n < 360000) :
    Calls Tryd.prog 17 #[.int .i64 (-n)] w fun e w' => e = .returned (.string ⟨(otext [45] n).toArray⟩) ∧ Below w.heap.size w w' := by
  have HBw := Lib.hid (Below.refl w.heap.size w)
  have q1 : 0 ≤ n / 3600 := by omega
  have q2 : n / 3600 < 100 := by omega
  have q3 : 0 ≤ n % 3600 / 60 := by omega
  have q4 : n % 3600 / 60 < 100 := by omega
  have q5 : 0 ≤ n % 60 := by omega
  have q6 : n % 60 < 100 := by omega
  have Em : n / 60 - 60 * (n / 3600) = n % 3600 / 60 := by omega
  have Ec : n - 3600 * (n / 3600) - 60 * (n % 3600 / 60) = n % 60 := by omega
  have G1 := Lib.hid (fun w => pair_any (n / 3600) w q1 q2)
  have G2 := Lib.hid (fun w => pair_any (n % 3600 / 60) w q3 q4)
  have G3 := Lib.hid (fun w => pair_any (n % 60) w q5 q6)
  have E : otext [45] n = [45] ++ two (n / 3600) ++ (if 0 < n % 3600 then two (n % 3600 / 60) else []) ++ (if 0 < n % 60 then two (n % 60) else []) := rfl
  by_cases h2 : 0 < n % 60
  · have f2 : (n % 60 != 0) = true := by simp; omega
    have h1 : 0 < n % 3600 := by omega
    rw [if_pos h1, if_pos h2] at E
    have HE := Lib.hid E
    clear E h1 h2
    go_enter Tryd.func17, Tryd.ntmps17
    go_wp2_with fail
    refine (G1.out _).mono ?_
    rintro e w1 ⟨rfl, hb⟩
    have HBw1 := Lib.hid (HBw.out.trans (hb.mono HBw.out.size))
    clear hb
    go_wp2_with fail
    refine (G2.out _).mono ?_
    rintro e w2 ⟨rfl, hb⟩
    have HBw2 := Lib.hid (HBw1.out.trans (hb.mono HBw1.out.size))
    clear hb
    go_wp2_with fail
    refine (G3.out _).mono ?_
    rintro e w3 ⟨rfl, hb⟩
    have HBw3 := Lib.hid (HBw2.out.trans (hb.mono HBw2.out.size))
    clear hb
    go_wp2_with fail
    go_ret
    exact ⟨by rw [HE.out]; simp [ba_app], HBw3.out⟩
  · have f2 : (n % 60 != 0) = false := by simp; omega
    by_cases h1 : 0 < n % 3600
    · have f1 : (n % 3600 / 60 != 0) = true := by simp; omega
      rw [if_pos h1, if_neg h2] at E
      have HE := Lib.hid E
      clear E h1 h2
      go_enter Tryd.func17, Tryd.ntmps17
      go_wp2_with fail
      refine (G1.out _).mono ?_
      rintro e w1 ⟨rfl, hb⟩
      have HBw1 := Lib.hid (HBw.out.trans (hb.mono HBw.out.size))
      clear hb
      go_wp2_with fail
      refine (G2.out _).mono ?_
      rintro e w2 ⟨rfl, hb⟩
      have HBw2 := Lib.hid (HBw1.out.trans (hb.mono HBw1.out.size))
      clear hb
      go_wp2_with fail
      go_ret
      exact ⟨by rw [HE.out]; simp [ba_app], HBw2.out⟩
    · have f1 : (n % 3600 / 60 != 0) = false := by simp; omega
      rw [if_neg h1, if_neg h2] at E
      have HE := Lib.hid E
      clear E h1 h2
      go_enter Tryd.func17, Tryd.ntmps17
      go_wp2_with fail
      refine (G1.out _).mono ?_
      rintro e w1 ⟨rfl, hb⟩
      have HB1 := Lib.hid hb
      clear hb
      go_wp2_with fail
      go_ret
      exact ⟨by rw [HE.out]; simp [ba_app], HB1.out⟩
theorem roffset_ok (off : Int) (w : World) (h0 : -360000 < off) (hn : off < 360000) :
    Calls Tryd.prog 17 #[.int .i64 off] w fun e w' => e = .returned (.string ⟨(offText off).toArray⟩) ∧ Below w.heap.size w w' := by
  unfold offText
  by_cases h : off < 0
  · rw [if_pos h]
    have := roffset_neg (-off) w (by omega) (by omega)
    rwa [show -(-off) = off by omega] at this
  · rw [if_neg h]
    exact roffset_pos off w (by omega) hn
end Go.Proofs.YtakpbgjmblbaiaaDoor
