/-
  THE WALK of clock.Text.
-/
import Derived.Test.YtbejbagpdjfgmaaDoorCParse
import Derived.Test.YtbejbagpdjfgmaaDoorQuiet
namespace Go.Proofs.YtbejbagpdjfgmaaDoor
open Go Go.RowKit
/-- what Itoa reads -/
def Pw (w : World) : Prop := Lib.TabIs Tryd.prog w "internal/strconv.uint64pow10" .u64 Lib.pow10Tab
theorem Pw.below {w w' : World} (h : Pw w) (hb : Below w.heap.size w w') : Pw w' := Lib.tabBelow_of_tabIs h w' hb
/-- the digits of a number that is not below nought -/
def dec (k : Int) : List UInt8 := Lib.decDigits k.toNat
theorem itoa_any (k : Int) (w : World) (h0 : 0 ≤ k) (h1 : k < 1000) (hP : Pw w) : Calls Tryd.prog 32 #[.int .i64 k] w fun e w' => e = .returned (.string ⟨(dec k).toArray⟩) ∧ Below w.heap.size w w' := by
  refine (Tryd.strconv_Itoa k (by omega) (by omega) w hP).mono ?_
  rintro e w' ⟨rfl, m, os, rfl⟩
  refine ⟨?_, Lib.below_grow w.heap.size w (Nat.le_refl _) m os⟩
  unfold dec Lib.itoa
  rw [if_neg (by omega)]
theorem dec_len3 {k : Int} (h0 : 0 ≤ k) (h1 : k < 200) : (dec k).length ≤ 3 := by
  have : ∀ u : Fin 200, (Lib.decDigits u.1).length ≤ 3 := by decide +kernel
  exact this ⟨k.toNat, by omega⟩
theorem ba_app (a b : List UInt8) : (⟨a.toArray⟩ : ByteArray) ++ ⟨b.toArray⟩ = ⟨(a ++ b).toArray⟩ := by
  apply ByteArray.ext
  simp
def twoT (u : Int) : List UInt8 := [58] ++ dec (u / 10) ++ dec (u % 10)
set_option maxRecDepth 100000 in
set_option maxHeartbeats 2000000 in
theorem two_any (u : Int) (w : World) (h0 : 0 ≤ u) (hu : u < 100) (hP : Pw w) :
    Calls Tryd.prog 31 #[.int .i64 u] w fun e w' => e = .returned (.string ⟨(twoT u).toArray⟩) ∧ Below w.heap.size w w' := by
  have HP := Lib.hid hP
  have HBw := Lib.hid (Below.refl w.heap.size w)
  have l1 : ((dec (u / 10)).length : Int) ≤ 3 := by have := dec_len3 (k := u / 10) (by omega) (by omega); omega
  have l2 : ((dec (u % 10)).length : Int) ≤ 3 := by have := dec_len3 (k := u % 10) (by omega) (by omega); omega
  clear hP
  obtain ⟨T, hT⟩ : ∃ T, dec (u / 10) = T := ⟨_, rfl⟩
  obtain ⟨U, hU⟩ : ∃ U, dec (u % 10) = U := ⟨_, rfl⟩
  rw [hT] at l1
  rw [hU] at l2
  have HT := Lib.hid hT
  have HU := Lib.hid hU
  clear hT hU
  go_enter Tryd.func31, Tryd.ntmps31
  go_wp2_with fail
  refine (itoa_any (u / 10) _ (by omega) (by omega) (HP.out.below HBw.out)).mono ?_
  rintro e w1 ⟨rfl, hb⟩
  have HBw1 := Lib.hid (HBw.out.trans (hb.mono HBw.out.size))
  clear hb
  rw [HT.out]
  go_wp2_with fail
  refine (itoa_any (u % 10) _ (by omega) (by omega) (HP.out.below HBw1.out)).mono ?_
  rintro e w2 ⟨rfl, hb⟩
  have HBw2 := Lib.hid (HBw1.out.trans (hb.mono HBw1.out.size))
  clear hb
  rw [HU.out]
  go_wp2_with fail
  go_ret
  refine ⟨?_, HBw2.out⟩
  unfold twoT
  rw [HT.out, HU.out, ← ba_app, ← ba_app]
  rfl
/-- a span as a text -/
def textP (n : Int) : List UInt8 := dec (n / 3600) ++ twoT (n / 60 % 60) ++ (if 0 < n % 60 then twoT (n % 60) else [])
def textOf (n : Int) : List UInt8 := if n < 0 then [45] ++ textP (-n) else textP n
theorem two_len {u : Int} (h0 : 0 ≤ u) (h1 : u < 100) : (twoT u).length ≤ 7 := by
  have := dec_len3 (k := u / 10) (by omega) (by omega)
  have := dec_len3 (k := u % 10) (by omega) (by omega)
  unfold twoT
  simp
  omega
theorem textP_plain {m : Int} (h : ¬ 0 < m % 60) : textP m = dec (m / 3600) ++ twoT (m / 60 % 60) := by unfold textP; rw [if_neg h, List.append_nil]
theorem textP_more {m : Int} (h : 0 < m % 60) : textP m = dec (m / 3600) ++ twoT (m / 60 % 60) ++ twoT (m % 60) := by unfold textP; rw [if_pos h]
set_option maxRecDepth 100000 in
set_option maxHeartbeats 2000000 in
theorem text_pos1 (m : Int) (w : World) (h1 : 0 ≤ m) (h2 : m < 604800) (hP : Pw w) (hz : m % 60 ≤ 0) :
    Calls Tryd.prog 17 #[.int .i64 m] w fun e w' => e = .returned (.tuple #[.string ⟨(textP m).toArray⟩, .int .i64 0]) ∧ Below w.heap.size w w' := by
  have EX := Lib.hid (textP_plain (m := m) (by omega))
  have HP := Lib.hid hP
  have HBw := Lib.hid (Below.refl w.heap.size w)
  clear hP
  have hh : 0 ≤ m / 3600 ∧ m / 3600 < 200 := by omega
  obtain ⟨hh0, hh1⟩ := hh
  have l1 : ((dec (m / 3600)).length : Int) ≤ 3 := by have := dec_len3 hh0 hh1; omega
  have l2 : ((twoT (m / 60 % 60)).length : Int) ≤ 7 := by have := two_len (u := m / 60 % 60) (by omega) (by omega); omega
  have l3 : ((twoT (m % 60)).length : Int) ≤ 7 := by have := two_len (u := m % 60) (by omega) (by omega); omega
  obtain ⟨H, hH⟩ : ∃ H, dec (m / 3600) = H := ⟨_, rfl⟩
  obtain ⟨T, hT⟩ : ∃ T, twoT (m / 60 % 60) = T := ⟨_, rfl⟩
  obtain ⟨U, hU⟩ : ∃ U, twoT (m % 60) = U := ⟨_, rfl⟩
  rw [hH] at l1
  rw [hT] at l2
  rw [hU] at l3
  have HH := Lib.hid hH
  have HTT := Lib.hid hT
  have HU := Lib.hid hU
  clear hH hT hU
  go_enter Tryd.func17, Tryd.ntmps17
  go_wp2_with fail
  refine (may_yes (m) _ (by omega) (by omega)).mono ?_
  rintro e w9 ⟨rfl, rfl⟩
  go_wp2_with fail
  refine (itoa_any (m / 3600) _ (by omega) (by omega) (HP.out.below HBw.out)).mono ?_
  rintro e w1 ⟨rfl, hb⟩
  have HBw1 := Lib.hid (HBw.out.trans (hb.mono HBw.out.size))
  clear hb
  rw [HH.out]
  go_wp2_with fail
  refine (two_any (m / 60 % 60) _ (by omega) (by omega) (HP.out.below HBw1.out)).mono ?_
  rintro e w2 ⟨rfl, hb⟩
  have HBw2 := Lib.hid (HBw1.out.trans (hb.mono HBw1.out.size))
  rw [HTT.out]
  clear hb
  go_wp2_with fail
  go_ret2
  refine ⟨?_, HBw2.out⟩
  rw [EX.out, HH.out, HTT.out]
  show Ending.returned (.tuple #[.string (⟨([] : List UInt8).toArray⟩ ++ ⟨H.toArray⟩ ++ ⟨T.toArray⟩), .int .i64 0]) = _
  rw [ba_app, ba_app, List.nil_append]
set_option maxRecDepth 100000 in
set_option maxHeartbeats 2000000 in
theorem text_pos2 (m : Int) (w : World) (h1 : 0 ≤ m) (h2 : m < 604800) (hP : Pw w) (hz : 0 < m % 60) :
    Calls Tryd.prog 17 #[.int .i64 m] w fun e w' => e = .returned (.tuple #[.string ⟨(textP m).toArray⟩, .int .i64 0]) ∧ Below w.heap.size w w' := by
  have EX := Lib.hid (textP_more (m := m) (by omega))
  have HP := Lib.hid hP
  have HBw := Lib.hid (Below.refl w.heap.size w)
  clear hP
  have hh : 0 ≤ m / 3600 ∧ m / 3600 < 200 := by omega
  obtain ⟨hh0, hh1⟩ := hh
  have l1 : ((dec (m / 3600)).length : Int) ≤ 3 := by have := dec_len3 hh0 hh1; omega
  have l2 : ((twoT (m / 60 % 60)).length : Int) ≤ 7 := by have := two_len (u := m / 60 % 60) (by omega) (by omega); omega
  have l3 : ((twoT (m % 60)).length : Int) ≤ 7 := by have := two_len (u := m % 60) (by omega) (by omega); omega
  obtain ⟨H, hH⟩ : ∃ H, dec (m / 3600) = H := ⟨_, rfl⟩
  obtain ⟨T, hT⟩ : ∃ T, twoT (m / 60 % 60) = T := ⟨_, rfl⟩
  obtain ⟨U, hU⟩ : ∃ U, twoT (m % 60) = U := ⟨_, rfl⟩
  rw [hH] at l1
  rw [hT] at l2
  rw [hU] at l3
  have HH := Lib.hid hH
  have HTT := Lib.hid hT
  have HU := Lib.hid hU
  clear hH hT hU
  go_enter Tryd.func17, Tryd.ntmps17
  go_wp2_with fail
  refine (may_yes (m) _ (by omega) (by omega)).mono ?_
  rintro e w9 ⟨rfl, rfl⟩
  go_wp2_with fail
  refine (itoa_any (m / 3600) _ (by omega) (by omega) (HP.out.below HBw.out)).mono ?_
  rintro e w1 ⟨rfl, hb⟩
  have HBw1 := Lib.hid (HBw.out.trans (hb.mono HBw.out.size))
  clear hb
  rw [HH.out]
  go_wp2_with fail
  refine (two_any (m / 60 % 60) _ (by omega) (by omega) (HP.out.below HBw1.out)).mono ?_
  rintro e w2 ⟨rfl, hb⟩
  have HBw2 := Lib.hid (HBw1.out.trans (hb.mono HBw1.out.size))
  rw [HTT.out]
  clear hb
  go_wp2_with fail
  refine (two_any (m % 60) _ (by omega) (by omega) (HP.out.below HBw2.out)).mono ?_
  rintro e w3 ⟨rfl, hb⟩
  have HBw3 := Lib.hid (HBw2.out.trans (hb.mono HBw2.out.size))
  rw [HU.out]
  clear hb
  go_wp2_with fail
  go_ret2
  refine ⟨?_, HBw3.out⟩
  rw [EX.out, HH.out, HTT.out, HU.out]
  show Ending.returned (.tuple #[.string (⟨([] : List UInt8).toArray⟩ ++ ⟨H.toArray⟩ ++ ⟨T.toArray⟩ ++ ⟨U.toArray⟩), .int .i64 0]) = _
  rw [ba_app, ba_app, ba_app, List.nil_append]
set_option maxRecDepth 100000 in
set_option maxHeartbeats 2000000 in
theorem text_neg1 (m : Int) (w : World) (h1 : 0 < m) (h2 : m < 604800) (hP : Pw w) (hz : m % 60 ≤ 0) :
    Calls Tryd.prog 17 #[.int .i64 (-m)] w fun e w' => e = .returned (.tuple #[.string ⟨([45] ++ textP m).toArray⟩, .int .i64 0]) ∧ Below w.heap.size w w' := by
  have EX := Lib.hid (textP_plain (m := m) (by omega))
  have HP := Lib.hid hP
  have HBw := Lib.hid (Below.refl w.heap.size w)
  clear hP
  have hh : 0 ≤ m / 3600 ∧ m / 3600 < 200 := by omega
  obtain ⟨hh0, hh1⟩ := hh
  have l1 : ((dec (m / 3600)).length : Int) ≤ 3 := by have := dec_len3 hh0 hh1; omega
  have l2 : ((twoT (m / 60 % 60)).length : Int) ≤ 7 := by have := two_len (u := m / 60 % 60) (by omega) (by omega); omega
  have l3 : ((twoT (m % 60)).length : Int) ≤ 7 := by have := two_len (u := m % 60) (by omega) (by omega); omega
  obtain ⟨H, hH⟩ : ∃ H, dec (m / 3600) = H := ⟨_, rfl⟩
  obtain ⟨T, hT⟩ : ∃ T, twoT (m / 60 % 60) = T := ⟨_, rfl⟩
  obtain ⟨U, hU⟩ : ∃ U, twoT (m % 60) = U := ⟨_, rfl⟩
  rw [hH] at l1
  rw [hT] at l2
  rw [hU] at l3
  have HH := Lib.hid hH
  have HTT := Lib.hid hT
  have HU := Lib.hid hU
  clear hH hT hU
  go_enter Tryd.func17, Tryd.ntmps17
  go_wp2_with fail
  refine (may_yes (-m) _ (by omega) (by omega)).mono ?_
  rintro e w9 ⟨rfl, rfl⟩
  go_wp2_with fail
  refine (itoa_any (m / 3600) _ (by omega) (by omega) (HP.out.below HBw.out)).mono ?_
  rintro e w1 ⟨rfl, hb⟩
  have HBw1 := Lib.hid (HBw.out.trans (hb.mono HBw.out.size))
  clear hb
  rw [HH.out]
  go_wp2_with fail
  refine (two_any (m / 60 % 60) _ (by omega) (by omega) (HP.out.below HBw1.out)).mono ?_
  rintro e w2 ⟨rfl, hb⟩
  have HBw2 := Lib.hid (HBw1.out.trans (hb.mono HBw1.out.size))
  rw [HTT.out]
  clear hb
  go_wp2_with fail
  go_ret2
  refine ⟨?_, HBw2.out⟩
  rw [EX.out, HH.out, HTT.out]
  show Ending.returned (.tuple #[.string (⟨([45] : List UInt8).toArray⟩ ++ ⟨H.toArray⟩ ++ ⟨T.toArray⟩), .int .i64 0]) = _
  rw [ba_app, ba_app, List.append_assoc]
  rfl
set_option maxRecDepth 100000 in
set_option maxHeartbeats 2000000 in
theorem text_neg2 (m : Int) (w : World) (h1 : 0 < m) (h2 : m < 604800) (hP : Pw w) (hz : 0 < m % 60) :
    Calls Tryd.prog 17 #[.int .i64 (-m)] w fun e w' => e = .returned (.tuple #[.string ⟨([45] ++ textP m).toArray⟩, .int .i64 0]) ∧ Below w.heap.size w w' := by
  have EX := Lib.hid (textP_more (m := m) (by omega))
  have HP := Lib.hid hP
  have HBw := Lib.hid (Below.refl w.heap.size w)
  clear hP
  have hh : 0 ≤ m / 3600 ∧ m / 3600 < 200 := by omega
  obtain ⟨hh0, hh1⟩ := hh
  have l1 : ((dec (m / 3600)).length : Int) ≤ 3 := by have := dec_len3 hh0 hh1; omega
  have l2 : ((twoT (m / 60 % 60)).length : Int) ≤ 7 := by have := two_len (u := m / 60 % 60) (by omega) (by omega); omega
  have l3 : ((twoT (m % 60)).length : Int) ≤ 7 := by have := two_len (u := m % 60) (by omega) (by omega); omega
  obtain ⟨H, hH⟩ : ∃ H, dec (m / 3600) = H := ⟨_, rfl⟩
  obtain ⟨T, hT⟩ : ∃ T, twoT (m / 60 % 60) = T := ⟨_, rfl⟩
  obtain ⟨U, hU⟩ : ∃ U, twoT (m % 60) = U := ⟨_, rfl⟩
  rw [hH] at l1
  rw [hT] at l2
  rw [hU] at l3
  have HH := Lib.hid hH
  have HTT := Lib.hid hT
  have HU := Lib.hid hU
  clear hH hT hU
  go_enter Tryd.func17, Tryd.ntmps17
  go_wp2_with fail
  refine (may_yes (-m) _ (by omega) (by omega)).mono ?_
  rintro e w9 ⟨rfl, rfl⟩
  go_wp2_with fail
  refine (itoa_any (m / 3600) _ (by omega) (by omega) (HP.out.below HBw.out)).mono ?_
  rintro e w1 ⟨rfl, hb⟩
  have HBw1 := Lib.hid (HBw.out.trans (hb.mono HBw.out.size))
  clear hb
  rw [HH.out]
  go_wp2_with fail
  refine (two_any (m / 60 % 60) _ (by omega) (by omega) (HP.out.below HBw1.out)).mono ?_
  rintro e w2 ⟨rfl, hb⟩
  have HBw2 := Lib.hid (HBw1.out.trans (hb.mono HBw1.out.size))
  rw [HTT.out]
  clear hb
  go_wp2_with fail
  refine (two_any (m % 60) _ (by omega) (by omega) (HP.out.below HBw2.out)).mono ?_
  rintro e w3 ⟨rfl, hb⟩
  have HBw3 := Lib.hid (HBw2.out.trans (hb.mono HBw2.out.size))
  rw [HU.out]
  clear hb
  go_wp2_with fail
  go_ret2
  refine ⟨?_, HBw3.out⟩
  rw [EX.out, HH.out, HTT.out, HU.out]
  show Ending.returned (.tuple #[.string (⟨([45] : List UInt8).toArray⟩ ++ ⟨H.toArray⟩ ++ ⟨T.toArray⟩ ++ ⟨U.toArray⟩), .int .i64 0]) = _
  rw [ba_app, ba_app, ba_app]
  simp
theorem text_ok (n : Int) (w : World) (h1 : -604800 < n) (h2 : n < 604800) (hP : Pw w) :
    Calls Tryd.prog 17 #[.int .i64 n] w fun e w' => e = .returned (.tuple #[.string ⟨(textOf n).toArray⟩, .int .i64 0]) ∧ Below w.heap.size w w' := by
  by_cases hn : n < 0
  · obtain ⟨m, rfl⟩ : ∃ m, n = -m := ⟨-n, by omega⟩
    rw [show textOf (-m) = [45] ++ textP m by unfold textOf; rw [if_pos hn, Int.neg_neg]]
    by_cases hz : m % 60 ≤ 0
    · exact text_neg1 m w (by omega) (by omega) hP hz
    · exact text_neg2 m w (by omega) (by omega) hP (by omega)
  · rw [show textOf n = textP n by unfold textOf; rw [if_neg hn]]
    by_cases hz : n % 60 ≤ 0
    · exact text_pos1 n w (by omega) (by omega) hP hz
    · exact text_pos2 n w (by omega) (by omega) hP (by omega)
theorem text_no (n : Int) (w : World) (h : n ≤ -604800 ∨ 604800 ≤ n) :
    Calls Tryd.prog 17 #[.int .i64 n] w fun e w' => e = .returned (.tuple #[.string ⟨#[]⟩, .int .i64 10]) ∧ Below w.heap.size w w' := by
  rcases h with h | h
  · go_enter Tryd.func17, Tryd.ntmps17
    go_wp2_with fail
    refine (may_lo n _ h).mono ?_
    rintro e w9 ⟨rfl, rfl⟩
    go_wp2_with fail
    go_ret2
    exact ⟨rfl, Below.refl _ _⟩
  · go_enter Tryd.func17, Tryd.ntmps17
    go_wp2_with fail
    refine (may_hi n _ h).mono ?_
    rintro e w9 ⟨rfl, rfl⟩
    go_wp2_with fail
    go_ret2
    exact ⟨rfl, Below.refl _ _⟩
end Go.Proofs.YtbejbagpdjfgmaaDoor
