/-
  THE WALK of the document's Text.
-/
import Derived.Test.YtbejbagpdjfgmaaDoorCkRise
import Derived.Test.YtbejbagpdjfgmaaDoorSpanLaw
namespace Go.Proofs.YtbejbagpdjfgmaaDoor
open Go Go.RowKit
/-- a digit -/
def dgt (n : Int) : UInt8 := UInt8.ofNat (48 + n.toNat)
theorem dgt_nat {n : Int} (h0 : 0 ≤ n) (h1 : n < 10) : ((dgt n).toNat : Int) = 48 + n := by
  have : (dgt n).toNat = 48 + n.toNat := by simp [dgt, UInt8.toNat_ofNat']; omega
  rw [this]; omega
theorem dec_one {n : Int} (h0 : 0 ≤ n) (h1 : n < 10) : dec n = [dgt n] := by
  unfold dec dgt
  rw [Lib.decDigits_one (by omega)]
theorem dec_more {n : Int} (h0 : 10 ≤ n) : dec n = dec (n / 10) ++ [dgt (n % 10)] := by
  unfold dec dgt
  rw [Lib.decDigits, dif_neg (by omega), show n.toNat / 10 = (n / 10).toNat by omega, show n.toNat % 10 = (n % 10).toNat by omega]
theorem nm_two {u : Int} (h0 : 0 ≤ u) (h1 : u < 100) : nm u = [dgt (u / 10), dgt (u % 10)] := by
  unfold nm
  rw [dec_one (by omega) (by omega), dec_one (by omega) (by omega)]
  rfl
theorem cv_two (a b : Int) (w : World) (a0 : 0 ≤ a) (a1 : a < 10) (b0 : 0 ≤ b) (b1 : b < 10) :
    (convert 66 9 (.slice (some ⟨w.heap.size, 0, none⟩) 2 2)).run Tryd.prog (w.alloc (.cells #[.int .u8 (48 + a), .int .u8 (48 + b)] 5)) = .ok (.string ⟨[dgt a, dgt b].toArray⟩) (w.alloc (.cells #[.int .u8 (48 + a), .int .u8 (48 + b)] 5)) :=
  run_convert_bytes_back (w.alloc (.cells #[.int .u8 (48 + a), .int .u8 (48 + b)] 5)) 66 9 5 ⟨w.heap.size, 0, none⟩ 2 [dgt a, dgt b] Tryd.underlying66 Tryd.underlying5 Tryd.underlying9 (fun j hj => by
    have e0 := dgt_nat a0 a1
    have e1 := dgt_nat b0 b1
    match j, hj with
    | 0, _ =>
      simp only [List.getElem_cons_zero, e0]
      exact World.cell?_alloc_mark w _ _ _ 0
    | 1, _ =>
      simp only [List.getElem_cons_succ, List.getElem_cons_zero, e1]
      exact World.cell?_alloc_mark w _ _ _ 1)
theorem cv_dgt (a : Int) (w : World) (h0 : 0 ≤ a) (h1 : a < 10) :
    (convert 66 9 (.slice (some ⟨w.heap.size, 0, none⟩) 1 1)).run Tryd.prog (w.alloc (.cells #[.int .u8 (48 + a)] 5)) = .ok (.string ⟨[dgt a].toArray⟩) (w.alloc (.cells #[.int .u8 (48 + a)] 5)) :=
  run_convert_bytes_back (w.alloc (.cells #[.int .u8 (48 + a)] 5)) 66 9 5 ⟨w.heap.size, 0, none⟩ 1 [dgt a] Tryd.underlying66 Tryd.underlying5 Tryd.underlying9 (fun j hj => by
    obtain rfl : j = 0 := by simpa using hj
    have e0 := dgt_nat h0 h1
    simp only [List.getElem_cons_zero, e0]
    exact World.cell?_alloc_mark w _ _ _ 0)
set_option maxHeartbeats 1000000 in
theorem rtwo_any (n : Int) (w : World) (h0 : 0 ≤ n) (h1 : n < 100) :
    Calls Tryd.prog 36 #[.int .i64 n] w fun e w' => e = .returned (.string ⟨(nm n).toArray⟩) ∧ Below w.heap.size w w' := by
  have a0 : 0 ≤ n / 10 := by omega
  have a1 : n / 10 < 10 := by omega
  have b0 : 0 ≤ n % 10 := by omega
  have b1 : n % 10 < 10 := by omega
  have E := Lib.hid (nm_two h0 h1)
  have RC := cv_two (n / 10) (n % 10) w a0 a1 b0 b1
  go_enter Tryd.func36, Tryd.ntmps36
  go_wp2_with fail
  go_ret
  exact ⟨by first | (rw [E.out]; done) | (rw [E.out]; rfl), (Below.refl _ _).alloc (Nat.le_refl _) _⟩
/-- hours as they are written, last digit first -/
def hd (a : Int) (l : List UInt8) : List UInt8 := if a = 0 ∧ l ≠ [] then l else dec a ++ l
theorem hd_step {a : Int} {l : List UInt8} (h0 : 0 ≤ a) (h : 0 < a ∨ l = []) : hd (a / 10) ([dgt (a % 10)] ++ l) = hd a l := by
  unfold hd
  rw [if_neg (show ¬ (a = 0 ∧ l ≠ []) by rintro ⟨q, r⟩; rcases h with h | h; omega; exact r h)]
  by_cases ht : a < 10
  · rw [if_pos ⟨by omega, by simp⟩, dec_one h0 ht, show a % 10 = a by omega]
  · rw [if_neg (by rintro ⟨q, _⟩; omega), dec_more (n := a) (by omega)]
    simp
def strSz : Value → Nat | .string b => b.size | _ => 0
theorem strSz_l (l : List UInt8) : strSz (.string ⟨l.toArray⟩) = l.length := rfl
theorem rt_assoc1 (S H T : List UInt8) : ((⟨S.toArray⟩ : ByteArray) ++ ⟨H.toArray⟩ ++ ⟨#[58]⟩ ++ ⟨T.toArray⟩) = ⟨(S ++ (H ++ 58 :: T)).toArray⟩ := by
  rw [show (⟨#[58]⟩ : ByteArray) = ⟨([58] : List UInt8).toArray⟩ from rfl, ba_app, ba_app, ba_app]
  simp
theorem rt_assoc2 (S H T U : List UInt8) : ((⟨S.toArray⟩ : ByteArray) ++ ⟨H.toArray⟩ ++ ⟨#[58]⟩ ++ ⟨T.toArray⟩ ++ ⟨#[58]⟩ ++ ⟨U.toArray⟩) = ⟨(S ++ (H ++ 58 :: T ++ 58 :: U)).toArray⟩ := by
  rw [rt_assoc1, show (⟨#[58]⟩ : ByteArray) = ⟨([58] : List UInt8).toArray⟩ from rfl, ba_app, ba_app]
  simp
set_option maxRecDepth 100000 in
set_option maxHeartbeats 2000000 in
theorem rtext_pos1 (m : Int) (w : World) (h1 : 0 ≤ m) (h2 : m < 604800) (hz : m % 60 = 0) :
    Calls Tryd.prog 21 #[.int .i64 (m)] w fun e w' => e = .returned (.string ⟨([] ++ textP m).toArray⟩) ∧ Below w.heap.size w w' := by
  have EX := Lib.hid (textP_plain (m := m) (by omega))
  have hz2 : (m % 60 != 0) = false := by rw [hz]; rfl
  clear hz
  have HBw := Lib.hid (Below.refl w.heap.size w)
  have hh0 : 0 ≤ m / 3600 := by omega
  have hh1 : m / 3600 < 168 := by omega
  have HDL := Lib.hid (dec_len3 hh0 (by omega))
  have l2 : ((nm (m / 60 % 60)).length : Int) ≤ 6 := by rw [nm_two (by omega) (by omega)]; simp
  have l3 : ((nm (m % 60)).length : Int) ≤ 6 := by rw [nm_two (by omega) (by omega)]; simp
  obtain ⟨T, hT⟩ : ∃ T, nm (m / 60 % 60) = T := ⟨_, rfl⟩
  obtain ⟨U, hU⟩ : ∃ U, nm (m % 60) = U := ⟨_, rfl⟩
  rw [hT] at l2
  rw [hU] at l3
  have HTT := Lib.hid hT
  have HU := Lib.hid hU
  clear hT hU
  go_enter Tryd.func21, Tryd.ntmps21
  go_wp2_with fail
  go_loopw [4, 5] (fun nv sv wr => ∃ (a : Int) (l : List UInt8), nv = .int .i64 a ∧ sv = .string ⟨l.toArray⟩ ∧ 0 ≤ a ∧ a < 168 ∧ hd a l = dec (m / 3600) ∧ Below w.heap.size w wr) (fun nv sv _ => (intOf nv).toNat + (1 - strSz sv))
  case atStart => exact ⟨m / 3600, [], rfl, rfl, by omega, by omega, by simp [hd], HBw.out⟩
  case round =>
    obtain ⟨a, l, rfl, rfl, a0, a1, hI, hB⟩ := hrel
    have HI := Lib.hid hI
    have HBr := Lib.hid hB
    have lk : (l.length : Int) ≤ 3 := by
      have h3 := HDL.out
      rw [← hI] at h3
      unfold hd at h3
      split at h3
      · omega
      · rw [List.length_append] at h3; omega
    have d1 : 0 ≤ a % 10 := by omega
    have d2 : a % 10 < 10 := by omega
    clear hI hB
    by_cases hn : 0 < a
    ·
      have RC := cv_dgt (a % 10) wr d1 d2
      have HS := Lib.hid (hd_step (a := a) (l := l) a0 (.inl hn))
      go_wp2_with fail
      go_roundw
      case rel => exact ⟨a / 10, [dgt (a % 10)] ++ l, rfl, by simp [ba_app], by omega, by omega, by rw [HS.out]; exact HI.out, HBr.out.alloc HBr.out.size _⟩
      case measure =>
        simp only [intOf, strSz, ByteArray.size, List.size_toArray, ba_app, List.length_append, List.length_cons, List.length_nil]
        omega
    · by_cases hl : l = []
      · subst hl
        have RC := cv_dgt (a % 10) wr d1 d2
        have HS := Lib.hid (hd_step (a := a) (l := []) a0 (.inr rfl))
        go_wp2_with fail
        go_roundw
        case rel => exact ⟨a / 10, [dgt (a % 10)] ++ [], rfl, by simp [ba_app], by omega, by omega, by rw [HS.out]; exact HI.out, HBr.out.alloc HBr.out.size _⟩
        case measure =>
          simp only [intOf, strSz, ByteArray.size, List.size_toArray, ba_app, List.length_append, List.length_cons, List.length_nil]
          omega
      · obtain rfl : a = 0 := by omega
        have HL := Lib.hid (show l = dec (m / 3600) by rw [← HI.out]; unfold hd; rw [if_pos ⟨rfl, hl⟩])
        have e1 : (l == []) = false := beq_eq_false_iff_ne.2 hl
        have e2 : l.isEmpty = false := by cases l with | nil => exact absurd rfl hl | cons _ _ => rfl
        clear hl hn d1 d2
        go_wp2_with fail
        refine (rtwo_any (m / 60 % 60) _ (by omega) (by omega)).mono ?_
        rintro e w1 ⟨rfl, hb⟩
        have HBw1 := Lib.hid (HBr.out.trans (hb.mono HBr.out.size))
        clear hb
        rw [HTT.out]
        go_wp2_with fail
        go_ret
        refine ⟨?_, HBw1.out⟩
        rw [EX.out, twoT_nm, HTT.out, ← HL.out]
        exact congrArg (fun b => Ending.returned (.string b)) (rt_assoc1 [] l T)
set_option maxRecDepth 100000 in
set_option maxHeartbeats 2000000 in
theorem rtext_pos2 (m : Int) (w : World) (h1 : 0 ≤ m) (h2 : m < 604800) (hz : 0 < m % 60) :
    Calls Tryd.prog 21 #[.int .i64 (m)] w fun e w' => e = .returned (.string ⟨([] ++ textP m).toArray⟩) ∧ Below w.heap.size w w' := by
  have EX := Lib.hid (textP_more (m := m) (by omega))
  have hz2 : (m % 60 != 0) = true := by rw [bne, beq_eq_false_iff_ne.2 (by omega)]; rfl
  have HBw := Lib.hid (Below.refl w.heap.size w)
  have hh0 : 0 ≤ m / 3600 := by omega
  have hh1 : m / 3600 < 168 := by omega
  have HDL := Lib.hid (dec_len3 hh0 (by omega))
  have l2 : ((nm (m / 60 % 60)).length : Int) ≤ 6 := by rw [nm_two (by omega) (by omega)]; simp
  have l3 : ((nm (m % 60)).length : Int) ≤ 6 := by rw [nm_two (by omega) (by omega)]; simp
  obtain ⟨T, hT⟩ : ∃ T, nm (m / 60 % 60) = T := ⟨_, rfl⟩
  obtain ⟨U, hU⟩ : ∃ U, nm (m % 60) = U := ⟨_, rfl⟩
  rw [hT] at l2
  rw [hU] at l3
  have HTT := Lib.hid hT
  have HU := Lib.hid hU
  clear hT hU
  go_enter Tryd.func21, Tryd.ntmps21
  go_wp2_with fail
  go_loopw [4, 5] (fun nv sv wr => ∃ (a : Int) (l : List UInt8), nv = .int .i64 a ∧ sv = .string ⟨l.toArray⟩ ∧ 0 ≤ a ∧ a < 168 ∧ hd a l = dec (m / 3600) ∧ Below w.heap.size w wr) (fun nv sv _ => (intOf nv).toNat + (1 - strSz sv))
  case atStart => exact ⟨m / 3600, [], rfl, rfl, by omega, by omega, by simp [hd], HBw.out⟩
  case round =>
    obtain ⟨a, l, rfl, rfl, a0, a1, hI, hB⟩ := hrel
    have HI := Lib.hid hI
    have HBr := Lib.hid hB
    have lk : (l.length : Int) ≤ 3 := by
      have h3 := HDL.out
      rw [← hI] at h3
      unfold hd at h3
      split at h3
      · omega
      · rw [List.length_append] at h3; omega
    have d1 : 0 ≤ a % 10 := by omega
    have d2 : a % 10 < 10 := by omega
    clear hI hB
    by_cases hn : 0 < a
    ·
      have RC := cv_dgt (a % 10) wr d1 d2
      have HS := Lib.hid (hd_step (a := a) (l := l) a0 (.inl hn))
      go_wp2_with fail
      go_roundw
      case rel => exact ⟨a / 10, [dgt (a % 10)] ++ l, rfl, by simp [ba_app], by omega, by omega, by rw [HS.out]; exact HI.out, HBr.out.alloc HBr.out.size _⟩
      case measure =>
        simp only [intOf, strSz, ByteArray.size, List.size_toArray, ba_app, List.length_append, List.length_cons, List.length_nil]
        omega
    · by_cases hl : l = []
      · subst hl
        have RC := cv_dgt (a % 10) wr d1 d2
        have HS := Lib.hid (hd_step (a := a) (l := []) a0 (.inr rfl))
        go_wp2_with fail
        go_roundw
        case rel => exact ⟨a / 10, [dgt (a % 10)] ++ [], rfl, by simp [ba_app], by omega, by omega, by rw [HS.out]; exact HI.out, HBr.out.alloc HBr.out.size _⟩
        case measure =>
          simp only [intOf, strSz, ByteArray.size, List.size_toArray, ba_app, List.length_append, List.length_cons, List.length_nil]
          omega
      · obtain rfl : a = 0 := by omega
        have HL := Lib.hid (show l = dec (m / 3600) by rw [← HI.out]; unfold hd; rw [if_pos ⟨rfl, hl⟩])
        have e1 : (l == []) = false := beq_eq_false_iff_ne.2 hl
        have e2 : l.isEmpty = false := by cases l with | nil => exact absurd rfl hl | cons _ _ => rfl
        clear hl hn d1 d2
        go_wp2_with fail
        refine (rtwo_any (m / 60 % 60) _ (by omega) (by omega)).mono ?_
        rintro e w1 ⟨rfl, hb⟩
        have HBw1 := Lib.hid (HBr.out.trans (hb.mono HBr.out.size))
        clear hb
        rw [HTT.out]
        go_wp2_with fail
        refine (rtwo_any (m % 60) _ (by omega) (by omega)).mono ?_
        rintro e w2 ⟨rfl, hb⟩
        have HBw2 := Lib.hid (HBw1.out.trans (hb.mono HBw1.out.size))
        clear hb
        rw [HU.out]
        go_wp2_with fail
        go_ret
        refine ⟨?_, HBw2.out⟩
        rw [EX.out, twoT_nm, HTT.out, twoT_nm, HU.out, ← HL.out]
        exact congrArg (fun b => Ending.returned (.string b)) (rt_assoc2 [] l T U)
set_option maxRecDepth 100000 in
set_option maxHeartbeats 2000000 in
theorem rtext_neg1 (m : Int) (w : World) (h1 : 0 < m) (h2 : m < 604800) (hz : m % 60 = 0) :
    Calls Tryd.prog 21 #[.int .i64 (-m)] w fun e w' => e = .returned (.string ⟨([45] ++ textP m).toArray⟩) ∧ Below w.heap.size w w' := by
  have EX := Lib.hid (textP_plain (m := m) (by omega))
  have hz2 : (m % 60 != 0) = false := by rw [hz]; rfl
  clear hz
  have HBw := Lib.hid (Below.refl w.heap.size w)
  have hh0 : 0 ≤ m / 3600 := by omega
  have hh1 : m / 3600 < 168 := by omega
  have HDL := Lib.hid (dec_len3 hh0 (by omega))
  have l2 : ((nm (m / 60 % 60)).length : Int) ≤ 6 := by rw [nm_two (by omega) (by omega)]; simp
  have l3 : ((nm (m % 60)).length : Int) ≤ 6 := by rw [nm_two (by omega) (by omega)]; simp
  obtain ⟨T, hT⟩ : ∃ T, nm (m / 60 % 60) = T := ⟨_, rfl⟩
  obtain ⟨U, hU⟩ : ∃ U, nm (m % 60) = U := ⟨_, rfl⟩
  rw [hT] at l2
  rw [hU] at l3
  have HTT := Lib.hid hT
  have HU := Lib.hid hU
  clear hT hU
  go_enter Tryd.func21, Tryd.ntmps21
  go_wp2_with fail
  go_loopw [4, 5] (fun nv sv wr => ∃ (a : Int) (l : List UInt8), nv = .int .i64 a ∧ sv = .string ⟨l.toArray⟩ ∧ 0 ≤ a ∧ a < 168 ∧ hd a l = dec (m / 3600) ∧ Below w.heap.size w wr) (fun nv sv _ => (intOf nv).toNat + (1 - strSz sv))
  case atStart => exact ⟨m / 3600, [], rfl, rfl, by omega, by omega, by simp [hd], HBw.out⟩
  case round =>
    obtain ⟨a, l, rfl, rfl, a0, a1, hI, hB⟩ := hrel
    have HI := Lib.hid hI
    have HBr := Lib.hid hB
    have lk : (l.length : Int) ≤ 3 := by
      have h3 := HDL.out
      rw [← hI] at h3
      unfold hd at h3
      split at h3
      · omega
      · rw [List.length_append] at h3; omega
    have d1 : 0 ≤ a % 10 := by omega
    have d2 : a % 10 < 10 := by omega
    clear hI hB
    by_cases hn : 0 < a
    ·
      have RC := cv_dgt (a % 10) wr d1 d2
      have HS := Lib.hid (hd_step (a := a) (l := l) a0 (.inl hn))
      go_wp2_with fail
      go_roundw
      case rel => exact ⟨a / 10, [dgt (a % 10)] ++ l, rfl, by simp [ba_app], by omega, by omega, by rw [HS.out]; exact HI.out, HBr.out.alloc HBr.out.size _⟩
      case measure =>
        simp only [intOf, strSz, ByteArray.size, List.size_toArray, ba_app, List.length_append, List.length_cons, List.length_nil]
        omega
    · by_cases hl : l = []
      · subst hl
        have RC := cv_dgt (a % 10) wr d1 d2
        have HS := Lib.hid (hd_step (a := a) (l := []) a0 (.inr rfl))
        go_wp2_with fail
        go_roundw
        case rel => exact ⟨a / 10, [dgt (a % 10)] ++ [], rfl, by simp [ba_app], by omega, by omega, by rw [HS.out]; exact HI.out, HBr.out.alloc HBr.out.size _⟩
        case measure =>
          simp only [intOf, strSz, ByteArray.size, List.size_toArray, ba_app, List.length_append, List.length_cons, List.length_nil]
          omega
      · obtain rfl : a = 0 := by omega
        have HL := Lib.hid (show l = dec (m / 3600) by rw [← HI.out]; unfold hd; rw [if_pos ⟨rfl, hl⟩])
        have e1 : (l == []) = false := beq_eq_false_iff_ne.2 hl
        have e2 : l.isEmpty = false := by cases l with | nil => exact absurd rfl hl | cons _ _ => rfl
        clear hl hn d1 d2
        go_wp2_with fail
        refine (rtwo_any (m / 60 % 60) _ (by omega) (by omega)).mono ?_
        rintro e w1 ⟨rfl, hb⟩
        have HBw1 := Lib.hid (HBr.out.trans (hb.mono HBr.out.size))
        clear hb
        rw [HTT.out]
        go_wp2_with fail
        go_ret
        refine ⟨?_, HBw1.out⟩
        rw [EX.out, twoT_nm, HTT.out, ← HL.out]
        exact congrArg (fun b => Ending.returned (.string b)) (rt_assoc1 [45] l T)
set_option maxRecDepth 100000 in
set_option maxHeartbeats 2000000 in
theorem rtext_neg2 (m : Int) (w : World) (h1 : 0 < m) (h2 : m < 604800) (hz : 0 < m % 60) :
    Calls Tryd.prog 21 #[.int .i64 (-m)] w fun e w' => e = .returned (.string ⟨([45] ++ textP m).toArray⟩) ∧ Below w.heap.size w w' := by
  have EX := Lib.hid (textP_more (m := m) (by omega))
  have hz2 : (m % 60 != 0) = true := by rw [bne, beq_eq_false_iff_ne.2 (by omega)]; rfl
  have HBw := Lib.hid (Below.refl w.heap.size w)
  have hh0 : 0 ≤ m / 3600 := by omega
  have hh1 : m / 3600 < 168 := by omega
  have HDL := Lib.hid (dec_len3 hh0 (by omega))
  have l2 : ((nm (m / 60 % 60)).length : Int) ≤ 6 := by rw [nm_two (by omega) (by omega)]; simp
  have l3 : ((nm (m % 60)).length : Int) ≤ 6 := by rw [nm_two (by omega) (by omega)]; simp
  obtain ⟨T, hT⟩ : ∃ T, nm (m / 60 % 60) = T := ⟨_, rfl⟩
  obtain ⟨U, hU⟩ : ∃ U, nm (m % 60) = U := ⟨_, rfl⟩
  rw [hT] at l2
  rw [hU] at l3
  have HTT := Lib.hid hT
  have HU := Lib.hid hU
  clear hT hU
  go_enter Tryd.func21, Tryd.ntmps21
  go_wp2_with fail
  go_loopw [4, 5] (fun nv sv wr => ∃ (a : Int) (l : List UInt8), nv = .int .i64 a ∧ sv = .string ⟨l.toArray⟩ ∧ 0 ≤ a ∧ a < 168 ∧ hd a l = dec (m / 3600) ∧ Below w.heap.size w wr) (fun nv sv _ => (intOf nv).toNat + (1 - strSz sv))
  case atStart => exact ⟨m / 3600, [], rfl, rfl, by omega, by omega, by simp [hd], HBw.out⟩
  case round =>
    obtain ⟨a, l, rfl, rfl, a0, a1, hI, hB⟩ := hrel
    have HI := Lib.hid hI
    have HBr := Lib.hid hB
    have lk : (l.length : Int) ≤ 3 := by
      have h3 := HDL.out
      rw [← hI] at h3
      unfold hd at h3
      split at h3
      · omega
      · rw [List.length_append] at h3; omega
    have d1 : 0 ≤ a % 10 := by omega
    have d2 : a % 10 < 10 := by omega
    clear hI hB
    by_cases hn : 0 < a
    ·
      have RC := cv_dgt (a % 10) wr d1 d2
      have HS := Lib.hid (hd_step (a := a) (l := l) a0 (.inl hn))
      go_wp2_with fail
      go_roundw
      case rel => exact ⟨a / 10, [dgt (a % 10)] ++ l, rfl, by simp [ba_app], by omega, by omega, by rw [HS.out]; exact HI.out, HBr.out.alloc HBr.out.size _⟩
      case measure =>
        simp only [intOf, strSz, ByteArray.size, List.size_toArray, ba_app, List.length_append, List.length_cons, List.length_nil]
        omega
    · by_cases hl : l = []
      · subst hl
        have RC := cv_dgt (a % 10) wr d1 d2
        have HS := Lib.hid (hd_step (a := a) (l := []) a0 (.inr rfl))
        go_wp2_with fail
        go_roundw
        case rel => exact ⟨a / 10, [dgt (a % 10)] ++ [], rfl, by simp [ba_app], by omega, by omega, by rw [HS.out]; exact HI.out, HBr.out.alloc HBr.out.size _⟩
        case measure =>
          simp only [intOf, strSz, ByteArray.size, List.size_toArray, ba_app, List.length_append, List.length_cons, List.length_nil]
          omega
      · obtain rfl : a = 0 := by omega
        have HL := Lib.hid (show l = dec (m / 3600) by rw [← HI.out]; unfold hd; rw [if_pos ⟨rfl, hl⟩])
        have e1 : (l == []) = false := beq_eq_false_iff_ne.2 hl
        have e2 : l.isEmpty = false := by cases l with | nil => exact absurd rfl hl | cons _ _ => rfl
        clear hl hn d1 d2
        go_wp2_with fail
        refine (rtwo_any (m / 60 % 60) _ (by omega) (by omega)).mono ?_
        rintro e w1 ⟨rfl, hb⟩
        have HBw1 := Lib.hid (HBr.out.trans (hb.mono HBr.out.size))
        clear hb
        rw [HTT.out]
        go_wp2_with fail
        refine (rtwo_any (m % 60) _ (by omega) (by omega)).mono ?_
        rintro e w2 ⟨rfl, hb⟩
        have HBw2 := Lib.hid (HBw1.out.trans (hb.mono HBw1.out.size))
        clear hb
        rw [HU.out]
        go_wp2_with fail
        go_ret
        refine ⟨?_, HBw2.out⟩
        rw [EX.out, twoT_nm, HTT.out, twoT_nm, HU.out, ← HL.out]
        exact congrArg (fun b => Ending.returned (.string b)) (rt_assoc2 [45] l T U)
theorem rtext_ok (n : Int) (w : World) (h1 : -604800 < n) (h2 : n < 604800) :
    Calls Tryd.prog 21 #[.int .i64 n] w fun e w' => e = .returned (.string ⟨(textOf n).toArray⟩) ∧ Below w.heap.size w w' := by
  by_cases hn : n < 0
  · obtain ⟨m, rfl⟩ : ∃ m, n = -m := ⟨-n, by omega⟩
    rw [show textOf (-m) = [45] ++ textP m by unfold textOf; rw [if_pos hn, Int.neg_neg]]
    by_cases hz : m % 60 = 0
    · exact rtext_neg1 m w (by omega) (by omega) hz
    · exact rtext_neg2 m w (by omega) (by omega) (by omega)
  · rw [show textOf n = [] ++ textP n by unfold textOf; rw [if_neg hn]; rfl]
    by_cases hz : n % 60 = 0
    · exact rtext_pos1 n w (by omega) (by omega) hz
    · exact rtext_pos2 n w (by omega) (by omega) (by omega)
end Go.Proofs.YtbejbagpdjfgmaaDoor
