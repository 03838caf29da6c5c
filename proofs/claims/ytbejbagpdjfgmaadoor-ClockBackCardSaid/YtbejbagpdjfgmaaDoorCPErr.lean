/-
  THE WALK of clock.Parse at a text that is no time, and at the empty one.
-/
import Derived.Test.YtbejbagpdjfgmaaDoorCParse
namespace Go.Proofs.YtbejbagpdjfgmaaDoor
open Go Go.RowKit
set_option maxRecDepth 100000 in
set_option maxHeartbeats 4000000 in
theorem cparse_err (l : List UInt8) (c : UInt8) (a n ec : Int) (r : List UInt8) (w : World) (hl : l.length ≤ 999) (hT : Txt w) (hL : Ltr w) (hr : stL (hasB [119] c) (hasB [115] c) (hasB [117, 103, 122] c) l c 3 = (a, r)) (hs : spV r = .tuple #[.int .i64 n, .int .i64 ec]) (hec : (ec != 0) = true) :
    Calls Tryd.prog 20 #[.string ⟨(l ++ [c]).toArray⟩] w fun e w' => e = .returned (.tuple #[.agg #[.int .i64 0, .int .i64 0], .int .i64 ec]) ∧ Below w.heap.size w w' := by
  have HT := Lib.hid hT
  have HL := Lib.hid hL
  have HS := Lib.hid hs
  have HR := Lib.hid hr
  have hrl : r.length ≤ 1000 := by
    unfold stL at hr
    rw [if_neg (by decide), if_neg (by decide), if_neg (by decide)] at hr
    split at hr
    · cases hr; omega
    · split at hr
      · cases hr; omega
      · split at hr
        · cases hr; omega
        · cases hr; simp; omega
  have HRl := Lib.hid hrl
  obtain ⟨b0, hb0⟩ : ∃ b, hasB [119] c = b := ⟨_, rfl⟩
  obtain ⟨b1, hb1⟩ : ∃ b, hasB [115] c = b := ⟨_, rfl⟩
  obtain ⟨b2, hb2⟩ : ∃ b, hasB [117, 103, 122] c = b := ⟨_, rfl⟩
  have EB0 := Lib.hid hb0
  have EB1 := Lib.hid hb1
  have EB2 := Lib.hid hb2
  have XL := Lib.hid (ext_last l c)
  have XI := Lib.hid (ext_init l c)
  have hln : (l ++ [c]).length ≤ 1000 := by simp; omega
  have hl1 : 1 ≤ (l ++ [c]).length := by simp
  have hne : ((l ++ [c]) == []) = false := beq_eq_false_iff_ne.2 (by simp)
  have hne2 : (l ++ [c]).isEmpty = false := by cases l <;> rfl
  clear hT hL hs hrl hr hb0 hb1 hb2
  generalize hLC : l ++ [c] = LC at *
  have HLC := Lib.hid hLC
  clear hLC hl
  have hln2 : (LC.length : Int) ≤ 1000 := by omega
  have hl12 : 1 ≤ (LC.length : Int) := by omega
  go_enter Tryd.func20, Tryd.ntmps20
  go_upto_region 2 with fail
  generalize hW0 : w.alloc (.cells #[.int .i64 0, .int .i64 0] 39) = W0
  have b0' : Below w.heap.size w W0 := by rw [← hW0]; exact (Below.refl _ _).alloc (Nat.le_refl _) _
  have k0 : W0.heap[w.heap.size]? = some (boxC 0 0) := by rw [← hW0]; exact heap_alloc_new w _
  have s0 : W0.heap.size = w.heap.size + 1 := by rw [← hW0]; simp
  obtain ⟨c0, c1, c2⟩ := HL.out.below b0'
  have HB0 := Lib.hid b0'
  have HK0 := Lib.hid k0
  clear hW0 b0' k0
  go_wp2_with fail
  clear c0 c1 c2
  go_loopw [12, 4, 5] (fun iv kv rv wr => ∃ (k a' : Int) (r' : List UInt8), (0 ≤ k ∧ k ≤ 3) ∧ iv = .int .i64 k ∧ kv = .int .i64 a' ∧ rv = .string ⟨r'.toArray⟩ ∧ (a', r') = stL b0 b1 b2 l c k ∧ Below W0.heap.size W0 wr) (fun iv _ _ _ => 3 - (intOf iv).toNat)
  case atStart => exact ⟨0, 0, LC, by omega, rfl, rfl, rfl, by rw [← HLC.out]; rfl, Below.refl _ _⟩
  case round =>
    obtain ⟨k, a', r', hk, rfl, rfl, rfl, hst, hB⟩ := hrel
    have HB := Lib.hid hB
    have HSt := Lib.hid hst
    clear hB hst
    have hk4 : k = 0 ∨ k = 1 ∨ k = 2 ∨ k = 3 := by omega
    rcases hk4 with rfl | rfl | rfl | rfl
    ·
      have IX := lt_ix0 wr
      go_wp2_with fail
      clear IX
      rw [XL.out]
      refine (has_any [119] c _).mono ?_
      rintro e w9 ⟨rfl, rfl⟩
      rw [EB0.out]
      cases b0 with
      | true =>
        go_wp2_with fail
        go_region
        go_wp2_with fail
        rw [XI.out]
        go_roundw
        case rel => exact ⟨1, _, _, by omega, rfl, rfl, rfl, rfl, HB.out.drew⟩
        case measure => simp [intOf]
      | false =>
        go_wp2_with fail
        go_roundw
        case rel => exact ⟨1, _, _, by omega, rfl, rfl, rfl, HSt.out, HB.out⟩
        case measure => simp [intOf]
    ·
      have IX := lt_ix1 wr
      go_wp2_with fail
      clear IX
      rw [XL.out]
      refine (has_any [115] c _).mono ?_
      rintro e w9 ⟨rfl, rfl⟩
      rw [EB1.out]
      cases b1 with
      | true =>
        go_wp2_with fail
        go_region
        go_wp2_with fail
        rw [XI.out]
        go_roundw
        case rel => exact ⟨2, _, _, by omega, rfl, rfl, rfl, rfl, HB.out.drew⟩
        case measure => simp [intOf]
      | false =>
        go_wp2_with fail
        go_roundw
        case rel => exact ⟨2, _, _, by omega, rfl, rfl, rfl, HSt.out, HB.out⟩
        case measure => simp [intOf]
    ·
      have IX := lt_ix2 wr
      go_wp2_with fail
      clear IX
      rw [XL.out]
      refine (has_any [117, 103, 122] c _).mono ?_
      rintro e w9 ⟨rfl, rfl⟩
      rw [EB2.out]
      cases b2 with
      | true =>
        go_wp2_with fail
        go_region
        go_wp2_with fail
        rw [XI.out]
        go_roundw
        case rel => exact ⟨3, _, _, by omega, rfl, rfl, rfl, rfl, HB.out.drew⟩
        case measure => simp [intOf]
      | false =>
        go_wp2_with fail
        go_roundw
        case rel => exact ⟨3, _, _, by omega, rfl, rfl, rfl, HSt.out, HB.out⟩
        case measure => simp [intOf]
    · have hst := HSt.out
      have hr := HR.out
      rw [EB0.out, EB1.out, EB2.out] at hr
      rw [hr] at hst
      obtain ⟨rfl, rfl⟩ : a' = a ∧ r' = r := by simpa using hst
      clear hst hr HSt HR
      go_wp2_with fail
      refine (span_any r' _ HRl.out (HT.out.below (HB0.out.trans (HB.out.mono (by omega))))).mono ?_
      rintro e W2 ⟨rfl, hb2⟩
      rw [HS.out]
      have sB := HB.out.size
      have kc := (hb2.block w.heap.size (by omega)).trans ((HB.out.block w.heap.size (by omega)).trans HK0.out)
      have z0 : W2.cell? ⟨w.heap.size, 0, none⟩ = some (.int .i64 0) := cell_of_row W2 _ 0 _ _ _ kc
      have z1 : W2.cell? ⟨w.heap.size, 1, none⟩ = some (.int .i64 0) := cell_of_row W2 _ 1 _ _ _ kc
      have fz0 := frozen_of_row W2 w.heap.size 0 _ _ kc
      have fz1 := frozen_of_row W2 w.heap.size 1 _ _ kc
      have HB2 := Lib.hid ((HB0.out.trans (HB.out.mono (by omega))).trans (hb2.mono (by omega)))
      have HKc := Lib.hid kc
      clear hb2 kc
      go_wp2_with fail
      refine ret_row_tmp (B := w.heap.size) _ rfl rfl rfl (heap_setCell_same _ _ 1 _ _ _ (heap_setCell_same W2 w.heap.size 0 _ _ _ HKc.out)) Tryd.underlying39 rfl szC ⟨rfl, (HB2.out.setCell (by simp only; omega) _).setCell (by simp only; omega) _⟩
set_option maxRecDepth 100000 in
theorem spV_nil : spV [] = .tuple #[.int .i64 0, .int .i64 12] := by
  unfold spV
  rw [if_neg (by decide), if_neg (by decide +kernel)]
theorem span_nil (w : World) (hT : Txt w) : Calls Tryd.prog 18 #[.string ⟨#[]⟩] w fun e w' => e = .returned (.tuple #[.int .i64 0, .int .i64 12]) ∧ Below w.heap.size w w' := by
  have := span_any [] w (by decide) hT
  rwa [spV_nil] at this
set_option maxRecDepth 100000 in
set_option maxHeartbeats 2000000 in
theorem cparse_nil (w : World) (hT : Txt w) (hL : Ltr w) :
    Calls Tryd.prog 20 #[.string ⟨#[]⟩] w fun e w' => e = .returned (.tuple #[.agg #[.int .i64 0, .int .i64 0], .int .i64 12]) ∧ Below w.heap.size w w' := by
  have HT := Lib.hid hT
  have HL := Lib.hid hL
  clear hT hL
  go_enter Tryd.func20, Tryd.ntmps20
  go_upto_region 2 with fail
  generalize hW0 : w.alloc (.cells #[.int .i64 0, .int .i64 0] 39) = W0
  have b0' : Below w.heap.size w W0 := by rw [← hW0]; exact (Below.refl _ _).alloc (Nat.le_refl _) _
  have k0 : W0.heap[w.heap.size]? = some (boxC 0 0) := by rw [← hW0]; exact heap_alloc_new w _
  have s0 : W0.heap.size = w.heap.size + 1 := by rw [← hW0]; simp
  obtain ⟨c0, c1, c2⟩ := HL.out.below b0'
  have HB0 := Lib.hid b0'
  have HK0 := Lib.hid k0
  clear hW0 b0' k0
  go_wp2_with fail
  clear c0 c1 c2
  go_loopw [12, 4, 5] (fun iv kv rv wr => ∃ (k : Int), (0 ≤ k ∧ k ≤ 3) ∧ iv = .int .i64 k ∧ kv = .int .i64 0 ∧ rv = .string ⟨#[]⟩ ∧ Below W0.heap.size W0 wr) (fun iv _ _ _ => 3 - (intOf iv).toNat)
  case atStart => exact ⟨0, by omega, rfl, rfl, rfl, Below.refl _ _⟩
  case round =>
    obtain ⟨k, hk, rfl, rfl, rfl, hB⟩ := hrel
    have HB := Lib.hid hB
    clear hB
    have hk4 : k = 0 ∨ k = 1 ∨ k = 2 ∨ k = 3 := by omega
    rcases hk4 with rfl | rfl | rfl | rfl
    · have IX := lt_ix0 wr
      go_wp2_with fail
      go_roundw
      case rel => exact ⟨1, by omega, rfl, rfl, rfl, HB.out⟩
      case measure => simp [intOf]
    · have IX := lt_ix1 wr
      go_wp2_with fail
      go_roundw
      case rel => exact ⟨2, by omega, rfl, rfl, rfl, HB.out⟩
      case measure => simp [intOf]
    · have IX := lt_ix2 wr
      go_wp2_with fail
      go_roundw
      case rel => exact ⟨3, by omega, rfl, rfl, rfl, HB.out⟩
      case measure => simp [intOf]
    · go_wp2_with fail
      refine (span_nil _ (HT.out.below (HB0.out.trans (HB.out.mono (by omega))))).mono ?_
      rintro e W2 ⟨rfl, hb2⟩
      have sB := HB.out.size
      have kc := (hb2.block w.heap.size (by omega)).trans ((HB.out.block w.heap.size (by omega)).trans HK0.out)
      have z0 : W2.cell? ⟨w.heap.size, 0, none⟩ = some (.int .i64 0) := cell_of_row W2 _ 0 _ _ _ kc
      have z1 : W2.cell? ⟨w.heap.size, 1, none⟩ = some (.int .i64 0) := cell_of_row W2 _ 1 _ _ _ kc
      have fz0 := frozen_of_row W2 w.heap.size 0 _ _ kc
      have fz1 := frozen_of_row W2 w.heap.size 1 _ _ kc
      have HB2 := Lib.hid ((HB0.out.trans (HB.out.mono (by omega))).trans (hb2.mono (by omega)))
      have HKc := Lib.hid kc
      clear hb2 kc
      go_wp2_with fail
      refine ret_row_tmp (B := w.heap.size) _ rfl rfl rfl (heap_setCell_same _ _ 1 _ _ _ (heap_setCell_same W2 w.heap.size 0 _ _ _ HKc.out)) Tryd.underlying39 rfl szC ⟨rfl, (HB2.out.setCell (by simp only; omega) _).setCell (by simp only; omega) _⟩
end Go.Proofs.YtbejbagpdjfgmaaDoor
