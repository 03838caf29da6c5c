/-
  THE WALKS of dayform.sign and number.
-/
import Derived.Test.YtmkbfjklhejdnaaDoorInLoop
import Derived.Test.YtmkbfjklhejdnaaDoorWeekday
import Derived.Test.YtmkbfjklhejdnaaDoorNumText
import Derived.Lib.AppendIntMem
namespace Go.Proofs.YtmkbfjklhejdnaaDoor
open Go Go.RowKit CivM NumM
/-- the cell of the library's variable holds some number -/
def Big (w : World) : Prop := ∃ m, w.cell? ⟨6, 0, none⟩ = some (.int .i64 m)
theorem Big.below {w w' : World} (h : Big w) (hb : Below w.heap.size w w') : Big w' := by
  obtain ⟨m, hm⟩ := h
  exact ⟨m, (hb.cell (block_lt_of_cell hm)).trans hm⟩
theorem index_any (s sub : List UInt8) (w : World) (hB : Big w) (hs : s.length ≤ 1000) :
    Calls Tryd.prog 43 #[.string ⟨s.toArray⟩, .string ⟨sub.toArray⟩] w fun e w' => e = .returned (.int .i64 (Lib.index s sub)) ∧ w = w' := by
  obtain ⟨m, hm⟩ := hB
  refine (Tryd.strings_Index ⟨s.toArray⟩ ⟨sub.toArray⟩ m w (by show s.toArray.size < _; simp; omega) hm).mono ?_
  rintro e w' ⟨rfl, rfl⟩
  exact ⟨by simp, rfl⟩
/-- the table of the signs -/
def Sgn (w : World) : Prop := w.cell? ⟨0, 0, none⟩ = some (.string ⟨#[]⟩) ∧ w.cell? ⟨0, 1, none⟩ = some (.string ⟨#[]⟩) ∧
  w.cell? ⟨0, 2, none⟩ = some (.string ⟨#[62, 61]⟩) ∧ w.cell? ⟨0, 3, none⟩ = some (.string ⟨#[60, 61]⟩)
theorem Sgn.below {w w' : World} (h : Sgn w) (hb : Below w.heap.size w w') : Sgn w' :=
  ⟨(hb.cell (block_lt_of_cell h.1)).trans h.1, (hb.cell (block_lt_of_cell h.2.1)).trans h.2.1, (hb.cell (block_lt_of_cell h.2.2.1)).trans h.2.2.1, (hb.cell (block_lt_of_cell h.2.2.2)).trans h.2.2.2⟩
set_option maxRecDepth 100000 in
theorem sg_ix0 (w : World) : (Instr.index 52 (.agg #[.string ⟨#[]⟩, .string ⟨#[]⟩, .string ⟨#[62, 61]⟩, .string ⟨#[60, 61]⟩]) (.int .i64 0)).run Tryd.prog w = .ok (.string ⟨#[]⟩) w := by
  first | rfl | kernel_rfl
set_option maxRecDepth 100000 in
theorem sg_ix1 (w : World) : (Instr.index 52 (.agg #[.string ⟨#[]⟩, .string ⟨#[]⟩, .string ⟨#[62, 61]⟩, .string ⟨#[60, 61]⟩]) (.int .i64 1)).run Tryd.prog w = .ok (.string ⟨#[]⟩) w := by
  first | rfl | kernel_rfl
set_option maxRecDepth 100000 in
theorem sg_ix2 (w : World) : (Instr.index 52 (.agg #[.string ⟨#[]⟩, .string ⟨#[]⟩, .string ⟨#[62, 61]⟩, .string ⟨#[60, 61]⟩]) (.int .i64 2)).run Tryd.prog w = .ok (.string ⟨#[62, 61]⟩) w := by
  first | rfl | kernel_rfl
set_option maxRecDepth 100000 in
theorem sg_ix3 (w : World) : (Instr.index 52 (.agg #[.string ⟨#[]⟩, .string ⟨#[]⟩, .string ⟨#[62, 61]⟩, .string ⟨#[60, 61]⟩]) (.int .i64 3)).run Tryd.prog w = .ok (.string ⟨#[60, 61]⟩) w := by
  first | rfl | kernel_rfl
/-- the first sign and its kind, out of where each one is -/
def sgI (i2 i3 : Int) : Int × Int := if 0 ≤ i2 then (if 0 ≤ i3 ∧ i3 < i2 then (i3, 3) else (i2, 2)) else if 0 ≤ i3 then (i3, 3) else (-1, 0)
def stI (i2 i3 : Int) (k : Int) : Int × Int := if k ≤ 2 then (-1, 0) else if k = 3 then (if 0 ≤ i2 then (i2, 2) else (-1, 0)) else sgI i2 i3
abbrev sg (l : List UInt8) : Int × Int := sgI (Lib.index l [62, 61]) (Lib.index l [60, 61])
theorem st3_t {i2 i3 : Int} (z : 0 ≤ i2) : (i2, 2) = stI i2 i3 3 := by simp [stI, z]
theorem st3_f {i2 i3 : Int} (z : i2 < 0) : (-1, 0) = stI i2 i3 3 := by unfold stI; rw [if_neg (by decide), if_pos rfl, if_neg (by omega)]
theorem st4_a {i2 i3 : Int} (z : 0 ≤ i2) (z3 : 0 ≤ i3) (z4 : i3 < i2) : (i3, 3) = stI i2 i3 4 := by simp [stI, sgI, z, z3, z4]
theorem st4_b {i2 i3 : Int} (z : 0 ≤ i2) (z4 : i2 ≤ i3) : (i2, 2) = stI i2 i3 4 := by unfold stI sgI; rw [if_neg (by decide), if_neg (by decide), if_pos z, if_neg (by omega)]
theorem st4_c {i2 i3 : Int} (z : 0 ≤ i2) (z3 : i3 < 0) : (i2, 2) = stI i2 i3 4 := by unfold stI sgI; rw [if_neg (by decide), if_neg (by decide), if_pos z, if_neg (by omega)]
theorem st4_d {i2 i3 : Int} (z : i2 < 0) (z3 : 0 ≤ i3) : (i3, 3) = stI i2 i3 4 := by unfold stI sgI; rw [if_neg (by decide), if_neg (by decide), if_neg (by omega), if_pos z3]
theorem st4_e {i2 i3 : Int} (z : i2 < 0) (z3 : i3 < 0) : (-1, 0) = stI i2 i3 4 := by unfold stI sgI; rw [if_neg (by decide), if_neg (by decide), if_neg (by omega), if_neg (by omega)]
set_option maxRecDepth 100000 in
set_option maxHeartbeats 2000000 in
theorem sign_any (l : List UInt8) (w : World) (hS : Sgn w) (hB : Big w) (hl : l.length ≤ 1000) :
    Calls Tryd.prog 22 #[.string ⟨l.toArray⟩] w fun e w' => e = .returned (.tuple #[.int .i64 (sg l).1, .int .i64 (sg l).2]) ∧ w = w' := by
  obtain ⟨c0, c1, c2, c3⟩ := hS
  have HB := Lib.hid hB
  have HL := Lib.hid hl
  clear hB hl
  obtain ⟨i2, h2⟩ : ∃ i, Lib.index l [62, 61] = i := ⟨_, rfl⟩
  obtain ⟨i3, h3⟩ : ∃ i, Lib.index l [60, 61] = i := ⟨_, rfl⟩
  have H2 := Lib.hid h2
  have H3 := Lib.hid h3
  unfold sg
  rw [h2, h3]
  clear h2 h3
  go_enter Tryd.func22, Tryd.ntmps22
  go_wp2_with fail
  go_loopw [8, 2, 3] (fun iv av kv wr => ∃ (k a b : Int), (0 ≤ k ∧ k ≤ 4) ∧ iv = .int .i64 k ∧ av = .int .i64 a ∧ kv = .int .i64 b ∧ (a, b) = stI i2 i3 k ∧ wr = w) (fun iv _ _ _ => 4 - (intOf iv).toNat)
  case atStart => exact ⟨0, -1, 0, by omega, rfl, rfl, rfl, rfl, rfl⟩
  case round =>
    obtain ⟨k, a, b, hk, rfl, rfl, rfl, hab, rfl⟩ := hrel
    have hk5 : k = 0 ∨ k = 1 ∨ k = 2 ∨ k = 3 ∨ k = 4 := by omega
    rcases hk5 with rfl | rfl | rfl | rfl | rfl
    · obtain ⟨rfl, rfl⟩ : a = -1 ∧ b = 0 := by simpa [stI] using hab
      clear hab
      have IX := sg_ix0 wr
      go_wp2_with fail
      clear IX
      refine (index_any l [] _ HB.out HL.out).mono ?_
      rintro e w' ⟨rfl, rfl⟩
      generalize Lib.index l [] = i0
      go_wp2_with fail
      go_roundw
      case rel => exact ⟨1, _, _, by omega, rfl, rfl, rfl, rfl, trivial⟩
      case measure => simp [intOf]
    · obtain ⟨rfl, rfl⟩ : a = -1 ∧ b = 0 := by simpa [stI] using hab
      clear hab
      have IX := sg_ix1 wr
      go_wp2_with fail
      clear IX
      refine (index_any l [] _ HB.out HL.out).mono ?_
      rintro e w' ⟨rfl, rfl⟩
      generalize Lib.index l [] = i0
      go_wp2_with fail
      go_roundw
      case rel => exact ⟨2, _, _, by omega, rfl, rfl, rfl, rfl, trivial⟩
      case measure => simp [intOf]
    · obtain ⟨rfl, rfl⟩ : a = -1 ∧ b = 0 := by simpa [stI] using hab
      clear hab
      have IX := sg_ix2 wr
      go_wp2_with fail
      clear IX
      refine (index_any l [62, 61] _ HB.out HL.out).mono ?_
      rintro e w' ⟨rfl, rfl⟩
      rw [H2.out]
      by_cases z : 0 ≤ i2
      · skip
        go_wp2_with fail
        go_roundw
        case rel => exact ⟨3, _, _, by omega, rfl, rfl, rfl, (st3_t z), trivial⟩
        case measure => simp [intOf]
      · skip
        go_wp2_with fail
        go_roundw
        case rel => exact ⟨3, _, _, by omega, rfl, rfl, rfl, (st3_f z), trivial⟩
        case measure => simp [intOf]
    · by_cases z : 0 ≤ i2
      · obtain ⟨rfl, rfl⟩ : a = i2 ∧ b = 2 := by simpa [stI, z] using hab
        clear hab
        have IX := sg_ix3 wr
        go_wp2_with fail
        clear IX
        refine (index_any l [60, 61] _ HB.out HL.out).mono ?_
        rintro e w' ⟨rfl, rfl⟩
        rw [H3.out]
        by_cases z3 : 0 ≤ i3
        · by_cases z4 : i3 < a
          · skip
            go_wp2_with fail
            go_roundw
            case rel => exact ⟨4, _, _, by omega, rfl, rfl, rfl, (st4_a z z3 z4), trivial⟩
            case measure => simp [intOf]
          · skip
            go_wp2_with fail
            go_roundw
            case rel => exact ⟨4, _, _, by omega, rfl, rfl, rfl, (st4_b z z4), trivial⟩
            case measure => simp [intOf]
        · skip
          go_wp2_with fail
          go_roundw
          case rel => exact ⟨4, _, _, by omega, rfl, rfl, rfl, (st4_c z z3), trivial⟩
          case measure => simp [intOf]
      · obtain ⟨rfl, rfl⟩ : a = -1 ∧ b = 0 := by simpa [stI, z] using hab
        clear hab
        have IX := sg_ix3 wr
        go_wp2_with fail
        clear IX
        refine (index_any l [60, 61] _ HB.out HL.out).mono ?_
        rintro e w' ⟨rfl, rfl⟩
        rw [H3.out]
        by_cases z3 : 0 ≤ i3
        · skip
          go_wp2_with fail
          go_roundw
          case rel => exact ⟨4, _, _, by omega, rfl, rfl, rfl, (st4_d z z3), trivial⟩
          case measure => simp [intOf]
        · skip
          go_wp2_with fail
          go_roundw
          case rel => exact ⟨4, _, _, by omega, rfl, rfl, rfl, (st4_e z z3), trivial⟩
          case measure => simp [intOf]
    · have h4 : (a, b) = sgI i2 i3 := by simpa [stI] using hab
      have H4 := Lib.hid h4
      clear h4 hab
      go_wp2_with fail
      go_ret2
      refine ⟨?_, rfl⟩
      rw [← H4.out]
      rfl
end Go.Proofs.YtmkbfjklhejdnaaDoor
