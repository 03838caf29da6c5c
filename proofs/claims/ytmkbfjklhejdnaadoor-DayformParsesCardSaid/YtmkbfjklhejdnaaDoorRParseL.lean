/-
  THE WALK of the document's Parse: 'last' and a weekday; what it answers at any text.
-/
import Derived.Test.YtmkbfjklhejdnaaDoorRParse
namespace Go.Proofs.YtmkbfjklhejdnaaDoor
open Go Go.RowKit
def dpM (v : Int) : Dp := if v < 0 then ⟨0, 0, 0, 13⟩ else ⟨1, v, 0, 0⟩
set_option maxRecDepth 100000 in
set_option maxHeartbeats 4000000 in
theorem rp_last (l : List UInt8) (v : Int) (w : World) (hl : l.length ≤ 1000) (h4 : 4 ≤ l.length) (hno : ∀ j, j + 1 < l.length → NoHit l j) (hv : FLs (l.take 4) 0) (hF : FIs (l.drop 4) v) :
    Calls Tryd.prog 11 #[.string ⟨l.toArray⟩] w fun e w' => e = .returned (dpV (dpM v)) ∧ Below w.heap.size w w' := by
  have HF := Lib.hid hF
  have HV := Lib.hid hv
  have XT := Lib.hid (ba_take l 4)
  have XD := Lib.hid (ba_drop l 4)
  have h5 : 4 ≤ (l.length : Int) := by omega
  clear h4 hv hF
  obtain ⟨M, hM⟩ : ∃ M : Nat, M = l.length - 1 := ⟨_, rfl⟩
  have hl9 : (l.length : Int) ≤ 1000 := by omega
  have HL := Lib.hid hl
  have HNo := Lib.hid hno
  clear hl hno
  go_enter Tryd.func11, Tryd.ntmps11
  go_wp2_with fail
  generalize hW0 : w.alloc (.cells #[.int .i64 0, .int .i64 0, .int .i64 0] 24) = W0
  have HB0 := Lib.hid (show Below w.heap.size w W0 by rw [← hW0]; exact (Below.refl _ _).alloc (Nat.le_refl _) _)
  have HR0 := Lib.hid (show DyB W0 w.heap.size 0 0 0 by rw [← hW0]; exact DyB.new w 0 0 0)
  have s0 : W0.heap.size = w.heap.size + 1 := by rw [← hW0]; simp
  clear hW0
  go_loopg [4] M (fun g v4 wr => W0 = wr ∧ ∃ k : Nat, k + g = M ∧ v4 = .int .i64 k)
  case atStart => exact ⟨rfl, 0, by omega, rfl⟩
  case round =>
    obtain ⟨rfl, k, hkg, rfl⟩ := hrel
    cases gk with
    | succ g =>
      have k0 : (k : Int) + 1 < (l.length : Int) := by omega
      have k2 : k + 1 < l.length := by omega
      obtain ⟨y, hy⟩ : ∃ y, (⟨l.toArray⟩ : ByteArray)[k]'(by show k < l.toArray.size; simp; omega) = y := ⟨_, rfl⟩
      obtain ⟨z, hz⟩ : ∃ z, (⟨l.toArray⟩ : ByteArray)[k + 1]'(by show k + 1 < l.toArray.size; simpa using k2) = z := ⟨_, rfl⟩
      have gy := at_getD (by omega) hy
      have gz := at_getD k2 hz
      have h1 := HNo.out k k2
      unfold NoHit at h1
      rw [gy, gz] at h1
      clear gy gz
      clear hM
      by_cases hz1 : z = 61
      · have h2 := h1.resolve_left (fun h => h hz1)
        have q0 : ((z.toNat : Int) != 61) = false := by rw [hz1]; rfl
        have q1 : ((y.toNat : Int) != 62) = true := by rw [bne_iff_ne]; intro h; exact h2.1 (UInt8.toNat_inj.1 (by show y.toNat = 62; omega))
        have q2 : ((y.toNat : Int) != 60) = true := by rw [bne_iff_ne]; intro h; exact h2.2 (UInt8.toNat_inj.1 (by show y.toNat = 60; omega))
        clear h1 h2 hz1
        go_wp2_with fail
        go_roundg g
        case measure => omega
        case rel => exact ⟨rfl, k + 1, by omega, rfl⟩
      · have q0 : ((z.toNat : Int) != 61) = true := by rw [bne_iff_ne]; intro h; exact hz1 (UInt8.toNat_inj.1 (by show z.toNat = 61; omega))
        clear h1 hz1
        go_wp2_with fail
        go_roundg g
        case measure => omega
        case rel => exact ⟨rfl, k + 1, by omega, rfl⟩
    | zero =>
      have k0 : ¬ ((k : Int) + 1 < (l.length : Int)) := by omega
      have k9 : (k : Int) ≤ 1000 := by omega
      clear hM hkg
      go_wp2_with fail
      rw [XT.out]
      refine (HV.out _ _ 1 (by simp [s0]) (by rw [← s0]; exact wl_last W0 _)).mono ?_
      rintro e w5 ⟨rfl, hb5⟩
      have HB5 := Lib.hid (HB0.out.trans ((((Below.refl _ _).alloc (Nat.le_refl _) _).trans (hb5.mono (by simp))).mono HB0.out.size))
      have HR5 := Lib.hid ((HR0.out.below ((Below.refl _ _).alloc (Nat.le_refl _) _) (by omega)).below hb5 (by simp only [World.size_alloc, s0]; omega))
      have hlt : w.heap.size < w5.heap.size := by have := hb5.size; simp [s0] at this; omega
      clear hb5
      go_upto_region 15 with fail
      obtain ⟨N5, hN5⟩ : ∃ N5, w5.heap.size = N5 := ⟨_, rfl⟩
      go_cut [8] (fun s8 wx => s8 = .int .i64 v ∧ Below w.heap.size w wx ∧ DyB wx w.heap.size 0 0 0)
      case first =>
        go_region_with (first
          | (go_at_call 27; refine (wd2 w5 _ N5 (by exact hN5) (by first | exact (Below.refl _ _).drew | exact Below.refl _ _)).mono ?_; rintro e w6 ⟨rfl, hwl, hlt6, hb6⟩)
          | (go_at_call 26; rw [XD.out]; refine (HF.out _ _ 7 hlt6 hwl).mono ?_; rintro e w7 ⟨rfl, hb7⟩))
        all_goals
          go_wp2_with fail
          go_meet
          case rel => exact ⟨rfl, HB5.out.trans ((hb6.trans (hb7.mono hb6.size)).mono HB5.out.size), (HR5.out.below hb6 (by omega)).below hb7 (by have := hb6.size; omega)⟩
      case rest =>
        obtain ⟨rfl, hbc, hdc⟩ := hcut
        have HBC := Lib.hid hbc
        have HDC := Lib.hid hdc
        obtain ⟨c0, c1, c2⟩ := hdc.cells
        have fr0 := hdc.free 0
        have fr1 := hdc.free 1
        have fr2 := hdc.free 2
        have hlc : w.heap.size < wc.heap.size := (Array.getElem?_eq_some_iff.1 hdc).1
        clear hbc hdc
        by_cases hv0 : v < 0
        · have ED := Lib.hid (show dpM v = ⟨0, 0, 0, 13⟩ from if_pos hv0)
          go_wp2_with fail
          refine ret_row_tmp (B := w.heap.size) _ rfl rfl rfl (((HDC.out).set0 _).set1 _ |>.set2 _) Tryd.underlying24 rfl szY ⟨?_, ((((HBC.out).setCell (by simp only; omega) _).setCell (by simp only; omega) _).setCell (by simp only; omega) _)⟩
          rw [ED.out]
          rfl
        · have ED := Lib.hid (show dpM v = ⟨1, v, 0, 0⟩ from if_neg hv0)
          have hv1 : 0 ≤ v := by omega
          go_wp2_with fail
          refine ret_row_tmp (B := w.heap.size) _ rfl rfl rfl (((HDC.out).set0 _).set1 _ |>.set2 _) Tryd.underlying24 rfl szY ⟨?_, ((((HBC.out).setCell (by simp only; omega) _).setCell (by simp only; omega) _).setCell (by simp only; omega) _)⟩
          rw [ED.out]
          rfl
end Go.Proofs.YtmkbfjklhejdnaaDoor
