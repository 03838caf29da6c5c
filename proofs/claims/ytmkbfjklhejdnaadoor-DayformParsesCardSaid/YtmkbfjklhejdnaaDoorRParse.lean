/-
  THE WALK of the document's Parse.
-/
import Derived.Test.YtmkbfjklhejdnaaDoorRNum
import Derived.Test.YtmkbfjklhejdnaaDoorParseAny
import Derived.Deep.LoopGhost
import Derived.Deep.Cut
import Derived.Deep.DeepCutAuto
namespace Go.Proofs.YtmkbfjklhejdnaaDoor
open Go Go.RowKit
theorem weekdaysS_len : ∀ j, j < weekdaysS.length → (weekdaysS.getD j []).length ≤ 1000 := by decide
/-- no sign at j -/
def NoHit (l : List UInt8) (j : Nat) : Prop := l.getD (j + 1) 0 ≠ 61 ∨ (l.getD j 0 ≠ 62 ∧ l.getD j 0 ≠ 60)
def dpR (kd v u f : Int) : Dp := if v < 0 then ⟨0, 0, 0, 13⟩ else if f ≠ 0 then ⟨0, 0, 0, f⟩ else ⟨kd, v, u, 0⟩
theorem wd2 (v w : World) (N : Nat) (hN : w.heap.size = N) (hb : Below v.heap.size v w) :
    Calls Tryd.prog 27 #[] w fun e w' => e = .returned (.slice (some ⟨N, 0, none⟩) 7 7) ∧ WL w' N 0 weekdaysS ∧ N < w'.heap.size ∧ Below v.heap.size v w' := by
  subst hN
  refine (Weekdays_any w).mono ?_
  rintro e w' ⟨rfl, rfl⟩
  exact ⟨rfl, weekdaysS_wl w, by simp, hb.alloc hb.size _⟩
theorem at_getD {l : List UInt8} {k : Nat} (h : k < l.length) {z : UInt8} (hz : (⟨l.toArray⟩ : ByteArray)[k]'(by show k < l.toArray.size; simpa using h) = z) : l.getD k 0 = z := by
  rw [← hz, List.getD_eq_getElem?_getD, List.getElem?_eq_getElem h]
  rfl
/-- Find answers this on the weekdays -/
def FIs (s : List UInt8) (v : Int) : Prop := ∀ W B cap, B < W.heap.size → WL W B 0 weekdaysS → Calls Tryd.prog 26 #[.string ⟨s.toArray⟩, .slice (some ⟨B, 0, none⟩) 7 cap] W fun e w' => e = .returned (.int .i64 v) ∧ Below W.heap.size W w'
theorem fis_any (s : List UInt8) (hl : s.length ≤ 1000) : FIs s (rfd (s.map low) weekdaysS) := fun W B cap hB hwl => rfind_any s B 0 cap weekdaysS W hl weekdaysS_len (by decide) weekdaysS_small hB hwl
set_option maxRecDepth 100000 in
set_option maxHeartbeats 4000000 in
theorem rp_sign (l : List UInt8) (A : Nat) (x : UInt8) (kd v u f : Int) (w : World) (hl : l.length ≤ 1000) (hA : A + 2 ≤ l.length) (hx : l.getD A 0 = x) (he : l.getD (A + 1) 0 = 61)
    (hk : (x = 62 ∧ kd = 2) ∨ (x = 60 ∧ kd = 3)) (hno : ∀ j, j < A → NoHit l j) (hv : FIs (l.take A) v) (hN : RN (l.drop (A + 2)) u f) :
    Calls Tryd.prog 11 #[.string ⟨l.toArray⟩] w fun e w' => e = .returned (dpV (dpR kd v u f)) ∧ Below w.heap.size w w' := by
  have XT := Lib.hid (ba_take l A)
  have XD := Lib.hid (ba_drop l (A + 2))
  have HV := Lib.hid hv
  have HN := Lib.hid hN
  have HX := Lib.hid hx
  have HE := Lib.hid he
  have HK := Lib.hid hk
  have hA1 : (A : Int) + 2 ≤ (l.length : Int) := by omega
  have hA4 : (A : Int) ≤ 998 := by omega
  clear hv hN hx he hk hA
  have HL := Lib.hid hl
  have HNo := Lib.hid hno
  clear hl hno
  go_enter Tryd.func11, Tryd.ntmps11
  go_wp2_with fail
  generalize hW0 : w.alloc (.cells #[.int .i64 0, .int .i64 0, .int .i64 0] 24) = W0
  have HB0 := Lib.hid (show Below w.heap.size w W0 by rw [← hW0]; exact (Below.refl _ _).alloc (Nat.le_refl _) _)
  have HR0 := Lib.hid (show DyB W0 w.heap.size 0 0 0 by rw [← hW0]; exact DyB.new w 0 0 0)
  have s0 : W0.heap.size = w.heap.size + 1 := by rw [← hW0]; simp
  clear hW0
  go_loopg [4] A (fun g v4 wr => W0 = wr ∧ ∃ k : Nat, k + g = A ∧ v4 = .int .i64 k)
  case atStart => exact ⟨rfl, 0, by omega, rfl⟩
  case round =>
    obtain ⟨rfl, k, hkg, rfl⟩ := hrel
    have k0 : (k : Int) + 1 < (l.length : Int) := by omega
    have k2 : k + 1 < l.length := by omega
    obtain ⟨y, hy⟩ : ∃ y, (⟨l.toArray⟩ : ByteArray)[k]'(by show k < l.toArray.size; simp; omega) = y := ⟨_, rfl⟩
    obtain ⟨z, hz⟩ : ∃ z, (⟨l.toArray⟩ : ByteArray)[k + 1]'(by show k + 1 < l.toArray.size; simpa using k2) = z := ⟨_, rfl⟩
    have gy := at_getD (by omega) hy
    have gz := at_getD k2 hz
    cases gk with
    | succ g =>
      have h1 := HNo.out k (by omega)
      unfold NoHit at h1
      rw [gy, gz] at h1
      clear gy gz
      by_cases hz1 : z = 61
      · have h2 := h1.resolve_left (fun h => h hz1)
        have q0 : ((z.toNat : Int) != 61) = false := by rw [hz1]; rfl
        have q1 : ((y.toNat : Int) != 62) = true := by rw [bne_iff_ne]; intro h; exact h2.1 (UInt8.toNat_inj.1 (by show y.toNat = 62; omega))
        have q2 : ((y.toNat : Int) != 60) = true := by rw [bne_iff_ne]; intro h; exact h2.2 (UInt8.toNat_inj.1 (by show y.toNat = 60; omega))
        clear h1 h2 hz1
        go_wp2_with fail
        go_roundg g
        case measure => omega
        case rel => exact ⟨rfl, k + 1, by omega, rfl⟩
      · have q0 : ((z.toNat : Int) != 61) = true := by rw [bne_iff_ne]; intro h; exact hz1 (UInt8.toNat_inj.1 (by show z.toNat = 61; omega))
        clear h1 hz1
        go_wp2_with fail
        go_roundg g
        case measure => omega
        case rel => exact ⟨rfl, k + 1, by omega, rfl⟩
    | zero =>
      obtain rfl : k = A := by omega
      have q0 : ((z.toNat : Int) != 61) = false := by rw [← gz, HE.out]; rfl
      have HY := Lib.hid (HX.out.symm.trans gy)
      clear gy gz
      rcases HK.out with ⟨hx1, hk1⟩ | ⟨hx1, hk1⟩
      · have q1 : ((y.toNat : Int) != 62) = false := by rw [← HY.out, hx1]; rfl
        have q3 : ((y.toNat : Int) == 62) = true := by rw [← HY.out, hx1]; rfl
        go_upto_region 5 with fail
        subst hk1
        clear hx1
        go_cut [5] (fun s5 wx => s5 = .int .i64 v ∧ Below w.heap.size w wx ∧ DyB wx w.heap.size 0 0 0)
        case first =>
          go_region_with (first
            | (go_at_call 27; refine (wd2 W0 _ (w.heap.size + 1) (by exact s0) (by first | exact (Below.refl _ _).drew | exact Below.refl _ _)).mono ?_; rintro e w5 ⟨rfl, hwl, hlt, hb5⟩)
            | (go_at_call 26; rw [XT.out]; refine (HV.out _ _ 7 hlt hwl).mono ?_; rintro e w6 ⟨rfl, hb6⟩))
          all_goals
            go_wp2_with fail
            go_meet
            case rel => exact ⟨rfl, HB0.out.trans ((hb5.trans (hb6.mono hb5.size)).mono HB0.out.size), (HR0.out.below hb5 (by omega)).below hb6 (by have := hb5.size; omega)⟩
        case rest =>
          obtain ⟨rfl, hbc, hdc⟩ := hcut
          have HBC := Lib.hid hbc
          have HDC := Lib.hid hdc
          obtain ⟨c0, c1, c2⟩ := hdc.cells
          have fr0 := hdc.free 0
          have fr1 := hdc.free 1
          have fr2 := hdc.free 2
          have hlt : w.heap.size < wc.heap.size := (Array.getElem?_eq_some_iff.1 hdc).1
          clear hbc hdc
          by_cases hv0 : v < 0
          · have ED := Lib.hid (show dpR 2 v u f = ⟨0, 0, 0, 13⟩ from if_pos hv0)
            go_wp2_with fail
            refine ret_row_tmp (B := w.heap.size) _ rfl rfl rfl (((HDC.out).set0 _).set1 _ |>.set2 _) Tryd.underlying24 rfl szY ⟨?_, ((((HBC.out).setCell (by simp only; omega) _).setCell (by simp only; omega) _).setCell (by simp only; omega) _)⟩
            rw [ED.out]
            rfl
          · have hv1 : 0 ≤ v := by omega
            by_cases hf : f = 0
            · have ED := Lib.hid (show dpR 2 v u f = ⟨2, v, u, 0⟩ by unfold dpR; rw [if_neg hv0, if_neg (fun h => h hf)])
              have hf2 : (f != 0) = false := by rw [hf]; rfl
              clear hf hv0
              go_wp2_with fail
              rw [XD.out]
              refine (HN.out _).mono ?_
              rintro e w7 ⟨rfl, rfl⟩
              go_wp2_with fail
              refine ret_row_tmp (B := w.heap.size) _ rfl rfl rfl (((HDC.out).set0 _).set1 _ |>.set2 _) Tryd.underlying24 rfl szY ⟨?_, ((((HBC.out).setCell (by simp only; omega) _).setCell (by simp only; omega) _).setCell (by simp only; omega) _)⟩
              rw [ED.out]
              rfl
            · have ED := Lib.hid (show dpR 2 v u f = ⟨0, 0, 0, f⟩ by unfold dpR; rw [if_neg hv0, if_pos hf])
              have hf2 : (f != 0) = true := bne_iff_ne.2 hf
              clear hf hv0
              go_wp2_with fail
              rw [XD.out]
              refine (HN.out _).mono ?_
              rintro e w7 ⟨rfl, rfl⟩
              go_wp2_with fail
              refine ret_row_tmp (B := w.heap.size) _ rfl rfl rfl (((HDC.out).set0 _).set1 _ |>.set2 _) Tryd.underlying24 rfl szY ⟨?_, ((((HBC.out).setCell (by simp only; omega) _).setCell (by simp only; omega) _).setCell (by simp only; omega) _)⟩
              rw [ED.out]
              rfl
      · have q1 : ((y.toNat : Int) != 62) = true := by rw [← HY.out, hx1]; rfl
        have q2 : ((y.toNat : Int) != 60) = false := by rw [← HY.out, hx1]; rfl
        have q3 : ((y.toNat : Int) == 62) = false := by rw [← HY.out, hx1]; rfl
        go_upto_region 5 with fail
        subst hk1
        clear hx1
        go_cut [5] (fun s5 wx => s5 = .int .i64 v ∧ Below w.heap.size w wx ∧ DyB wx w.heap.size 0 0 0)
        case first =>
          go_region_with (first
            | (go_at_call 27; refine (wd2 W0 _ (w.heap.size + 1) (by exact s0) (by first | exact (Below.refl _ _).drew | exact Below.refl _ _)).mono ?_; rintro e w5 ⟨rfl, hwl, hlt, hb5⟩)
            | (go_at_call 26; rw [XT.out]; refine (HV.out _ _ 7 hlt hwl).mono ?_; rintro e w6 ⟨rfl, hb6⟩))
          all_goals
            go_wp2_with fail
            go_meet
            case rel => exact ⟨rfl, HB0.out.trans ((hb5.trans (hb6.mono hb5.size)).mono HB0.out.size), (HR0.out.below hb5 (by omega)).below hb6 (by have := hb5.size; omega)⟩
        case rest =>
          obtain ⟨rfl, hbc, hdc⟩ := hcut
          have HBC := Lib.hid hbc
          have HDC := Lib.hid hdc
          obtain ⟨c0, c1, c2⟩ := hdc.cells
          have fr0 := hdc.free 0
          have fr1 := hdc.free 1
          have fr2 := hdc.free 2
          have hlt : w.heap.size < wc.heap.size := (Array.getElem?_eq_some_iff.1 hdc).1
          clear hbc hdc
          by_cases hv0 : v < 0
          · have ED := Lib.hid (show dpR 3 v u f = ⟨0, 0, 0, 13⟩ from if_pos hv0)
            go_wp2_with fail
            refine ret_row_tmp (B := w.heap.size) _ rfl rfl rfl (((HDC.out).set0 _).set1 _ |>.set2 _) Tryd.underlying24 rfl szY ⟨?_, ((((HBC.out).setCell (by simp only; omega) _).setCell (by simp only; omega) _).setCell (by simp only; omega) _)⟩
            rw [ED.out]
            rfl
          · have hv1 : 0 ≤ v := by omega
            by_cases hf : f = 0
            · have ED := Lib.hid (show dpR 3 v u f = ⟨3, v, u, 0⟩ by unfold dpR; rw [if_neg hv0, if_neg (fun h => h hf)])
              have hf2 : (f != 0) = false := by rw [hf]; rfl
              clear hf hv0
              go_wp2_with fail
              rw [XD.out]
              refine (HN.out _).mono ?_
              rintro e w7 ⟨rfl, rfl⟩
              go_wp2_with fail
              refine ret_row_tmp (B := w.heap.size) _ rfl rfl rfl (((HDC.out).set0 _).set1 _ |>.set2 _) Tryd.underlying24 rfl szY ⟨?_, ((((HBC.out).setCell (by simp only; omega) _).setCell (by simp only; omega) _).setCell (by simp only; omega) _)⟩
              rw [ED.out]
              rfl
            · have ED := Lib.hid (show dpR 3 v u f = ⟨0, 0, 0, f⟩ by unfold dpR; rw [if_neg hv0, if_pos hf])
              have hf2 : (f != 0) = true := bne_iff_ne.2 hf
              clear hf hv0
              go_wp2_with fail
              rw [XD.out]
              refine (HN.out _).mono ?_
              rintro e w7 ⟨rfl, rfl⟩
              go_wp2_with fail
              refine ret_row_tmp (B := w.heap.size) _ rfl rfl rfl (((HDC.out).set0 _).set1 _ |>.set2 _) Tryd.underlying24 rfl szY ⟨?_, ((((HBC.out).setCell (by simp only; omega) _).setCell (by simp only; omega) _).setCell (by simp only; omega) _)⟩
              rw [ED.out]
              rfl
/-- Find answers this on 'last' -/
def FLs (s : List UInt8) (v : Int) : Prop := ∀ W B cap, B < W.heap.size → WL W B 0 [[108, 97, 115, 116]] → Calls Tryd.prog 26 #[.string ⟨s.toArray⟩, .slice (some ⟨B, 0, none⟩) 1 cap] W fun e w' => e = .returned (.int .i64 v) ∧ Below W.heap.size W w'
theorem fls_any (s : List UInt8) (hl : s.length ≤ 1000) : FLs s (rfd (s.map low) [[108, 97, 115, 116]]) := fun W B cap hB hwl => rfind_any s B 0 cap [[108, 97, 115, 116]] W hl (by decide) (by decide) (small_of (by decide +kernel)) hB hwl
theorem wl_last (W : World) (t : TypeId) : WL (W.alloc (.cells #[.string ⟨#[108, 97, 115, 116]⟩] t)) W.heap.size 0 [[108, 97, 115, 116]] := fun j hj => by
  rw [Nat.zero_add]
  refine (World.cell?_alloc_mark W _ _ _ j).trans ?_
  match j, hj with
  | 0, _ => rfl
set_option maxRecDepth 100000 in
set_option maxHeartbeats 4000000 in
theorem rp_short (l : List UInt8) (u f : Int) (w : World) (hl : l.length ≤ 1000) (h4 : l.length < 4) (hno : ∀ j, j + 1 < l.length → NoHit l j) (hN : RN l u f) :
    Calls Tryd.prog 11 #[.string ⟨l.toArray⟩] w fun e w' => e = .returned (dpV (dpN (u, f))) ∧ Below w.heap.size w w' := by
  have HN := Lib.hid hN
  have h5 : (l.length : Int) < 4 := by omega
  clear hN h4
  obtain ⟨M, hM⟩ : ∃ M : Nat, M = l.length - 1 := ⟨_, rfl⟩
  have hl9 : (l.length : Int) ≤ 1000 := by omega
  have HL := Lib.hid hl
  have HNo := Lib.hid hno
  clear hl hno
  go_enter Tryd.func11, Tryd.ntmps11
  go_wp2_with fail
  generalize hW0 : w.alloc (.cells #[.int .i64 0, .int .i64 0, .int .i64 0] 24) = W0
  have HB0 := Lib.hid (show Below w.heap.size w W0 by rw [← hW0]; exact (Below.refl _ _).alloc (Nat.le_refl _) _)
  have HR0 := Lib.hid (show DyB W0 w.heap.size 0 0 0 by rw [← hW0]; exact DyB.new w 0 0 0)
  have s0 : W0.heap.size = w.heap.size + 1 := by rw [← hW0]; simp
  clear hW0
  go_loopg [4] M (fun g v4 wr => W0 = wr ∧ ∃ k : Nat, k + g = M ∧ v4 = .int .i64 k)
  case atStart => exact ⟨rfl, 0, by omega, rfl⟩
  case round =>
    obtain ⟨rfl, k, hkg, rfl⟩ := hrel
    cases gk with
    | succ g =>
      have k0 : (k : Int) + 1 < (l.length : Int) := by omega
      have k2 : k + 1 < l.length := by omega
      obtain ⟨y, hy⟩ : ∃ y, (⟨l.toArray⟩ : ByteArray)[k]'(by show k < l.toArray.size; simp; omega) = y := ⟨_, rfl⟩
      obtain ⟨z, hz⟩ : ∃ z, (⟨l.toArray⟩ : ByteArray)[k + 1]'(by show k + 1 < l.toArray.size; simpa using k2) = z := ⟨_, rfl⟩
      have gy := at_getD (by omega) hy
      have gz := at_getD k2 hz
      have h1 := HNo.out k k2
      unfold NoHit at h1
      rw [gy, gz] at h1
      clear gy gz
      clear hM
      by_cases hz1 : z = 61
      · have h2 := h1.resolve_left (fun h => h hz1)
        have q0 : ((z.toNat : Int) != 61) = false := by rw [hz1]; rfl
        have q1 : ((y.toNat : Int) != 62) = true := by rw [bne_iff_ne]; intro h; exact h2.1 (UInt8.toNat_inj.1 (by show y.toNat = 62; omega))
        have q2 : ((y.toNat : Int) != 60) = true := by rw [bne_iff_ne]; intro h; exact h2.2 (UInt8.toNat_inj.1 (by show y.toNat = 60; omega))
        clear h1 h2 hz1
        go_wp2_with fail
        go_roundg g
        case measure => omega
        case rel => exact ⟨rfl, k + 1, by omega, rfl⟩
      · have q0 : ((z.toNat : Int) != 61) = true := by rw [bne_iff_ne]; intro h; exact hz1 (UInt8.toNat_inj.1 (by show z.toNat = 61; omega))
        clear h1 hz1
        go_wp2_with fail
        go_roundg g
        case measure => omega
        case rel => exact ⟨rfl, k + 1, by omega, rfl⟩
    | zero =>
      have k0 : ¬ ((k : Int) + 1 < (l.length : Int)) := by omega
      have k9 : (k : Int) ≤ 1000 := by omega
      clear hM hkg
      go_wp2_with fail
      refine (HN.out _).mono ?_
      rintro e w7 ⟨rfl, rfl⟩
      have hlt : w.heap.size < W0.heap.size := by omega
      have HDC := Lib.hid (HR0.out)
      have HBC := Lib.hid (HB0.out)
      obtain ⟨c0, c1, c2⟩ := HDC.out.cells
      have fr0 := HDC.out.free 0
      have fr1 := HDC.out.free 1
      have fr2 := HDC.out.free 2
      by_cases hf : f = 0
      · have ED := Lib.hid (show dpN (u, f) = ⟨0, 0, u, 0⟩ from if_pos hf)
        have hf2 : (f != 0) = false := by rw [hf]; rfl
        clear hf
        go_wp2_with fail
        refine ret_row_tmp (B := w.heap.size) _ rfl rfl rfl (((HDC.out).set0 _).set1 _ |>.set2 _) Tryd.underlying24 rfl szY ⟨?_, ((((HBC.out).setCell (by simp only; omega) _).setCell (by simp only; omega) _).setCell (by simp only; omega) _)⟩
        rw [ED.out]
        rfl
      · have ED := Lib.hid (show dpN (u, f) = ⟨0, 0, 0, f⟩ from if_neg hf)
        have hf2 : (f != 0) = true := bne_iff_ne.2 hf
        clear hf
        go_wp2_with fail
        refine ret_row_tmp (B := w.heap.size) _ rfl rfl rfl (((HDC.out).set0 _).set1 _ |>.set2 _) Tryd.underlying24 rfl szY ⟨?_, ((((HBC.out).setCell (by simp only; omega) _).setCell (by simp only; omega) _).setCell (by simp only; omega) _)⟩
        rw [ED.out]
        rfl
set_option maxRecDepth 100000 in
set_option maxHeartbeats 4000000 in
theorem rp_long (l : List UInt8) (u f : Int) (w : World) (hl : l.length ≤ 1000) (h4 : 4 ≤ l.length) (hno : ∀ j, j + 1 < l.length → NoHit l j) (hN : RN l u f) (hv : FLs (l.take 4) (-1)) :
    Calls Tryd.prog 11 #[.string ⟨l.toArray⟩] w fun e w' => e = .returned (dpV (dpN (u, f))) ∧ Below w.heap.size w w' := by
  have HN := Lib.hid hN
  have HV := Lib.hid hv
  have XT := Lib.hid (ba_take l 4)
  have h5 : 4 ≤ (l.length : Int) := by omega
  clear hN h4 hv
  obtain ⟨M, hM⟩ : ∃ M : Nat, M = l.length - 1 := ⟨_, rfl⟩
  have hl9 : (l.length : Int) ≤ 1000 := by omega
  have HL := Lib.hid hl
  have HNo := Lib.hid hno
  clear hl hno
  go_enter Tryd.func11, Tryd.ntmps11
  go_wp2_with fail
  generalize hW0 : w.alloc (.cells #[.int .i64 0, .int .i64 0, .int .i64 0] 24) = W0
  have HB0 := Lib.hid (show Below w.heap.size w W0 by rw [← hW0]; exact (Below.refl _ _).alloc (Nat.le_refl _) _)
  have HR0 := Lib.hid (show DyB W0 w.heap.size 0 0 0 by rw [← hW0]; exact DyB.new w 0 0 0)
  have s0 : W0.heap.size = w.heap.size + 1 := by rw [← hW0]; simp
  clear hW0
  go_loopg [4] M (fun g v4 wr => W0 = wr ∧ ∃ k : Nat, k + g = M ∧ v4 = .int .i64 k)
  case atStart => exact ⟨rfl, 0, by omega, rfl⟩
  case round =>
    obtain ⟨rfl, k, hkg, rfl⟩ := hrel
    cases gk with
    | succ g =>
      have k0 : (k : Int) + 1 < (l.length : Int) := by omega
      have k2 : k + 1 < l.length := by omega
      obtain ⟨y, hy⟩ : ∃ y, (⟨l.toArray⟩ : ByteArray)[k]'(by show k < l.toArray.size; simp; omega) = y := ⟨_, rfl⟩
      obtain ⟨z, hz⟩ : ∃ z, (⟨l.toArray⟩ : ByteArray)[k + 1]'(by show k + 1 < l.toArray.size; simpa using k2) = z := ⟨_, rfl⟩
      have gy := at_getD (by omega) hy
      have gz := at_getD k2 hz
      have h1 := HNo.out k k2
      unfold NoHit at h1
      rw [gy, gz] at h1
      clear gy gz
      clear hM
      by_cases hz1 : z = 61
      · have h2 := h1.resolve_left (fun h => h hz1)
        have q0 : ((z.toNat : Int) != 61) = false := by rw [hz1]; rfl
        have q1 : ((y.toNat : Int) != 62) = true := by rw [bne_iff_ne]; intro h; exact h2.1 (UInt8.toNat_inj.1 (by show y.toNat = 62; omega))
        have q2 : ((y.toNat : Int) != 60) = true := by rw [bne_iff_ne]; intro h; exact h2.2 (UInt8.toNat_inj.1 (by show y.toNat = 60; omega))
        clear h1 h2 hz1
        go_wp2_with fail
        go_roundg g
        case measure => omega
        case rel => exact ⟨rfl, k + 1, by omega, rfl⟩
      · have q0 : ((z.toNat : Int) != 61) = true := by rw [bne_iff_ne]; intro h; exact hz1 (UInt8.toNat_inj.1 (by show z.toNat = 61; omega))
        clear h1 hz1
        go_wp2_with fail
        go_roundg g
        case measure => omega
        case rel => exact ⟨rfl, k + 1, by omega, rfl⟩
    | zero =>
      have k0 : ¬ ((k : Int) + 1 < (l.length : Int)) := by omega
      have k9 : (k : Int) ≤ 1000 := by omega
      clear hM hkg
      go_wp2_with fail
      rw [XT.out]
      refine (HV.out _ _ 1 (by simp [s0]) (by rw [← s0]; exact wl_last W0 _)).mono ?_
      rintro e w5 ⟨rfl, hb5⟩
      have HB5 := Lib.hid (HB0.out.trans ((((Below.refl _ _).alloc (Nat.le_refl _) _).trans (hb5.mono (by simp))).mono HB0.out.size))
      have HR5 := Lib.hid ((HR0.out.below ((Below.refl _ _).alloc (Nat.le_refl _) _) (by omega)).below hb5 (by simp only [World.size_alloc, s0]; omega))
      have hlt : w.heap.size < w5.heap.size := by have := hb5.size; simp [s0] at this; omega
      clear hb5
      go_wp2_with fail
      refine (HN.out _).mono ?_
      rintro e w7 ⟨rfl, rfl⟩
      have HDC := Lib.hid (HR5.out)
      have HBC := Lib.hid (HB5.out)
      obtain ⟨c0, c1, c2⟩ := HDC.out.cells
      have fr0 := HDC.out.free 0
      have fr1 := HDC.out.free 1
      have fr2 := HDC.out.free 2
      by_cases hf : f = 0
      · have ED := Lib.hid (show dpN (u, f) = ⟨0, 0, u, 0⟩ from if_pos hf)
        have hf2 : (f != 0) = false := by rw [hf]; rfl
        clear hf
        go_wp2_with fail
        refine ret_row_tmp (B := w.heap.size) _ rfl rfl rfl (((HDC.out).set0 _).set1 _ |>.set2 _) Tryd.underlying24 rfl szY ⟨?_, ((((HBC.out).setCell (by simp only; omega) _).setCell (by simp only; omega) _).setCell (by simp only; omega) _)⟩
        rw [ED.out]
        rfl
      · have ED := Lib.hid (show dpN (u, f) = ⟨0, 0, 0, f⟩ from if_neg hf)
        have hf2 : (f != 0) = true := bne_iff_ne.2 hf
        clear hf
        go_wp2_with fail
        refine ret_row_tmp (B := w.heap.size) _ rfl rfl rfl (((HDC.out).set0 _).set1 _ |>.set2 _) Tryd.underlying24 rfl szY ⟨?_, ((((HBC.out).setCell (by simp only; omega) _).setCell (by simp only; omega) _).setCell (by simp only; omega) _)⟩
        rw [ED.out]
        rfl
end Go.Proofs.YtmkbfjklhejdnaaDoor
