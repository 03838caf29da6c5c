/-
  THE WALKS of the reference's products: signed, Mul.
-/
import Derived.Test.YtnbgmnjmandolaaRefMore
namespace Go.Proofs.Ytnbgmnjmandolaa
open Go Go.RowKit NumM

theorem sz4 : (Try.prog.info? 42).map (·.size) = some 4 := by kernel_rfl
theorem neg7 (n : Int) (h : Fits n) : (cn n 7 < 0 ↔ n < 0) := by
  have := dv_bd n h
  simp [cn, dv]
  unfold Fits at h
  omega
set_option maxRecDepth 100000 in
set_option maxHeartbeats 2000000 in
theorem signed_any (n : Int) (w : World) (hn : Fits n) :
    Calls Try.prog 22 #[.int .i64 n] w fun e w' => e = .returned (.agg (ints 4 (sg n))) ∧ Below w.heap.size w w' := by
  have HZ := Lib.hid (Arr.new w 42 4 (fun _ => 0))
  have h73 := Lib.hid (cn_sg3 n hn)
  have b3 := cn_lo n 3 (by omega)
  by_cases h7 : cn n 7 < 0
  · have E := Lib.hid (h73.out.1 h7)
    go_enter Try.func22, Try.ntmps22
    go_wp2_with (first
      | (go_at_call 13; refine (of_any n _ hn).mono ?_; rintro e w1 ⟨rfl, hb1⟩)
      | (refine wpList_store_abs (D := w.heap.size) (w0 := w) rfl 27 _ _ rfl w1.heap.size 8 (cn n) rfl rfl (Arr.new w1 _ 8 (fun _ => 0)) sz8 ?_ ?_ ?_))
    · exact (((Below.refl w.heap.size w).alloc (Nat.le_refl _) _).trans (hb1.mono (by simp))).alloc (by have := hb1.size; simp at this; omega) _
    · have := hb1.size; simp at this; omega
    intro W hA hF hsz hB
    have hs1 := hb1.size
    simp only [World.size_alloc] at hs1 hsz
    have HF := Lib.hid (hF w.heap.size _ _ _ (by omega) ((HZ.out.below hb1 HZ.out.lt).alloc _))
    have HB := Lib.hid hB
    have c0 := hA.cell (k := 0) (by omega)
    have c1 := hA.cell (k := 1) (by omega)
    have c2 := hA.cell (k := 2) (by omega)
    have c3 := hA.cell (k := 3) (by omega)
    have c7 := hA.cell (k := 7) (by omega)
    have hs2 : w.heap.size + 2 ≤ W.heap.size := by omega
    have hs3 : w1.heap.size < W.heap.size := by omega
    clear hA hF hB hsz hb1
    go_wp2_with (first
      | (refine wpList_store_abs (D := w.heap.size) (w0 := w) rfl 42 (.tmp 2) (.tmp 23) rfl w.heap.size 4 (fun j => if j = 3 then cn n 3 - 65536 else cn n j) (by rfl) (by rfl) (HF.out.alloc _) sz4 (HB.out.alloc (by omega) _) (Nat.le_refl _) ?_))
    intro W2 hA2 _ _ hB2
    go_wp2
    refine ret_arr rfl rfl rfl hA2 Try.underlying42 sz4 ⟨ret_eq (congrArg Value.agg (ints_congr fun j hj => ?_)), hB2⟩
    by_cases h3 : j = 3
    · subst h3; rw [if_pos rfl, E.out]
    · rw [if_neg h3, cn_sg n j (by omega)]
  · have E := Lib.hid (h73.out.2 (by omega))
    go_enter Try.func22, Try.ntmps22
    go_wp2_with (first
      | (go_at_call 13; refine (of_any n _ hn).mono ?_; rintro e w1 ⟨rfl, hb1⟩)
      | (refine wpList_store_abs (D := w.heap.size) (w0 := w) rfl 27 _ _ rfl w1.heap.size 8 (cn n) rfl rfl (Arr.new w1 _ 8 (fun _ => 0)) sz8 ?_ ?_ ?_))
    · exact (((Below.refl w.heap.size w).alloc (Nat.le_refl _) _).trans (hb1.mono (by simp))).alloc (by have := hb1.size; simp at this; omega) _
    · have := hb1.size; simp at this; omega
    intro W hA hF hsz hB
    have hs1 := hb1.size
    simp only [World.size_alloc] at hs1 hsz
    have HF := Lib.hid (hF w.heap.size _ _ _ (by omega) ((HZ.out.below hb1 HZ.out.lt).alloc _))
    have HB := Lib.hid hB
    have c0 := hA.cell (k := 0) (by omega)
    have c1 := hA.cell (k := 1) (by omega)
    have c2 := hA.cell (k := 2) (by omega)
    have c3 := hA.cell (k := 3) (by omega)
    have c7 := hA.cell (k := 7) (by omega)
    have hs2 : w.heap.size + 2 ≤ W.heap.size := by omega
    have hs3 : w1.heap.size < W.heap.size := by omega
    clear hA hF hB hsz hb1
    go_wp2_with (first
      | (refine wpList_store_abs (D := w.heap.size) (w0 := w) rfl 42 (.tmp 2) (.tmp 23) rfl w.heap.size 4 (cn n) (by rfl) (by rfl) (HF.out.alloc _) sz4 (HB.out.alloc (by omega) _) (Nat.le_refl _) ?_))
    intro W2 hA2 _ _ hB2
    go_wp2
    refine ret_arr rfl rfl rfl hA2 Try.underlying42 sz4 ⟨ret_eq (congrArg Value.agg (ints_congr fun j hj => ?_)), hB2⟩
    by_cases h3 : j = 3
    · subst h3; exact E.out
    · exact cn_sg n j (by omega)
theorem mus_step (a b : Nat → Int) (i k : Nat) (hk : k < 4) (X : Int) (hX : X = mus a b (4 * i + k) (i + k) + a i * b k) (j : Nat) : upd (mus a b (4 * i + k)) (i + k) X j = mus a b (4 * i + (k + 1)) j := by
  subst hX
  show _ = mus a b ((4 * i + k) + 1) j
  unfold upd
  rw [mus, show (4 * i + k) / 4 = i from by omega, show (4 * i + k) % 4 = k from by omega]
  by_cases h : j = i + k
  · rw [if_pos h, if_pos h, h]
  · rw [if_neg h, if_neg h]
set_option maxRecDepth 100000 in
set_option maxHeartbeats 4000000 in
theorem rmul_any (n m : Int) (w : World) (hn : Fits n) (hm : Fits m) :
    Calls Try.prog 12 #[.int .i64 n, .int .i64 m] w fun e w' => e = .returned (.agg (ints 8 (cn (n * m)))) ∧ Below w.heap.size w w' := by
  have HZ := Lib.hid (Arr.new w 27 8 (fun _ => 0))
  go_enter Try.func12, Try.ntmps12
  go_wp2_with fail
  refine (signed_any n _ hn).mono ?_
  rintro e w1 ⟨rfl, hb1⟩
  have HZ1 := Lib.hid (HZ.out.below hb1 HZ.out.lt)
  have HB1 := Lib.hid (((Below.refl w.heap.size w).alloc (Nat.le_refl _) _).trans (hb1.mono (by simp)))
  have hs1 := hb1.size
  simp only [World.size_alloc] at hs1
  clear hb1
  go_wp2_with (refine wpList_store_abs (D := w.heap.size) (w0 := w) rfl 42 _ _ rfl w1.heap.size 4 (sg n) rfl rfl (Arr.new w1 _ 4 (fun _ => 0)) sz4 (HB1.out.alloc (by omega) _) (by omega) ?_)
  intro W1 hA1 hF1 hsz1 hB1
  try simp only [World.size_alloc] at hsz1
  have HA1 := Lib.hid hA1
  have HZ1' := Lib.hid (hF1 w.heap.size _ _ _ (by omega) (HZ1.out.alloc _))
  have HB1' := Lib.hid hB1
  have hs1' : w1.heap.size < W1.heap.size := by omega
  clear hA1 hF1 hB1 hsz1
  go_wp2_with fail
  refine (signed_any m _ hm).mono ?_
  rintro e w2 ⟨rfl, hb2⟩
  have HZ2 := Lib.hid (HZ1'.out.below hb2 HZ1'.out.lt)
  have HA2 := Lib.hid (HA1.out.below hb2 HA1.out.lt)
  have hs2 := hb2.size
  have HB2 := Lib.hid (HB1'.out.trans (hb2.mono (by omega)))
  clear hb2
  go_wp2_with (refine wpList_store_abs (D := w.heap.size) (w0 := w) rfl 42 _ _ rfl w2.heap.size 4 (sg m) rfl rfl (Arr.new w2 _ 4 (fun _ => 0)) sz4 (HB2.out.alloc (by omega) _) (by omega) ?_)
  intro W2 hA2 hF2 hsz2 hB2
  try simp only [World.size_alloc] at hsz2
  have HM := Lib.hid hA2
  have HN := Lib.hid (hF2 w1.heap.size _ _ _ (by omega) (HA2.out.alloc _))
  have HR := Lib.hid (hF2 w.heap.size _ _ _ (by omega) (HZ2.out.alloc _))
  have HB := Lib.hid hB2
  have hs2' : w2.heap.size < W2.heap.size := by omega
  clear hA2 hF2 hB2 hsz2
  go_wp2_with fail
  go_loopw [8] (fun i wr => ∃ k : Nat, k ≤ 4 ∧ i = .int .i64 k ∧ Arr wr w.heap.size 27 8 (fun _ => 0) ∧ Arr wr w1.heap.size 42 4 (sg n) ∧ Arr wr w2.heap.size 42 4 (sg m) ∧ Arr wr W2.heap.size 27 8 (mus (sg n) (sg m) (4 * k)) ∧ Below w.heap.size w wr) (fun i _ => 4 - (intOf i).toNat)
  case atStart => exact ⟨0, by omega, rfl, HR.out.alloc _, HN.out.alloc _, HM.out.alloc _, Arr.new W2 _ 8 (fun _ => 0), HB.out.alloc (by omega) _⟩
  case round =>
    obtain ⟨i, hi, rfl, hR, hN, hM, hA, hB⟩ := hrel
    clear HR HN HM HB HZ HZ1 HZ1' HZ2 HA1 HA2 HB1 HB1' HB2
    have HR := Lib.hid hR
    have HN := Lib.hid hN
    have HM := Lib.hid hM
    have HA := Lib.hid hA
    have HB := Lib.hid hB
    clear hR hN hM hA hB
    by_cases h4 : i = 4
    · subst h4
      have Hbd : Hid (∀ j, j ≤ 7 → -549755813888 ≤ mus (sg n) (sg m) (4 * 4) j ∧ mus (sg n) (sg m) (4 * 4) j ≤ 549755813888) := fun j _ => by
        have := mus_bd (sg n) (sg m) (sg_bd n hn) (sg_bd m hm) (4 * 4) j
        omega
      go_wp2_with (refine wpList_load_arr rfl 27 _ rfl W2.heap.size (by rfl) HA.out Try.underlying27 sz8 ?_)
      refine (even_any _ _ Hbd.out).mono ?_
      rintro e w3 ⟨rfl, hb3⟩
      have HR3 := Lib.hid (HR.out.below hb3 HR.out.lt)
      have HB3 := Lib.hid (HB.out.trans (hb3.mono HB.out.size))
      clear hb3
      go_wp2_with (refine wpList_store_abs (D := w.heap.size) (w0 := w) rfl 27 _ _ rfl w.heap.size 8 _ (by rfl) (by rfl) HR3.out sz8 HB3.out (Nat.le_refl _) ?_)
      intro W4 hA4 _ _ hB4
      go_wp2
      refine ret_arr rfl rfl rfl hA4 Try.underlying27 sz8 ⟨ret_eq (congrArg Value.agg ?_), hB4⟩
      rw [mus_tl, sg_sum, sg_sum]
    · have hlt : i < 4 := by omega
      obtain ⟨wo, rfl⟩ : ∃ wo : World, wo = wr := ⟨_, rfl⟩
      go_wp2_with fail
      go_loopw [9] (fun v wr => ∃ k : Nat, k ≤ 4 ∧ v = .int .i64 k ∧ Arr wr w.heap.size 27 8 (fun _ => 0) ∧ Arr wr w1.heap.size 42 4 (sg n) ∧ Arr wr w2.heap.size 42 4 (sg m) ∧ Arr wr W2.heap.size 27 8 (mus (sg n) (sg m) (4 * i + k)) ∧ Below w.heap.size w wr) (fun v _ => 4 - (intOf v).toNat)
      case atStart => exact ⟨0, by omega, rfl, HR.out, HN.out, HM.out, HA.out, HB.out⟩
      case round =>
        obtain ⟨k, hk, rfl, hR, hN, hM, hA, hB⟩ := hrel
        clear HR HN HM HA HB
        have HR := Lib.hid hR
        have HN := Lib.hid hN
        have HM := Lib.hid hM
        have HA := Lib.hid hA
        have HB := Lib.hid hB
        clear hR hN hM hA hB
        by_cases h5 : k = 4
        · subst h5
          go_wp2_with fail
          go_roundw
          case rel => exact ⟨i + 1, by omega, by go_num, HR.out, HN.out, HM.out, HA.out, HB.out⟩
          case measure => simp [intOf]; omega
        · have hkt : k < 4 := by omega
          have c1 := HN.out.cell (k := i) (by omega)
          have c2 := HM.out.cell (k := k) (by omega)
          have c3 := HA.out.cell (k := i + k) (by omega)
          have f3 := HA.out.free (i + k)
          have p1 := mul_bd _ _ (sg_bd n hn i) (sg_bd m hm k)
          have p2 := mus_bd (sg n) (sg m) (sg_bd n hn) (sg_bd m hm) (4 * i + k) (i + k)
          go_wp2_with fail
          go_region
          all_goals go_wp2_with fail
          go_roundw
          case rel => exact ⟨k + 1, by omega, by go_num, (HR.out.far (by simp; omega) _).drew, (HN.out.far (by simp; omega) _).drew, (HM.out.far (by simp; omega) _).drew, (HA.out.set (i + k) _).drew.congr (fun j _ => mus_step _ _ i k hkt _ rfl j), (HB.out.setCell (by simp; omega) _).drew⟩
          case measure => simp [intOf]; omega
end Go.Proofs.Ytnbgmnjmandolaa
