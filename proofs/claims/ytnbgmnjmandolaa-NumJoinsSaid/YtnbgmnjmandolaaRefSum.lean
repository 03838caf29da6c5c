/-
  THE WALK of the reference's Sum.
-/
import Derived.Test.YtnbgmnjmandolaaNumAdd
namespace Go.Proofs.Ytnbgmnjmandolaa
open Go Go.RowKit NumM

theorem sm_bd (z : Nat → Int) (k : Nat) : (∀ j, j < k → Fits (z j)) → -9223372036854775808 * (k : Int) ≤ sm z k ∧ sm z k ≤ 9223372036854775808 * (k : Int) := by
  induction k with
  | zero => intro _; simp [sm]
  | succ k ih =>
    intro h
    have h1 := ih (fun j hj => h j (by omega))
    have h2 := h k (by omega)
    unfold Fits at h2
    unfold sm
    omega
theorem cn0 : ints 8 (fun _ => 0) = ints 8 (cn 0) := ints_congr fun j _ => by
  have h : ∀ k, dv 0 k = 0 := fun k => by
    induction k with
    | zero => rfl
    | succ k ih => rw [dv, ih]; rfl
  unfold cn; rw [h, h]; split <;> rfl
set_option maxRecDepth 100000 in
set_option maxHeartbeats 2000000 in
theorem rsum_some (z : Nat → Int) (len cap b off : Nat) (w : World) (hlen : len ≤ 40) (hpos : 0 < len) (hb : b < w.heap.size) (hz : ∀ k, k < len → Fits (z k)) (hc : ∀ k, k < len → w.cell? ⟨b, off + k, none⟩ = some (.int .i64 (z k))) :
    Calls Try.prog 20 #[.slice (some ⟨b, off, none⟩) len cap] w fun e w' => e = .returned (.agg (ints 8 (cn (sm z len)))) ∧ Below w.heap.size w w' := by
  have HC := Lib.hid hc
  have HZ := Lib.hid hz
  clear hc hz
  go_enter Try.func20, Try.ntmps20
  go_wp2_with fail
  go_loopw [4] (fun i wr => ∃ k : Nat, k ≤ len ∧ i = .int .i64 k ∧ Arr wr w.heap.size 27 8 (fun _ => 0) ∧ Arr wr (w.heap.size + 1) 27 8 (cn (sm z k)) ∧ Below w.heap.size w wr) (fun i _ => len - (intOf i).toNat)
  case atStart =>
    have h3 := Arr.new (w.alloc (.cells (ints 8 (fun _ => 0)) 27)) 27 8 (cn 0)
    rw [← cn0, World.size_alloc] at h3
    exact ⟨0, by omega, rfl, (Arr.new w 27 8 (fun _ => 0)).alloc _, h3, ((Below.refl _ _).alloc (Nat.le_refl _) _).alloc (by simp) _⟩
  case round =>
    obtain ⟨k, hk, rfl, hR, hA, hB⟩ := hrel
    have HA := Lib.hid hA
    have HR := Lib.hid hR
    have HB := Lib.hid hB
    clear hA hR hB
    by_cases hlt : k < len
    · have c0 : wr.cell? ⟨b, off + k, none⟩ = some (.int .i64 (z k)) := (HB.out.cell (p := ⟨b, off + k, none⟩) hb).trans (HC.out k hlt)
      have hzk := HZ.out k hlt
      have Hs : Hid (-649037107316853453566312041152512 * 1048576 ≤ sm z k ∧ sm z k ≤ 649037107316853453566312041152511 * 1048576) := by
        have := sm_bd z k (fun j hj => HZ.out j (by omega))
        exact ⟨by omega, by omega⟩
      have Hk : Hid (-649037107316853453566312041152512 * 1048576 ≤ z k ∧ z k ≤ 649037107316853453566312041152511 * 1048576) := by
        unfold Fits at hzk
        exact ⟨by omega, by omega⟩
      have ne := bw_ne wr
      have bc := bw_cell c0
      go_wp2_with fail
      refine wp_region_bw_tail 7 (by kernel_rfl) (by kernel_rfl) ?_
      simp only [List.take_succ_cons, List.take_zero, List.drop_succ_cons, List.drop_zero]
      refine BigFrame.wpQuiet_want rfl (fun K hK => quiet_load_arr 27 _ rfl (w.heap.size + 1) (by rfl) (fun w' ⟨v, hv⟩ => by rw [hv]; exact bw_arr HA.out v) Try.underlying27 sz8 (hK _ ?_))
      clear hK K
      go_simp
      repeat (go_big_quiet_step (first
        | (go_at_call 13; exact calls_bw (of_any _ _ hzk))
        | (go_at_call 11; exact calls_bw (add_any _ _ _ (fun j _ => cn_bd _ Hs.out j) (fun j _ => cn_bd _ Hk.out j)))))
      refine wpQuiet_nil ?_
      intro v
      rw [tl_cn, tl_cn]
      have HR1 := Lib.hid (bw_arr HR.out v)
      have HA1 := Lib.hid (bw_arr HA.out v)
      have HB1 := Lib.hid (HB.out.trans (v.2.mono HB.out.size))
      go_wp2_with (refine wpList_store_abs (D := w.heap.size) (w0 := w) rfl 27 _ _ rfl (w.heap.size + 1) 8 _ (by rfl) (by rfl) HA1.out sz8 HB1.out (by omega) ?_)
      intro W4 hA4 hF4 _ hB4
      have HR4 := Lib.hid (hF4 w.heap.size _ _ _ (by omega) HR1.out)
      have HA4 := Lib.hid hA4
      have HB4 := Lib.hid hB4
      clear hA4 hF4 hB4
      go_wp2_with fail
      go_roundw
      case rel => exact ⟨k + 1, by omega, by go_num, HR4.out, HA4.out, HB4.out⟩
      case measure => simp [intOf]; omega
    · obtain rfl : k = len := by omega
      go_wp2_with (first
        | (refine wpList_load_arr rfl 27 _ rfl (w.heap.size + 1) (by rfl) HA.out Try.underlying27 sz8 ?_)
        | (refine wpList_store_abs (D := w.heap.size) (w0 := w) rfl 27 _ _ rfl w.heap.size 8 _ (by rfl) (by rfl) HR.out sz8 HB.out (Nat.le_refl _) ?_))
      intro W4 hA4 _ _ hB4
      go_wp2
      exact ret_arr rfl rfl rfl hA4 Try.underlying27 sz8 ⟨rfl, hB4⟩
end Go.Proofs.Ytnbgmnjmandolaa
