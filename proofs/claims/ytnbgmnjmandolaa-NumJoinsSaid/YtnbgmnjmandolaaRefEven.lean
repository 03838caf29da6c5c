/-
  THE WALK of the reference's even: it brings eight pieces into their bounds.
-/
import Derived.Test.YtnbgmnjmandolaaNumWalks
import Derived.Test.YtnbgmnjmandolaaMem
import Derived.RegionTactic
import Derived.ChangeAlike
import Derived.BigRegion
import Derived.Handy
namespace Go.Proofs.Ytnbgmnjmandolaa
open Go Go.RowKit NumM

theorem sz8 : (Try.prog.info? 27).map (·.size) = some 8 := by kernel_rfl
theorem evn_step (x : Nat → Int) (k : Nat) (X Y : Int) (hX : X = evn x k (k + 1) + evn x k k / 65536) (hY : Y = evn x k k % 65536) (j : Nat) : upd (upd (evn x k) (k + 1) X) k Y j = evn x (k + 1) j := by
  subst hX hY
  show (if j = k then _ else if j = k + 1 then _ else _) = _
  rw [evn_next]
set_option maxRecDepth 100000 in
set_option maxHeartbeats 1000000 in
theorem even_any (x : Nat → Int) (w : World) (hx : ∀ j, j ≤ 7 → -549755813888 ≤ x j ∧ x j ≤ 549755813888) :
    Calls Try.prog 21 #[.agg (ints 8 x)] w fun e w' => e = .returned (.agg (ints 8 (cn (tl x 0 8)))) ∧ Below w.heap.size w w' := by
  have Hx := Lib.hid (evn_bd x hx)
  clear hx
  go_enter Try.func21, Try.ntmps21
  go_wp2
  go_loopw [3] (fun i wr => ∃ k : Nat, k ≤ 7 ∧ i = .int .i64 k ∧ Arr wr w.heap.size 27 8 (evn x k) ∧ Arr wr (w.heap.size + 1) 27 8 (fun _ => 0) ∧ Below w.heap.size w wr) (fun i _ => 7 - (intOf i).toNat)
  case atStart =>
    refine ⟨0, by omega, rfl, (Arr.new w _ 8 x).alloc _, ?_, ((Below.refl _ _).alloc (Nat.le_refl _) _).alloc (by simp) _⟩
    have := Arr.new (w.alloc (.cells (ints 8 x) 27)) 27 8 (fun _ => 0)
    rwa [World.size_alloc] at this
  case round =>
    obtain ⟨k, hk, rfl, hA, hZ, hB⟩ := hrel
    by_cases h7 : k = 7
    · subst h7
      have HA := Lib.hid hA
      have HZ := Lib.hid hZ
      clear hA hZ
      go_wp2_with (first
        | (refine wpList_load_arr rfl 27 _ rfl w.heap.size rfl HA.out Try.underlying27 sz8 ?_)
        | (refine wpList_store_arr rfl 27 _ _ rfl (w.heap.size + 1) 8 (evn x 7) rfl rfl HZ.out sz8 ?_))
      exact ret_arr rfl rfl rfl (HZ.out.setRow _) Try.underlying27 sz8 ⟨ret_eq (congrArg Value.agg (ints_congr (evn_cn x))), below_setRow hB (by omega) _⟩
    · have HA := Lib.hid hA
      have HZ := Lib.hid hZ
      have c0 := hA.cell (k := k) (by omega)
      have c1 := hA.cell (k := k + 1) (by omega)
      have f0 := hA.free k
      have f1 := hA.free (k + 1)
      clear hA hZ
      have b0 := Hx.out k k (by omega) (by omega)
      have b1 := Hx.out k (k + 1) (by omega) (by omega)
      have lb := low_bd (evn x k k)
      have hlt : k < 7 := by omega
      by_cases hn : (evn x k k).tmod 65536 < 0
      · go_wp2
        go_region
        all_goals go_wp2
        go_roundw
        case rel =>
          have l := low_neg _ hn
          refine ⟨k + 1, by omega, by go_num, ((HA.out.set (k + 1) _).set k _).drew.congr (fun j _ => evn_step x k _ _ ?_ l.1 j), ((HZ.out.far (by simp) _).far (by simp) _).drew, ((hB.setCell (by simp) _).setCell (by simp) _).drew⟩
          rw [l.2]
          exact IntWalk.wrap64_in _ ⟨by omega, by omega⟩
        case measure => simp [intOf]; omega
      · go_wp2
        go_region
        all_goals go_wp2
        go_roundw
        case rel =>
          have l := low_pos (evn x k k) (by omega)
          refine ⟨k + 1, by omega, by go_num, ((HA.out.set (k + 1) _).set k _).drew.congr (fun j _ => evn_step x k _ _ ?_ l.1 j), ((HZ.out.far (by simp) _).far (by simp) _).drew, ((hB.setCell (by simp) _).setCell (by simp) _).drew⟩
          rw [l.2]
          exact IntWalk.wrap64_in _ ⟨by omega, by omega⟩
        case measure => simp [intOf]; omega
end Go.Proofs.Ytnbgmnjmandolaa
