/-
  THE WALKS of the reference's Int, of Neg, and of the law's fits.
-/
import Derived.Test.YtnbgmnjmandolaaRefMul
namespace Go.Proofs.Ytnbgmnjmandolaa
open Go Go.RowKit NumM

theorem tl_cn (v : Int) : tl (cn v) 0 8 = v := by
  have := cn_sum v
  simp only [tl, Nat.zero_add, Nat.reduceAdd]
  omega
/-- what Int answers -/
def intV (v : Int) : Value := if Fits v then .tuple #[.int .i64 v, .bool true] else .tuple #[.int .i64 0, .bool false]
theorem intV_fits {v : Int} (h : Fits v) : intV v = .tuple #[.int .i64 v, .bool true] := if_pos h
theorem intV_not {v : Int} (h : ¬ Fits v) : intV v = .tuple #[.int .i64 0, .bool false] := if_neg h
theorem tupb {x x' : Int} {b : Bool} (h1 : x = x') : Ending.returned (.tuple #[.int .i64 x, .bool b]) = .returned (.tuple #[.int .i64 x', .bool b]) := by rw [h1]
set_option maxRecDepth 100000 in
set_option maxHeartbeats 4000000 in
theorem int_fits (v : Int) (w : World) (hv : Fits v) :
    Calls Try.prog 27 #[.agg (ints 8 (cn v))] w fun e w' => e = .returned (.tuple #[.int .i64 v, .bool true]) ∧ Below w.heap.size w w' := by
  have hN := Arr.new w 27 8 (cn v)
  have b0 := cn_lo v 0 (by omega)
  have b1 := cn_lo v 1 (by omega)
  have b2 := cn_lo v 2 (by omega)
  have b3 := cn_lo v 3 (by omega)
  have c0 := hN.cell (k := 0) (by omega)
  have c1 := hN.cell (k := 1) (by omega)
  have c2 := hN.cell (k := 2) (by omega)
  have c3 := hN.cell (k := 3) (by omega)
  have c4 := hN.cell (k := 4) (by omega)
  have c5 := hN.cell (k := 5) (by omega)
  have c6 := hN.cell (k := 6) (by omega)
  have c7 := hN.cell (k := 7) (by omega)
  clear hN
  rcases fits_pieces v hv with ⟨h3, h4, h5, h6, h7⟩ | ⟨h3, h4, h5, h6, h7⟩
  · have E := Lib.hid (pieces_lo v h3 h4 h5 h6 h7).2
    rw [h4] at c4
    rw [h5] at c5
    rw [h6] at c6
    rw [h7] at c7
    clear h4 h5 h6 h7
    go_enter Try.func27, Try.ntmps27
    go_wp2_with fail
    refine wp_loop_rounds 4 ?_
    repeat (rw [rounds_succ]; go_wp2_with fail)
    go_ret2
    exact ⟨tupb E.out, (Below.refl _ _).alloc (Nat.le_refl _) _⟩
  · have E := Lib.hid (pieces_hi v h3 h4 h5 h6 h7).2
    rw [h4] at c4
    rw [h5] at c5
    rw [h6] at c6
    rw [h7] at c7
    clear h4 h5 h6 h7
    go_enter Try.func27, Try.ntmps27
    go_wp2_with fail
    refine wp_loop_rounds 4 ?_
    repeat (rw [rounds_succ]; go_wp2_with fail)
    go_ret2
    exact ⟨tupb E.out, (Below.refl _ _).alloc (Nat.le_refl _) _⟩
set_option maxRecDepth 100000 in
set_option maxHeartbeats 8000000 in
theorem int_not (v : Int) (w : World) (hv : ¬ Fits v) :
    Calls Try.prog 27 #[.agg (ints 8 (cn v))] w fun e w' => e = .returned (.tuple #[.int .i64 0, .bool false]) ∧ Below w.heap.size w w' := by
  have hN := Arr.new w 27 8 (cn v)
  have c3 := hN.cell (k := 3) (by omega)
  have c4 := hN.cell (k := 4) (by omega)
  have c5 := hN.cell (k := 5) (by omega)
  have c6 := hN.cell (k := 6) (by omega)
  have c7 := hN.cell (k := 7) (by omega)
  clear hN
  by_cases h3 : cn v 3 < 32768
  · by_cases h4 : cn v 4 = 0
    · have t4 : (cn v 4 != 0) = false := by simpa using h4
      by_cases h5 : cn v 5 = 0
      · have t5 : (cn v 5 != 0) = false := by simpa using h5
        by_cases h6 : cn v 6 = 0
        · have t6 : (cn v 6 != 0) = false := by simpa using h6
          have t7 : (cn v 7 != 0) = true := by rw [bne_iff_ne]; intro h7; exact hv (pieces_lo v h3 h4 h5 h6 h7).1
          clear h4 h5 h6 hv
          go_enter Try.func27, Try.ntmps27
          go_wp2_with fail
          refine wp_loop_rounds 4 ?_
          repeat (rw [rounds_succ]; go_wp2_with fail)
          go_ret2
          exact ⟨rfl, (Below.refl _ _).alloc (Nat.le_refl _) _⟩
        · have t6 : (cn v 6 != 0) = true := by simpa using h6
          clear h4 h5 h6 hv
          go_enter Try.func27, Try.ntmps27
          go_wp2_with fail
          refine wp_loop_rounds 4 ?_
          repeat (rw [rounds_succ]; go_wp2_with fail)
          go_ret2
          exact ⟨rfl, (Below.refl _ _).alloc (Nat.le_refl _) _⟩
      · have t5 : (cn v 5 != 0) = true := by simpa using h5
        clear h4 h5 hv
        go_enter Try.func27, Try.ntmps27
        go_wp2_with fail
        refine wp_loop_rounds 4 ?_
        repeat (rw [rounds_succ]; go_wp2_with fail)
        go_ret2
        exact ⟨rfl, (Below.refl _ _).alloc (Nat.le_refl _) _⟩
    · have t4 : (cn v 4 != 0) = true := by simpa using h4
      clear h4 hv
      go_enter Try.func27, Try.ntmps27
      go_wp2_with fail
      refine wp_loop_rounds 4 ?_
      repeat (rw [rounds_succ]; go_wp2_with fail)
      go_ret2
      exact ⟨rfl, (Below.refl _ _).alloc (Nat.le_refl _) _⟩
  · by_cases h4 : cn v 4 = 65535
    · have t4 : (cn v 4 != 65535) = false := by simpa using h4
      by_cases h5 : cn v 5 = 65535
      · have t5 : (cn v 5 != 65535) = false := by simpa using h5
        by_cases h6 : cn v 6 = 65535
        · have t6 : (cn v 6 != 65535) = false := by simpa using h6
          have t7 : (cn v 7 != (-1)) = true := by rw [bne_iff_ne]; intro h7; exact hv (pieces_hi v (by omega) h4 h5 h6 h7).1
          clear h4 h5 h6 hv
          go_enter Try.func27, Try.ntmps27
          go_wp2_with fail
          refine wp_loop_rounds 4 ?_
          repeat (rw [rounds_succ]; go_wp2_with fail)
          go_ret2
          exact ⟨rfl, (Below.refl _ _).alloc (Nat.le_refl _) _⟩
        · have t6 : (cn v 6 != 65535) = true := by simpa using h6
          clear h4 h5 h6 hv
          go_enter Try.func27, Try.ntmps27
          go_wp2_with fail
          refine wp_loop_rounds 4 ?_
          repeat (rw [rounds_succ]; go_wp2_with fail)
          go_ret2
          exact ⟨rfl, (Below.refl _ _).alloc (Nat.le_refl _) _⟩
      · have t5 : (cn v 5 != 65535) = true := by simpa using h5
        clear h4 h5 hv
        go_enter Try.func27, Try.ntmps27
        go_wp2_with fail
        refine wp_loop_rounds 4 ?_
        repeat (rw [rounds_succ]; go_wp2_with fail)
        go_ret2
        exact ⟨rfl, (Below.refl _ _).alloc (Nat.le_refl _) _⟩
    · have t4 : (cn v 4 != 65535) = true := by simpa using h4
      clear h4 hv
      go_enter Try.func27, Try.ntmps27
      go_wp2_with fail
      refine wp_loop_rounds 4 ?_
      repeat (rw [rounds_succ]; go_wp2_with fail)
      go_ret2
      exact ⟨rfl, (Below.refl _ _).alloc (Nat.le_refl _) _⟩
end Go.Proofs.Ytnbgmnjmandolaa
