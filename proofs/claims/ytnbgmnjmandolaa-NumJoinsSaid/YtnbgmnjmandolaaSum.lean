/-
  THE WALKS of num.Sum and what it calls: split, the closure put, joined.
-/
import Derived.Test.YtnbgmnjmandolaaNumWalks
import Derived.Test.YtnbgmnjmandolaaMem
import Derived.Handy
namespace Go.Proofs.Ytnbgmnjmandolaa
open Go Go.RowKit NumM

/-- a number, if it fits -/
def sumV (n : Int) : Value := if Fits n then .tuple #[.int .i64 n, .int .i64 0] else .tuple #[.int .i64 0, .int .i64 11]
theorem sumV_fits {n : Int} (h : Fits n) : sumV n = .tuple #[.int .i64 n, .int .i64 0] := if_pos h
theorem sumV_not {n : Int} (h : ¬ Fits n) : sumV n = .tuple #[.int .i64 0, .int .i64 11] := if_neg h
def two (a b : Int) : Nat → Int := fun j => if j = 0 then a else b
theorem sz2 : (Try.prog.info? 38).map (·.size) = some 2 := by kernel_rfl
set_option maxHeartbeats 1000000 in
theorem split_any (n : Int) (w : World) :
    Calls Try.prog 25 #[.int .i64 n] w fun e w' => e = .returned (.agg (ints 2 (two (n / 4294967296) (n % 4294967296)))) ∧ Below w.heap.size w w' := by
  have hm := and_mask n
  go_enter Try.func25, Try.ntmps25
  go_wp2
  refine ret_arr (t := 38) (f := two (n / 4294967296) (n % 4294967296)) (n := 2) (B := w.heap.size) rfl rfl rfl ?_ Try.underlying38 sz2 ⟨rfl, (Below.refl _ _).alloc (Nat.le_refl _) _⟩
  exact Arr.new w 38 2 (two (n / 4294967296) (n % 4294967296))
set_option maxHeartbeats 1000000 in
theorem put_any (a b h l : Int) (B : Nat) (w : World) (hH : Arr w B 3 1 (fun _ => h)) (hL : Arr w (B + 1) 3 1 (fun _ => l)) (h1 : -1099511627776 ≤ h ∧ h ≤ 1099511627776) (h2 : -1099511627776 ≤ l ∧ l ≤ 1099511627776) (h3 : -1099511627776 ≤ a ∧ a ≤ 1099511627776) (h4 : -1099511627776 ≤ b ∧ b ≤ 1099511627776) :
    Calls Try.prog 24 #[.agg (ints 2 (two a b)), .pointer (some ⟨B, 0, none⟩), .pointer (some ⟨B + 1, 0, none⟩)] w fun e w' => e = .returned (.tuple #[]) ∧ Arr w' B 3 1 (fun _ => h + a) ∧ Arr w' (B + 1) 3 1 (fun _ => l + b) ∧ Below B w w' := by
  have c1 := hH.cell (k := 0) (by omega)
  have c2 := hL.cell (k := 0) (by omega)
  have f1 := hH.free 0
  have f2 := hL.free 0
  have s1 := hH.lt
  have s2 := hL.lt
  have HH := Lib.hid hH
  have HL := Lib.hid hL
  clear hH hL
  rw [show ints 2 (two a b) = #[.int .i64 (two a b 0), .int .i64 (two a b 1)] from rfl, show two a b 0 = a from rfl, show two a b 1 = b from rfl]
  go_enter Try.func24, Try.ntmps24
  go_wp2
  go_end0
  exact ⟨rfl, ((HH.out.set 0 _).far (by simp) _).alloc _ |>.congr (fun j hj => by simp [upd]; omega), (((HL.out.far (by simp) _).set 0 _).alloc _).congr (fun j hj => by simp [upd]; omega), ((((Below.refl B w).setCell (by simp) _).setCell (by simp) _).alloc (by simp; omega) _)⟩
set_option maxHeartbeats 1000000 in
theorem joined_any (h l : Int) (w : World) (hl : 0 ≤ l) (hl2 : l < 4294967296) (hh : -1099511627776 ≤ h ∧ h ≤ 1099511627776) :
    Calls Try.prog 26 #[.int .i64 h, .int .i64 l] w fun e w' => e = .returned (sumV (h * 4294967296 + l)) ∧ w = w' := by
  have e1 : l / 4294967296 = 0 := by omega
  by_cases hf : Fits (h * 4294967296 + l)
  · rw [sumV_fits hf]
    have hm := and_mask l
    unfold Fits at hf
    have hb : -2147483648 ≤ h ∧ h ≤ 2147483647 := by omega
    have hj := or_join h l hl hl2 hb.1 hb.2
    have hl3 : l % 4294967296 = l := by omega
    go_enter Try.func26, Try.ntmps26
    go_wp2
    go_ret2
    exact ⟨rfl, rfl⟩
  · rw [sumV_not hf]
    unfold Fits at hf
    have hb : ¬ (-2147483648 ≤ h ∧ h ≤ 2147483647) := by omega
    have hw : (h != wrap64 (wrap32 h)) = true := by
      rw [bne_iff_ne]; unfold wrap64 wrap32; omega
    go_enter Try.func26, Try.ntmps26
    go_wp2
    go_ret2
    exact ⟨rfl, rfl⟩
/-- the sum of the first k -/
def sm (z : Nat → Int) : Nat → Int
  | 0 => 0
  | k + 1 => sm z k + z k
set_option maxRecDepth 100000 in
set_option maxHeartbeats 2000000 in
theorem sum_some (z : Nat → Int) (len cap b off : Nat) (w : World) (hlen : len ≤ 40) (hpos : 0 < len) (hb : b < w.heap.size) (hz : ∀ k, k < len → Fits (z k)) (hc : ∀ k, k < len → w.cell? ⟨b, off + k, none⟩ = some (.int .i64 (z k))) :
    Calls Try.prog 17 #[.slice (some ⟨b, off, none⟩) len cap] w fun e w' => e = .returned (sumV (sm z len)) ∧ Below w.heap.size w w' := by
  have HC := Lib.hid hc
  have HZ := Lib.hid hz
  clear hc hz
  go_enter Try.func17, Try.ntmps17
  go_wp2_with fail
  go_step3
  go_wp2_with fail
  go_step3
  go_wp2_with fail
  go_loopw [12] (fun i wr => ∃ (k : Nat) (h l : Int), k ≤ len ∧ i = .int .i64 k ∧ Arr wr w.heap.size 3 1 (fun _ => h) ∧ Arr wr (w.heap.size + 1) 3 1 (fun _ => l) ∧ Below w.heap.size w wr ∧ 0 ≤ l ∧ l < 4294967296 ∧ -2147483649 * (k : Int) ≤ h ∧ h ≤ 2147483649 * (k : Int) ∧ Hid (h * 4294967296 + l = sm z k)) (fun i _ => len - (intOf i).toNat)
  case atStart =>
    have h2 := Arr.new (w.alloc (.cells (ints 1 (fun _ => 0)) 3)) 3 1 (fun _ => 0)
    simp only [World.size_alloc] at h2
    exact ⟨0, 0, 0, by omega, rfl, (Arr.new w 3 1 (fun _ => 0)).alloc _, h2, ((Below.refl _ _).alloc (Nat.le_refl _) _).alloc (by simp) _, by omega, by omega, by omega, by omega, rfl⟩
  case round =>
    obtain ⟨k, h, l, hk, rfl, hH, hL, hB, l1, l2, g1, g2, hS⟩ := hrel
    have HH := Lib.hid hH
    have HL := Lib.hid hL
    have HB := Lib.hid hB
    clear hH hL hB
    by_cases hlt : k < len
    · have c0 : wr.cell? ⟨b, off + k, none⟩ = some (.int .i64 (z k)) := (HB.out.cell (p := ⟨b, off + k, none⟩) hb).trans (HC.out k hlt)
      have hzk := HZ.out k hlt
      unfold Fits at hzk
      go_wp2_with fail
      refine (split_any (z k) _).mono ?_
      rintro e w1 ⟨rfl, hb1⟩
      go_wp2_with fail
      refine (put_any (z k / 4294967296) (z k % 4294967296) h l w.heap.size _ (HH.out.below hb1 HH.out.lt) (HL.out.below hb1 HL.out.lt) (by omega) (by omega) (by omega) (by omega)).mono ?_
      rintro e w2 ⟨rfl, hH2, hL2, hB2⟩
      have HB2 := Lib.hid ((HB.out.trans (hb1.mono HB.out.size)).trans hB2)
      have HH2 := Lib.hid hH2
      have HL2 := Lib.hid hL2
      have c1 := hH2.cell (k := 0) (by omega)
      have c2 := hL2.cell (k := 0) (by omega)
      have f1 := hH2.free 0
      have f2 := hL2.free 0
      clear hH2 hL2 hB2 hb1 HH HL HB
      by_cases hc : l + z k % 4294967296 < 4294967296
      · have t1 : ((l + z k % 4294967296) / 4294967296 == 0) = true := by rw [beq_iff_eq]; omega
        go_wp2_with fail
        go_roundw
        case rel => exact ⟨k + 1, h + z k / 4294967296, l + z k % 4294967296, by omega, by go_num, HH2.out, HL2.out, HB2.out, by omega, by omega, by omega, by omega, by have := hS.out; show (h + z k / 4294967296) * 4294967296 + (l + z k % 4294967296) = sm z k + z k; omega⟩
        case measure => simp [intOf]; omega
      · have t1 : ((l + z k % 4294967296) / 4294967296 == 0) = false := by rw [beq_eq_false_iff_ne]; omega
        have hm := and_mask (l + z k % 4294967296)
        go_wp2_with fail
        go_roundw
        case rel => exact ⟨k + 1, h + z k / 4294967296 + (l + z k % 4294967296) / 4294967296, (l + z k) % 4294967296, by omega, by go_num, ((HH2.out.set 0 _).far (by simp) _).congr (fun j hj => by simp [upd]; omega), ((HL2.out.far (by simp) _).set 0 _).congr (fun j hj => by simp [upd]; omega), (HB2.out.setCell (by simp) _).setCell (by simp) _, by omega, by omega, by omega, by omega, by have := hS.out; show (h + z k / 4294967296 + (l + z k % 4294967296) / 4294967296) * 4294967296 + (l + z k) % 4294967296 = sm z k + z k; omega⟩
        case measure => simp [intOf]; omega
    · have hk' : k = len := by omega
      subst hk'
      have c1 := HH.out.cell (k := 0) (by omega)
      have c2 := HL.out.cell (k := 0) (by omega)
      go_wp2_with fail
      refine (joined_any h l _ l1 l2 (by omega)).mono ?_
      rintro e w3 ⟨rfl, rfl⟩
      rw [hS.out]
      by_cases hf : Fits (sm z k)
      · rw [sumV_fits hf]
        go_wp2_with fail
        rw [Exit.noGoto_ret]
        go_ret2
        exact ⟨ret_eq (sumV_fits hf).symm, HB.out⟩
      · rw [sumV_not hf]
        go_wp2_with fail
        rw [Exit.noGoto_ret]
        go_ret2
        exact ⟨ret_eq (sumV_not hf).symm, HB.out⟩
end Go.Proofs.Ytnbgmnjmandolaa
