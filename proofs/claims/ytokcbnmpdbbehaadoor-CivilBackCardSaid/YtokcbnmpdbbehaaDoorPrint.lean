/-
  THE WALK of civil.Print: which text a date is.
-/
import Derived.Test.YtokcbnmpdbbehaaDoorRefDays
import Derived.Test.YtokcbnmpdbbehaaDoorShelf
import Derived.Test.YtokcbnmpdbbehaaDoorTail
import Derived.Laws.StructEq
import Derived.Lib.AppendIntMem
namespace Go.Proofs.YtokcbnmpdbbehaaDoor
open Go Go.RowKit CivM NumM

def Pow (w : World) : Prop := Lib.TabIs Tryd.prog w "internal/strconv.uint64pow10" .u64 Lib.pow10Tab
theorem ba_app (a b : List UInt8) : (⟨a.toArray⟩ : ByteArray) ++ ⟨b.toArray⟩ = ⟨(a ++ b).toArray⟩ := by
  apply ByteArray.ext
  simp
theorem Pow.below {w w' : World} (h : Pow w) (hb : Below w.heap.size w w') : Pow w' := Lib.tabBelow_of_tabIs h w' hb
/-- a number's digits, so many at least -/
def pad (n : Int) (k : Nat) : List UInt8 := Lib.repeatL [48] (k - (Lib.itoa n).length) ++ Lib.itoa n
theorem dd_len (k : Nat) : ∀ u, u < 10 ^ (k + 1) → (Lib.decDigits u).length ≤ k + 1 := by
  induction k with
  | zero => intro u h; rw [Lib.decDigits, dif_pos (by simpa using h)]; simp
  | succ k ih =>
    intro u h
    rw [Lib.decDigits]
    split
    · simp
    · have := ih (u / 10) (by rw [Nat.pow_succ] at h; omega)
      simp; omega
theorem itoa_len (n : Int) (h1 : 0 ≤ n) (h2 : n ≤ 1000000) : (Lib.itoa n).length ≤ 7 := by
  unfold Lib.itoa
  rw [if_neg (by omega)]
  exact dd_len 6 _ (by show _ < 10000000; omega)
theorem pad_len (n : Int) (k : Nat) (h1 : 0 ≤ n) (h2 : n ≤ 1000000) (hk : k ≤ 10) : (pad n k).length ≤ 17 := by
  unfold pad
  rw [List.length_append, Lib.repeatL_length]
  have := itoa_len n h1 h2
  show _ * 1 + _ ≤ _
  omega
theorem digits_any (n : Int) (k : Nat) (w : World) (hP : Pow w) (h1 : 0 ≤ n) (h2 : n ≤ 1000000) (hk : k ≤ 10) :
    Calls Tryd.prog 30 #[.int .i64 n, .int .i64 k] w fun e w' => e = .returned (.string ⟨(pad n k).toArray⟩) ∧ Below w.heap.size w w' := by
  have HP := Lib.hid hP
  clear hP
  go_enter Tryd.func30, Tryd.ntmps30
  go_wp2_with fail
  refine (Tryd.strconv_Itoa n (by omega) (by omega) _ HP.out).mono ?_
  rintro e w' ⟨rfl, kk, os, rfl⟩
  have HB1 := Lib.hid (Lib.below_grow w.heap.size w (Nat.le_refl _) kk os)
  have hl := itoa_len n h1 h2
  have EP := Lib.hid (show pad n k = Lib.repeatL [48] (k - (Lib.itoa n).length) ++ Lib.itoa n from rfl)
  generalize Lib.itoa n = l at *
  generalize Sort.grow (w.drewN kk) os = w1 at *
  have hr : (Lib.repeatL [48] (k - l.length)).length ≤ 10 := by rw [Lib.repeatL_length]; show _ * 1 ≤ _; omega
  have EM := Lib.hid (show max 0 ((k : Int) - (l.length : Int)) = ((k - l.length : Nat) : Int) by omega)
  go_wp2_with fail
  rw [EM.out]
  refine (Tryd.strings_Repeat ⟨#[48]⟩ (k - l.length) _ (by omega) (by show 1 * _ ≤ _; omega)).mono ?_
  rintro e w2 ⟨rfl, hb2⟩
  have HB2 := Lib.hid (HB1.out.trans (hb2.mono HB1.out.size))
  clear hb2
  go_wp2_with fail
  go_ret
  exact ⟨by rw [EP.out]; simp [ba_app], HB2.out⟩
/-- a date's text -/
def dtext (y m d : Int) : List UInt8 := (if y < 0 then [45] else []) ++ pad (max y (-y)) 4 ++ [45] ++ pad m 2 ++ [45] ++ pad d 2
set_option maxHeartbeats 4000000 in
theorem print_ok (y m d : Int) (w : World) (hA : Ahead w) (hP : Pow w) (h : Valid y m d) :
    Calls Tryd.prog 20 #[.agg #[.int .i64 y, .int .i64 m, .int .i64 d]] w fun e w' => e = .returned (.tuple #[.string ⟨(dtext y m d).toArray⟩, .int .i64 0]) ∧ Below w.heap.size w w' := by
  have HAw := Lib.hid hA
  have HPw := Lib.hid hP
  have HV := Lib.hid h
  obtain ⟨y1, y2, m1, m2, d1, d2⟩ := h
  have m0 : (m == 0) = false := by simp; omega
  go_enter Tryd.func20, Tryd.ntmps20
  have HB0 := Lib.hid ((Below.refl w.heap.size w).alloc (Nat.le_refl _) (.cells #[.int .i64 y, .int .i64 m, .int .i64 d] 23))
  have HA0 := Lib.hid (HAw.out.below HB0.out)
  have HD0 := Lib.hid (Dt.new w y m d)
  go_wp2_with fail
  refine (check_ok y m d _ HA0.out HV.out).mono ?_
  rintro e w1 ⟨rfl, hb⟩
  have HBw1 := Lib.hid (HB0.out.trans (hb.mono HB0.out.size))
  have HAw1 := Lib.hid (HA0.out.below hb)
  have HDw1 := Lib.hid (HD0.out.below hb HD0.out.lt)
  obtain ⟨c0, c1, c2⟩ := HDw1.out.cells
  clear hb
  have HP1 := Lib.hid (HPw.out.below HBw1.out)
  have W1 : IntKind.i64.wrap (-y) = -y := IntWalk.i64_in _ (by omega)
  have ne := bw_ne w1
  have C0 := bw_cell c0
  have C1 := bw_cell c1
  have C2 := bw_cell c2
  have G1 := Lib.hid (fun v (h : Pow v) => digits_any (max y (-y)) 4 v h (by omega) (by omega) (by omega))
  have G2 := Lib.hid (fun v (h : Pow v) => digits_any m 2 v h (by omega) (by omega) (by omega))
  have G3 := Lib.hid (fun v (h : Pow v) => digits_any d 2 v h (by omega) (by have := dim_bd y m; omega) (by omega))
  have l1 := pad_len (max y (-y)) 4 (by omega) (by omega) (by omega)
  have l2 := pad_len m 2 (by omega) (by omega) (by omega)
  have l3 := pad_len d 2 (by omega) (by have := dim_bd y m; omega) (by omega)
  have ED := Lib.hid (show dtext y m d = (if y < 0 then [45] else []) ++ pad (max y (-y)) 4 ++ [45] ++ pad m 2 ++ [45] ++ pad d 2 from rfl)
  generalize pad (max y (-y)) 4 = A at *
  generalize pad m 2 = B at *
  generalize pad d 2 = C at *
  by_cases hy : y < 0
  ·
    go_wp2_with fail
    refine wp_region_bw (by kernel_rfl) (by kernel_rfl) ?_
    repeat (go_big_quiet_step (fail))
    go_big_quiet_step (exact calls_bw (G1.out _ (HP1.out.below (Subtype.property _))))
    repeat (go_big_quiet_step (fail))
    go_big_quiet_step (exact calls_bw (G2.out _ (HP1.out.below (Subtype.property _))))
    repeat (go_big_quiet_step (fail))
    go_big_quiet_step (exact calls_bw (G3.out _ (HP1.out.below (Subtype.property _))))
    repeat (go_big_quiet_step (fail))
    refine wpQuiet_nil ?_
    intro w9 hw9
    obtain ⟨v, rfl⟩ := hw9
    go_wp2_with fail
    go_ret2
    exact ⟨by rw [ED.out]; simp [ba_app, hy], HBw1.out.trans (v.2.mono HBw1.out.size)⟩
  ·
    go_wp2_with fail
    refine wp_region_bw (by kernel_rfl) (by kernel_rfl) ?_
    repeat (go_big_quiet_step (fail))
    go_big_quiet_step (exact calls_bw (G1.out _ (HP1.out.below (Subtype.property _))))
    repeat (go_big_quiet_step (fail))
    go_big_quiet_step (exact calls_bw (G2.out _ (HP1.out.below (Subtype.property _))))
    repeat (go_big_quiet_step (fail))
    go_big_quiet_step (exact calls_bw (G3.out _ (HP1.out.below (Subtype.property _))))
    repeat (go_big_quiet_step (fail))
    refine wpQuiet_nil ?_
    intro w9 hw9
    obtain ⟨v, rfl⟩ := hw9
    go_wp2_with fail
    go_ret2
    exact ⟨by rw [ED.out]; simp [ba_app, hy], HBw1.out.trans (v.2.mono HBw1.out.size)⟩
end Go.Proofs.YtokcbnmpdbbehaaDoor
