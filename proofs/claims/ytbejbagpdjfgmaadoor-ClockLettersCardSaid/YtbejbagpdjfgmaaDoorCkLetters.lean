/-
  THE LAW ClockLetters, walked.
-/
import Derived.Test.YtbejbagpdjfgmaaDoorPrint
import Derived.Test.YtbejbagpdjfgmaaDoorCkSpans
namespace Go.Proofs.YtbejbagpdjfgmaaDoor.clockLetters
open Go Go.RowKit clockSpans
set_option maxRecDepth 100000 in
set_option maxHeartbeats 2000000 in
theorem walk_long (l : List UInt8) (w : World) (h : Reads w) (hl : 40 < (⟨l.toArray⟩ : ByteArray).size) :
    Calls Tryd.prog 6 #[.string ⟨l.toArray⟩] w (One w) := by
  have HR := Lib.hid h
  have HBw := Lib.hid (Below.refl w.heap.size w)
  have hl2 : (40 : Int) < (l.length : Int) := by
    have : (⟨l.toArray⟩ : ByteArray).size = l.length := by show l.toArray.size = _; simp
    omega
  clear h hl
  go_enter Tryd.func6, Tryd.ntmps6
  go_wp2_with fail
  refine (awake_any _ (HR.out.below HBw.out)).mono ?_
  rintro e w1 ⟨rfl, hbw1⟩
  have HBw1 := Lib.hid (HBw.out.trans (hbw1.mono HBw.out.size))
  clear hbw1
  go_wp2_with fail
  go_ret
  exact ⟨rfl, HBw1.out⟩
/-- Span answers this -/
def SpIs (l : List UInt8) (n e : Int) : Prop := ∀ w, Reads w → Calls Tryd.prog 18 #[.string ⟨l.toArray⟩] w fun e' w' => e' = .returned (.tuple #[.int .i64 n, .int .i64 e]) ∧ Below w.heap.size w w'
set_option maxRecDepth 100000 in
set_option maxHeartbeats 4000000 in
theorem walk_ok (l : List UInt8) (n : Int) (w : World) (h : Reads w) (hl : ¬ 40 < (⟨l.toArray⟩ : ByteArray).size) (hS : SpIs l n 0)
    (h0 : PIs (l ++ [119]) n 0 0) (h1 : PIs (l ++ [115]) n 1 0) (h2 : PIs (l ++ [117]) n 2 0) (h3 : PIs (l ++ [103]) n 2 0) (h4 : PIs (l ++ [122]) n 2 0) (h5 : PIs l n 0 0) :
    Calls Tryd.prog 6 #[.string ⟨l.toArray⟩] w (One w) := by
  have HR := Lib.hid h
  have HBw := Lib.hid (Below.refl w.heap.size w)
  have hl2 : (l.length : Int) ≤ 40 := by
    have : (⟨l.toArray⟩ : ByteArray).size = l.length := by show l.toArray.size = _; simp
    omega
  have X0 := Lib.hid (show (⟨l.toArray⟩ : ByteArray) ++ (⟨#[119, 115, 117, 103, 122]⟩ : ByteArray).extract 0 1 = ⟨(l ++ [119]).toArray⟩ from (show (⟨#[119, 115, 117, 103, 122]⟩ : ByteArray).extract 0 1 = ⟨[119].toArray⟩ from rfl) ▸ ba_app l [119])
  have X1 := Lib.hid (show (⟨l.toArray⟩ : ByteArray) ++ (⟨#[119, 115, 117, 103, 122]⟩ : ByteArray).extract 1 2 = ⟨(l ++ [115]).toArray⟩ from (show (⟨#[119, 115, 117, 103, 122]⟩ : ByteArray).extract 1 2 = ⟨[115].toArray⟩ from rfl) ▸ ba_app l [115])
  have X2 := Lib.hid (show (⟨l.toArray⟩ : ByteArray) ++ (⟨#[119, 115, 117, 103, 122]⟩ : ByteArray).extract 2 3 = ⟨(l ++ [117]).toArray⟩ from (show (⟨#[119, 115, 117, 103, 122]⟩ : ByteArray).extract 2 3 = ⟨[117].toArray⟩ from rfl) ▸ ba_app l [117])
  have X3 := Lib.hid (show (⟨l.toArray⟩ : ByteArray) ++ (⟨#[119, 115, 117, 103, 122]⟩ : ByteArray).extract 3 4 = ⟨(l ++ [103]).toArray⟩ from (show (⟨#[119, 115, 117, 103, 122]⟩ : ByteArray).extract 3 4 = ⟨[103].toArray⟩ from rfl) ▸ ba_app l [103])
  have X4 := Lib.hid (show (⟨l.toArray⟩ : ByteArray) ++ (⟨#[119, 115, 117, 103, 122]⟩ : ByteArray).extract 4 5 = ⟨(l ++ [122]).toArray⟩ from (show (⟨#[119, 115, 117, 103, 122]⟩ : ByteArray).extract 4 5 = ⟨[122].toArray⟩ from rfl) ▸ ba_app l [122])
  have SP := Lib.hid hS
  have P0 := Lib.hid h0
  have P1 := Lib.hid h1
  have P2 := Lib.hid h2
  have P3 := Lib.hid h3
  have P4 := Lib.hid h4
  have P5 := Lib.hid h5
  clear h hl hS h0 h1 h2 h3 h4 h5
  go_enter Tryd.func6, Tryd.ntmps6
  go_wp2_with fail
  refine (SP.out _ (HR.out.below HBw.out)).mono ?_
  rintro e ws ⟨rfl, hbws⟩
  have HBws := Lib.hid (HBw.out.trans (hbws.mono HBw.out.size))
  clear hbws
  go_wp2_with fail
  go_loopw [5] (fun v5 wr => ∃ i : Int, (0 ≤ i ∧ i ≤ 5) ∧ v5 = .int .i64 i ∧ Below w.heap.size w wr) (fun v5 _ => (5 - intOf v5).toNat)
  case atStart => exact ⟨0, by omega, rfl, HBws.out⟩
  case round =>
    obtain ⟨i, hi, rfl, hB⟩ := hrel
    have HBwr := Lib.hid hB
    clear hB
    have hi6 : i = 0 ∨ i = 1 ∨ i = 2 ∨ i = 3 ∨ i = 4 ∨ i = 5 := by omega
    clear hi
    rcases hi6 with rfl | rfl | rfl | rfl | rfl | rfl
    ·
      go_wp2_with fail
      rw [X0.out]
      refine (P0.out _ (HR.out.below HBwr.out)).mono ?_
      rintro e1 w1 ⟨rfl, hbw1⟩
      have HBw1 := Lib.hid (HBwr.out.trans (hbw1.mono HBwr.out.size))
      clear hbw1
      go_upto_region 8 with fail
      generalize hX : w1.alloc (.cells #[.int .i64 n, .int .i64 0] 39) = v1
      have sv1 : v1.heap.size = w1.heap.size + 1 := by rw [← hX]; simp
      have bv1 : Below w1.heap.size w1 v1 := by rw [← hX]; exact (Below.refl _ _).alloc (Nat.le_refl _) _
      have HYv1 := Lib.hid (show v1.heap[w1.heap.size]? = some (.cells #[.int .i64 n, .int .i64 0] 39 (0, 0)) by rw [← hX]; exact heap_alloc_new w1 _)
      have HBv1 := Lib.hid (HBw1.out.trans (bv1.mono HBw1.out.size))
      clear hX
      go_upto_region 9 with fail
      generalize hX : v1.alloc (.cells #[.int .i64 n, .int .i64 (min 0 2)] 39) = v2
      have sv2 : v2.heap.size = v1.heap.size + 1 := by rw [← hX]; simp
      have bv2 : Below v1.heap.size v1 v2 := by rw [← hX]; exact (Below.refl _ _).alloc (Nat.le_refl _) _
      have HYv2 := Lib.hid (show v2.heap[v1.heap.size]? = some (.cells #[.int .i64 n, .int .i64 (min 0 2)] 39 (0, 0)) by rw [← hX]; exact heap_alloc_new v1 _)
      have HBv2 := Lib.hid (HBv1.out.trans (bv2.mono HBv1.out.size))
      clear hX
      have HY1 := Lib.hid ((bv2.block w1.heap.size (by omega)).trans HYv1.out)
      obtain ⟨p0, p1⟩ := row2_cells HY1.out
      have HZ := Lib.hid (show v2.heap[v1.heap.size]? = some (.cells #[.int .i64 n, .int .i64 0] 39 (0, 0)) from HYv2.out)
      rw [sv1] at HZ
      obtain ⟨q0, q1⟩ := row2_cells HZ.out
      go_wp2_with fail
      go_roundw
      case rel => exact ⟨0 + 1, by omega, rfl, HBv2.out⟩
      case measure => simp [intOf]
    ·
      go_wp2_with fail
      rw [X1.out]
      refine (P1.out _ (HR.out.below HBwr.out)).mono ?_
      rintro e1 w1 ⟨rfl, hbw1⟩
      have HBw1 := Lib.hid (HBwr.out.trans (hbw1.mono HBwr.out.size))
      clear hbw1
      go_upto_region 8 with fail
      generalize hX : w1.alloc (.cells #[.int .i64 n, .int .i64 1] 39) = v1
      have sv1 : v1.heap.size = w1.heap.size + 1 := by rw [← hX]; simp
      have bv1 : Below w1.heap.size w1 v1 := by rw [← hX]; exact (Below.refl _ _).alloc (Nat.le_refl _) _
      have HYv1 := Lib.hid (show v1.heap[w1.heap.size]? = some (.cells #[.int .i64 n, .int .i64 1] 39 (0, 0)) by rw [← hX]; exact heap_alloc_new w1 _)
      have HBv1 := Lib.hid (HBw1.out.trans (bv1.mono HBw1.out.size))
      clear hX
      go_upto_region 9 with fail
      generalize hX : v1.alloc (.cells #[.int .i64 n, .int .i64 (min 1 2)] 39) = v2
      have sv2 : v2.heap.size = v1.heap.size + 1 := by rw [← hX]; simp
      have bv2 : Below v1.heap.size v1 v2 := by rw [← hX]; exact (Below.refl _ _).alloc (Nat.le_refl _) _
      have HYv2 := Lib.hid (show v2.heap[v1.heap.size]? = some (.cells #[.int .i64 n, .int .i64 (min 1 2)] 39 (0, 0)) by rw [← hX]; exact heap_alloc_new v1 _)
      have HBv2 := Lib.hid (HBv1.out.trans (bv2.mono HBv1.out.size))
      clear hX
      have HY1 := Lib.hid ((bv2.block w1.heap.size (by omega)).trans HYv1.out)
      obtain ⟨p0, p1⟩ := row2_cells HY1.out
      have HZ := Lib.hid (show v2.heap[v1.heap.size]? = some (.cells #[.int .i64 n, .int .i64 1] 39 (0, 0)) from HYv2.out)
      rw [sv1] at HZ
      obtain ⟨q0, q1⟩ := row2_cells HZ.out
      go_wp2_with fail
      go_roundw
      case rel => exact ⟨1 + 1, by omega, rfl, HBv2.out⟩
      case measure => simp [intOf]
    ·
      go_wp2_with fail
      rw [X2.out]
      refine (P2.out _ (HR.out.below HBwr.out)).mono ?_
      rintro e1 w1 ⟨rfl, hbw1⟩
      have HBw1 := Lib.hid (HBwr.out.trans (hbw1.mono HBwr.out.size))
      clear hbw1
      go_upto_region 8 with fail
      generalize hX : w1.alloc (.cells #[.int .i64 n, .int .i64 2] 39) = v1
      have sv1 : v1.heap.size = w1.heap.size + 1 := by rw [← hX]; simp
      have bv1 : Below w1.heap.size w1 v1 := by rw [← hX]; exact (Below.refl _ _).alloc (Nat.le_refl _) _
      have HYv1 := Lib.hid (show v1.heap[w1.heap.size]? = some (.cells #[.int .i64 n, .int .i64 2] 39 (0, 0)) by rw [← hX]; exact heap_alloc_new w1 _)
      have HBv1 := Lib.hid (HBw1.out.trans (bv1.mono HBw1.out.size))
      clear hX
      go_upto_region 9 with fail
      generalize hX : v1.alloc (.cells #[.int .i64 n, .int .i64 2] 39) = v2
      have sv2 : v2.heap.size = v1.heap.size + 1 := by rw [← hX]; simp
      have bv2 : Below v1.heap.size v1 v2 := by rw [← hX]; exact (Below.refl _ _).alloc (Nat.le_refl _) _
      have HYv2 := Lib.hid (show v2.heap[v1.heap.size]? = some (.cells #[.int .i64 n, .int .i64 2] 39 (0, 0)) by rw [← hX]; exact heap_alloc_new v1 _)
      have HBv2 := Lib.hid (HBv1.out.trans (bv2.mono HBv1.out.size))
      clear hX
      have HY1 := Lib.hid ((bv2.block w1.heap.size (by omega)).trans HYv1.out)
      obtain ⟨p0, p1⟩ := row2_cells HY1.out
      have HZ := Lib.hid (show v2.heap[v1.heap.size]? = some (.cells #[.int .i64 n, .int .i64 2] 39 (0, 0)) from HYv2.out)
      rw [sv1] at HZ
      obtain ⟨q0, q1⟩ := row2_cells HZ.out
      go_wp2_with fail
      go_roundw
      case rel => exact ⟨2 + 1, by omega, rfl, HBv2.out⟩
      case measure => simp [intOf]
    ·
      go_wp2_with fail
      rw [X3.out]
      refine (P3.out _ (HR.out.below HBwr.out)).mono ?_
      rintro e1 w1 ⟨rfl, hbw1⟩
      have HBw1 := Lib.hid (HBwr.out.trans (hbw1.mono HBwr.out.size))
      clear hbw1
      go_upto_region 8 with fail
      generalize hX : w1.alloc (.cells #[.int .i64 n, .int .i64 2] 39) = v1
      have sv1 : v1.heap.size = w1.heap.size + 1 := by rw [← hX]; simp
      have bv1 : Below w1.heap.size w1 v1 := by rw [← hX]; exact (Below.refl _ _).alloc (Nat.le_refl _) _
      have HYv1 := Lib.hid (show v1.heap[w1.heap.size]? = some (.cells #[.int .i64 n, .int .i64 2] 39 (0, 0)) by rw [← hX]; exact heap_alloc_new w1 _)
      have HBv1 := Lib.hid (HBw1.out.trans (bv1.mono HBw1.out.size))
      clear hX
      go_upto_region 9 with fail
      generalize hX : v1.alloc (.cells #[.int .i64 n, .int .i64 (min 3 2)] 39) = v2
      have sv2 : v2.heap.size = v1.heap.size + 1 := by rw [← hX]; simp
      have bv2 : Below v1.heap.size v1 v2 := by rw [← hX]; exact (Below.refl _ _).alloc (Nat.le_refl _) _
      have HYv2 := Lib.hid (show v2.heap[v1.heap.size]? = some (.cells #[.int .i64 n, .int .i64 (min 3 2)] 39 (0, 0)) by rw [← hX]; exact heap_alloc_new v1 _)
      have HBv2 := Lib.hid (HBv1.out.trans (bv2.mono HBv1.out.size))
      clear hX
      have HY1 := Lib.hid ((bv2.block w1.heap.size (by omega)).trans HYv1.out)
      obtain ⟨p0, p1⟩ := row2_cells HY1.out
      have HZ := Lib.hid (show v2.heap[v1.heap.size]? = some (.cells #[.int .i64 n, .int .i64 2] 39 (0, 0)) from HYv2.out)
      rw [sv1] at HZ
      obtain ⟨q0, q1⟩ := row2_cells HZ.out
      go_wp2_with fail
      go_roundw
      case rel => exact ⟨3 + 1, by omega, rfl, HBv2.out⟩
      case measure => simp [intOf]
    ·
      go_wp2_with fail
      rw [X4.out]
      refine (P4.out _ (HR.out.below HBwr.out)).mono ?_
      rintro e1 w1 ⟨rfl, hbw1⟩
      have HBw1 := Lib.hid (HBwr.out.trans (hbw1.mono HBwr.out.size))
      clear hbw1
      go_upto_region 8 with fail
      generalize hX : w1.alloc (.cells #[.int .i64 n, .int .i64 2] 39) = v1
      have sv1 : v1.heap.size = w1.heap.size + 1 := by rw [← hX]; simp
      have bv1 : Below w1.heap.size w1 v1 := by rw [← hX]; exact (Below.refl _ _).alloc (Nat.le_refl _) _
      have HYv1 := Lib.hid (show v1.heap[w1.heap.size]? = some (.cells #[.int .i64 n, .int .i64 2] 39 (0, 0)) by rw [← hX]; exact heap_alloc_new w1 _)
      have HBv1 := Lib.hid (HBw1.out.trans (bv1.mono HBw1.out.size))
      clear hX
      go_upto_region 9 with fail
      generalize hX : v1.alloc (.cells #[.int .i64 n, .int .i64 (min 4 2)] 39) = v2
      have sv2 : v2.heap.size = v1.heap.size + 1 := by rw [← hX]; simp
      have bv2 : Below v1.heap.size v1 v2 := by rw [← hX]; exact (Below.refl _ _).alloc (Nat.le_refl _) _
      have HYv2 := Lib.hid (show v2.heap[v1.heap.size]? = some (.cells #[.int .i64 n, .int .i64 (min 4 2)] 39 (0, 0)) by rw [← hX]; exact heap_alloc_new v1 _)
      have HBv2 := Lib.hid (HBv1.out.trans (bv2.mono HBv1.out.size))
      clear hX
      have HY1 := Lib.hid ((bv2.block w1.heap.size (by omega)).trans HYv1.out)
      obtain ⟨p0, p1⟩ := row2_cells HY1.out
      have HZ := Lib.hid (show v2.heap[v1.heap.size]? = some (.cells #[.int .i64 n, .int .i64 2] 39 (0, 0)) from HYv2.out)
      rw [sv1] at HZ
      obtain ⟨q0, q1⟩ := row2_cells HZ.out
      go_wp2_with fail
      go_roundw
      case rel => exact ⟨4 + 1, by omega, rfl, HBv2.out⟩
      case measure => simp [intOf]
    · go_wp2_with fail
      refine (P5.out _ (HR.out.below HBwr.out)).mono ?_
      rintro e w1 ⟨rfl, hbw1⟩
      have HBw1 := Lib.hid (HBwr.out.trans (hbw1.mono HBwr.out.size))
      clear hbw1
      go_upto_region 14 with fail
      generalize hX : w1.alloc (.cells #[.int .i64 n, .int .i64 0] 39) = v1
      have sv1 : v1.heap.size = w1.heap.size + 1 := by rw [← hX]; simp
      have bv1 : Below w1.heap.size w1 v1 := by rw [← hX]; exact (Below.refl _ _).alloc (Nat.le_refl _) _
      have HYv1 := Lib.hid (show v1.heap[w1.heap.size]? = some (.cells #[.int .i64 n, .int .i64 0] 39 (0, 0)) by rw [← hX]; exact heap_alloc_new w1 _)
      have HBv1 := Lib.hid (HBw1.out.trans (bv1.mono HBw1.out.size))
      clear hX
      obtain ⟨p0, p1⟩ := row2_cells HYv1.out
      go_wp2_with fail
      refine (awake_any _ (HR.out.below HBv1.out)).mono ?_
      rintro e w2 ⟨rfl, hbw2⟩
      have HBw2 := Lib.hid (HBv1.out.trans (hbw2.mono HBv1.out.size))
      clear hbw2
      go_wp2_with fail
      go_ret
      exact ⟨rfl, HBw2.out⟩
set_option maxRecDepth 100000 in
set_option maxHeartbeats 4000000 in
theorem walk_err (l : List UInt8) (n e n5 k5 e5 : Int) (w : World) (h : Reads w) (hl : ¬ 40 < (⟨l.toArray⟩ : ByteArray).size) (he : (e != 0) = true) (hS : SpIs l n e)
    (h0 : PIs (l ++ [119]) 0 0 e) (h1 : PIs (l ++ [115]) 0 0 e) (h2 : PIs (l ++ [117]) 0 0 e) (h3 : PIs (l ++ [103]) 0 0 e) (h4 : PIs (l ++ [122]) 0 0 e) (h5 : PIs l n5 k5 e5) :
    Calls Tryd.prog 6 #[.string ⟨l.toArray⟩] w (One w) := by
  have HR := Lib.hid h
  have HBw := Lib.hid (Below.refl w.heap.size w)
  have hl2 : (l.length : Int) ≤ 40 := by
    have : (⟨l.toArray⟩ : ByteArray).size = l.length := by show l.toArray.size = _; simp
    omega
  have X0 := Lib.hid (show (⟨l.toArray⟩ : ByteArray) ++ (⟨#[119, 115, 117, 103, 122]⟩ : ByteArray).extract 0 1 = ⟨(l ++ [119]).toArray⟩ from (show (⟨#[119, 115, 117, 103, 122]⟩ : ByteArray).extract 0 1 = ⟨[119].toArray⟩ from rfl) ▸ ba_app l [119])
  have X1 := Lib.hid (show (⟨l.toArray⟩ : ByteArray) ++ (⟨#[119, 115, 117, 103, 122]⟩ : ByteArray).extract 1 2 = ⟨(l ++ [115]).toArray⟩ from (show (⟨#[119, 115, 117, 103, 122]⟩ : ByteArray).extract 1 2 = ⟨[115].toArray⟩ from rfl) ▸ ba_app l [115])
  have X2 := Lib.hid (show (⟨l.toArray⟩ : ByteArray) ++ (⟨#[119, 115, 117, 103, 122]⟩ : ByteArray).extract 2 3 = ⟨(l ++ [117]).toArray⟩ from (show (⟨#[119, 115, 117, 103, 122]⟩ : ByteArray).extract 2 3 = ⟨[117].toArray⟩ from rfl) ▸ ba_app l [117])
  have X3 := Lib.hid (show (⟨l.toArray⟩ : ByteArray) ++ (⟨#[119, 115, 117, 103, 122]⟩ : ByteArray).extract 3 4 = ⟨(l ++ [103]).toArray⟩ from (show (⟨#[119, 115, 117, 103, 122]⟩ : ByteArray).extract 3 4 = ⟨[103].toArray⟩ from rfl) ▸ ba_app l [103])
  have X4 := Lib.hid (show (⟨l.toArray⟩ : ByteArray) ++ (⟨#[119, 115, 117, 103, 122]⟩ : ByteArray).extract 4 5 = ⟨(l ++ [122]).toArray⟩ from (show (⟨#[119, 115, 117, 103, 122]⟩ : ByteArray).extract 4 5 = ⟨[122].toArray⟩ from rfl) ▸ ba_app l [122])
  have SP := Lib.hid hS
  have P0 := Lib.hid h0
  have P1 := Lib.hid h1
  have P2 := Lib.hid h2
  have P3 := Lib.hid h3
  have P4 := Lib.hid h4
  have P5 := Lib.hid h5
  clear h hl hS h0 h1 h2 h3 h4 h5
  go_enter Tryd.func6, Tryd.ntmps6
  go_wp2_with fail
  refine (SP.out _ (HR.out.below HBw.out)).mono ?_
  rintro e ws ⟨rfl, hbws⟩
  have HBws := Lib.hid (HBw.out.trans (hbws.mono HBw.out.size))
  clear hbws
  go_wp2_with fail
  go_loopw [5] (fun v5 wr => ∃ i : Int, (0 ≤ i ∧ i ≤ 5) ∧ v5 = .int .i64 i ∧ Below w.heap.size w wr) (fun v5 _ => (5 - intOf v5).toNat)
  case atStart => exact ⟨0, by omega, rfl, HBws.out⟩
  case round =>
    obtain ⟨i, hi, rfl, hB⟩ := hrel
    have HBwr := Lib.hid hB
    clear hB
    have hi6 : i = 0 ∨ i = 1 ∨ i = 2 ∨ i = 3 ∨ i = 4 ∨ i = 5 := by omega
    clear hi
    rcases hi6 with rfl | rfl | rfl | rfl | rfl | rfl
    ·
      go_wp2_with fail
      rw [X0.out]
      refine (P0.out _ (HR.out.below HBwr.out)).mono ?_
      rintro e1 w1 ⟨rfl, hbw1⟩
      have HBw1 := Lib.hid (HBwr.out.trans (hbw1.mono HBwr.out.size))
      clear hbw1
      go_upto_region 8 with fail
      generalize hX : w1.alloc (.cells #[.int .i64 0, .int .i64 0] 39) = v1
      have sv1 : v1.heap.size = w1.heap.size + 1 := by rw [← hX]; simp
      have bv1 : Below w1.heap.size w1 v1 := by rw [← hX]; exact (Below.refl _ _).alloc (Nat.le_refl _) _
      have HYv1 := Lib.hid (show v1.heap[w1.heap.size]? = some (.cells #[.int .i64 0, .int .i64 0] 39 (0, 0)) by rw [← hX]; exact heap_alloc_new w1 _)
      have HBv1 := Lib.hid (HBw1.out.trans (bv1.mono HBw1.out.size))
      clear hX
      go_upto_region 9 with fail
      generalize hX : v1.alloc (.cells #[.int .i64 n, .int .i64 (min 0 2)] 39) = v2
      have sv2 : v2.heap.size = v1.heap.size + 1 := by rw [← hX]; simp
      have bv2 : Below v1.heap.size v1 v2 := by rw [← hX]; exact (Below.refl _ _).alloc (Nat.le_refl _) _
      have HYv2 := Lib.hid (show v2.heap[v1.heap.size]? = some (.cells #[.int .i64 n, .int .i64 (min 0 2)] 39 (0, 0)) by rw [← hX]; exact heap_alloc_new v1 _)
      have HBv2 := Lib.hid (HBv1.out.trans (bv2.mono HBv1.out.size))
      clear hX
      have HY1 := Lib.hid ((bv2.block w1.heap.size (by omega)).trans HYv1.out)
      obtain ⟨p0, p1⟩ := row2_cells HY1.out
      have HZ := Lib.hid (show v2.heap[v1.heap.size]? = some (.cells #[.int .i64 n, .int .i64 0] 39 (0, 0)) from HYv2.out)
      rw [sv1] at HZ
      have LT1 : w1.heap.size < v2.heap.size := by omega
      have LT2 : w1.heap.size + 1 < v2.heap.size := by omega
      obtain ⟨q0, q1⟩ := row2_cells HZ.out
      have fz0 := frozen_of_row v2 (w1.heap.size + 1) 0 _ _ HZ.out
      have fz1 := frozen_of_row v2 (w1.heap.size + 1) 1 _ _ HZ.out
      go_upto_region 11 with fail
      generalize hX : (v2.setCell ⟨w1.heap.size + 1, 0, none⟩ (.int .i64 0)).setCell ⟨w1.heap.size + 1, 1, none⟩ (.int .i64 0) = v3
      have HZ3 : v3.heap[w1.heap.size + 1]? = some (.cells #[.int .i64 0, .int .i64 0] 39 (0, 0)) := by rw [← hX]; exact heap_setCell_same _ _ 1 _ _ _ (heap_setCell_same v2 _ 0 _ _ _ HZ.out)
      have HY3 : v3.heap[w1.heap.size]? = some (.cells #[.int .i64 0, .int .i64 0] 39 (0, 0)) := by rw [← hX]; exact (heap_setCell_other _ _ _ _ (by simp)).trans ((heap_setCell_other _ _ _ _ (by simp)).trans HY1.out)
      have sw1 := HBw1.out.size
      have HBv3 := Lib.hid (show Below w.heap.size w v3 by rw [← hX]; exact (HBv2.out.setCell (by simp only; omega) _).setCell (by simp only; omega) _)
      clear hX p0 p1 q0 q1 fz0 fz1
      obtain ⟨p0, p1⟩ := row2_cells HY3
      obtain ⟨q0, q1⟩ := row2_cells HZ3
      clear HY3 HZ3
      go_wp2_with fail
      go_roundw
      case rel => exact ⟨0 + 1, by omega, rfl, HBv3.out⟩
      case measure => simp [intOf]
    ·
      go_wp2_with fail
      rw [X1.out]
      refine (P1.out _ (HR.out.below HBwr.out)).mono ?_
      rintro e1 w1 ⟨rfl, hbw1⟩
      have HBw1 := Lib.hid (HBwr.out.trans (hbw1.mono HBwr.out.size))
      clear hbw1
      go_upto_region 8 with fail
      generalize hX : w1.alloc (.cells #[.int .i64 0, .int .i64 0] 39) = v1
      have sv1 : v1.heap.size = w1.heap.size + 1 := by rw [← hX]; simp
      have bv1 : Below w1.heap.size w1 v1 := by rw [← hX]; exact (Below.refl _ _).alloc (Nat.le_refl _) _
      have HYv1 := Lib.hid (show v1.heap[w1.heap.size]? = some (.cells #[.int .i64 0, .int .i64 0] 39 (0, 0)) by rw [← hX]; exact heap_alloc_new w1 _)
      have HBv1 := Lib.hid (HBw1.out.trans (bv1.mono HBw1.out.size))
      clear hX
      go_upto_region 9 with fail
      generalize hX : v1.alloc (.cells #[.int .i64 n, .int .i64 (min 1 2)] 39) = v2
      have sv2 : v2.heap.size = v1.heap.size + 1 := by rw [← hX]; simp
      have bv2 : Below v1.heap.size v1 v2 := by rw [← hX]; exact (Below.refl _ _).alloc (Nat.le_refl _) _
      have HYv2 := Lib.hid (show v2.heap[v1.heap.size]? = some (.cells #[.int .i64 n, .int .i64 (min 1 2)] 39 (0, 0)) by rw [← hX]; exact heap_alloc_new v1 _)
      have HBv2 := Lib.hid (HBv1.out.trans (bv2.mono HBv1.out.size))
      clear hX
      have HY1 := Lib.hid ((bv2.block w1.heap.size (by omega)).trans HYv1.out)
      obtain ⟨p0, p1⟩ := row2_cells HY1.out
      have HZ := Lib.hid (show v2.heap[v1.heap.size]? = some (.cells #[.int .i64 n, .int .i64 1] 39 (0, 0)) from HYv2.out)
      rw [sv1] at HZ
      have LT1 : w1.heap.size < v2.heap.size := by omega
      have LT2 : w1.heap.size + 1 < v2.heap.size := by omega
      obtain ⟨q0, q1⟩ := row2_cells HZ.out
      have fz0 := frozen_of_row v2 (w1.heap.size + 1) 0 _ _ HZ.out
      have fz1 := frozen_of_row v2 (w1.heap.size + 1) 1 _ _ HZ.out
      go_upto_region 11 with fail
      generalize hX : (v2.setCell ⟨w1.heap.size + 1, 0, none⟩ (.int .i64 0)).setCell ⟨w1.heap.size + 1, 1, none⟩ (.int .i64 0) = v3
      have HZ3 : v3.heap[w1.heap.size + 1]? = some (.cells #[.int .i64 0, .int .i64 0] 39 (0, 0)) := by rw [← hX]; exact heap_setCell_same _ _ 1 _ _ _ (heap_setCell_same v2 _ 0 _ _ _ HZ.out)
      have HY3 : v3.heap[w1.heap.size]? = some (.cells #[.int .i64 0, .int .i64 0] 39 (0, 0)) := by rw [← hX]; exact (heap_setCell_other _ _ _ _ (by simp)).trans ((heap_setCell_other _ _ _ _ (by simp)).trans HY1.out)
      have sw1 := HBw1.out.size
      have HBv3 := Lib.hid (show Below w.heap.size w v3 by rw [← hX]; exact (HBv2.out.setCell (by simp only; omega) _).setCell (by simp only; omega) _)
      clear hX p0 p1 q0 q1 fz0 fz1
      obtain ⟨p0, p1⟩ := row2_cells HY3
      obtain ⟨q0, q1⟩ := row2_cells HZ3
      clear HY3 HZ3
      go_wp2_with fail
      go_roundw
      case rel => exact ⟨1 + 1, by omega, rfl, HBv3.out⟩
      case measure => simp [intOf]
    ·
      go_wp2_with fail
      rw [X2.out]
      refine (P2.out _ (HR.out.below HBwr.out)).mono ?_
      rintro e1 w1 ⟨rfl, hbw1⟩
      have HBw1 := Lib.hid (HBwr.out.trans (hbw1.mono HBwr.out.size))
      clear hbw1
      go_upto_region 8 with fail
      generalize hX : w1.alloc (.cells #[.int .i64 0, .int .i64 0] 39) = v1
      have sv1 : v1.heap.size = w1.heap.size + 1 := by rw [← hX]; simp
      have bv1 : Below w1.heap.size w1 v1 := by rw [← hX]; exact (Below.refl _ _).alloc (Nat.le_refl _) _
      have HYv1 := Lib.hid (show v1.heap[w1.heap.size]? = some (.cells #[.int .i64 0, .int .i64 0] 39 (0, 0)) by rw [← hX]; exact heap_alloc_new w1 _)
      have HBv1 := Lib.hid (HBw1.out.trans (bv1.mono HBw1.out.size))
      clear hX
      go_upto_region 9 with fail
      generalize hX : v1.alloc (.cells #[.int .i64 n, .int .i64 2] 39) = v2
      have sv2 : v2.heap.size = v1.heap.size + 1 := by rw [← hX]; simp
      have bv2 : Below v1.heap.size v1 v2 := by rw [← hX]; exact (Below.refl _ _).alloc (Nat.le_refl _) _
      have HYv2 := Lib.hid (show v2.heap[v1.heap.size]? = some (.cells #[.int .i64 n, .int .i64 2] 39 (0, 0)) by rw [← hX]; exact heap_alloc_new v1 _)
      have HBv2 := Lib.hid (HBv1.out.trans (bv2.mono HBv1.out.size))
      clear hX
      have HY1 := Lib.hid ((bv2.block w1.heap.size (by omega)).trans HYv1.out)
      obtain ⟨p0, p1⟩ := row2_cells HY1.out
      have HZ := Lib.hid (show v2.heap[v1.heap.size]? = some (.cells #[.int .i64 n, .int .i64 2] 39 (0, 0)) from HYv2.out)
      rw [sv1] at HZ
      have LT1 : w1.heap.size < v2.heap.size := by omega
      have LT2 : w1.heap.size + 1 < v2.heap.size := by omega
      obtain ⟨q0, q1⟩ := row2_cells HZ.out
      have fz0 := frozen_of_row v2 (w1.heap.size + 1) 0 _ _ HZ.out
      have fz1 := frozen_of_row v2 (w1.heap.size + 1) 1 _ _ HZ.out
      go_upto_region 11 with fail
      generalize hX : (v2.setCell ⟨w1.heap.size + 1, 0, none⟩ (.int .i64 0)).setCell ⟨w1.heap.size + 1, 1, none⟩ (.int .i64 0) = v3
      have HZ3 : v3.heap[w1.heap.size + 1]? = some (.cells #[.int .i64 0, .int .i64 0] 39 (0, 0)) := by rw [← hX]; exact heap_setCell_same _ _ 1 _ _ _ (heap_setCell_same v2 _ 0 _ _ _ HZ.out)
      have HY3 : v3.heap[w1.heap.size]? = some (.cells #[.int .i64 0, .int .i64 0] 39 (0, 0)) := by rw [← hX]; exact (heap_setCell_other _ _ _ _ (by simp)).trans ((heap_setCell_other _ _ _ _ (by simp)).trans HY1.out)
      have sw1 := HBw1.out.size
      have HBv3 := Lib.hid (show Below w.heap.size w v3 by rw [← hX]; exact (HBv2.out.setCell (by simp only; omega) _).setCell (by simp only; omega) _)
      clear hX p0 p1 q0 q1 fz0 fz1
      obtain ⟨p0, p1⟩ := row2_cells HY3
      obtain ⟨q0, q1⟩ := row2_cells HZ3
      clear HY3 HZ3
      go_wp2_with fail
      go_roundw
      case rel => exact ⟨2 + 1, by omega, rfl, HBv3.out⟩
      case measure => simp [intOf]
    ·
      go_wp2_with fail
      rw [X3.out]
      refine (P3.out _ (HR.out.below HBwr.out)).mono ?_
      rintro e1 w1 ⟨rfl, hbw1⟩
      have HBw1 := Lib.hid (HBwr.out.trans (hbw1.mono HBwr.out.size))
      clear hbw1
      go_upto_region 8 with fail
      generalize hX : w1.alloc (.cells #[.int .i64 0, .int .i64 0] 39) = v1
      have sv1 : v1.heap.size = w1.heap.size + 1 := by rw [← hX]; simp
      have bv1 : Below w1.heap.size w1 v1 := by rw [← hX]; exact (Below.refl _ _).alloc (Nat.le_refl _) _
      have HYv1 := Lib.hid (show v1.heap[w1.heap.size]? = some (.cells #[.int .i64 0, .int .i64 0] 39 (0, 0)) by rw [← hX]; exact heap_alloc_new w1 _)
      have HBv1 := Lib.hid (HBw1.out.trans (bv1.mono HBw1.out.size))
      clear hX
      go_upto_region 9 with fail
      generalize hX : v1.alloc (.cells #[.int .i64 n, .int .i64 (min 3 2)] 39) = v2
      have sv2 : v2.heap.size = v1.heap.size + 1 := by rw [← hX]; simp
      have bv2 : Below v1.heap.size v1 v2 := by rw [← hX]; exact (Below.refl _ _).alloc (Nat.le_refl _) _
      have HYv2 := Lib.hid (show v2.heap[v1.heap.size]? = some (.cells #[.int .i64 n, .int .i64 (min 3 2)] 39 (0, 0)) by rw [← hX]; exact heap_alloc_new v1 _)
      have HBv2 := Lib.hid (HBv1.out.trans (bv2.mono HBv1.out.size))
      clear hX
      have HY1 := Lib.hid ((bv2.block w1.heap.size (by omega)).trans HYv1.out)
      obtain ⟨p0, p1⟩ := row2_cells HY1.out
      have HZ := Lib.hid (show v2.heap[v1.heap.size]? = some (.cells #[.int .i64 n, .int .i64 2] 39 (0, 0)) from HYv2.out)
      rw [sv1] at HZ
      have LT1 : w1.heap.size < v2.heap.size := by omega
      have LT2 : w1.heap.size + 1 < v2.heap.size := by omega
      obtain ⟨q0, q1⟩ := row2_cells HZ.out
      have fz0 := frozen_of_row v2 (w1.heap.size + 1) 0 _ _ HZ.out
      have fz1 := frozen_of_row v2 (w1.heap.size + 1) 1 _ _ HZ.out
      go_upto_region 11 with fail
      generalize hX : (v2.setCell ⟨w1.heap.size + 1, 0, none⟩ (.int .i64 0)).setCell ⟨w1.heap.size + 1, 1, none⟩ (.int .i64 0) = v3
      have HZ3 : v3.heap[w1.heap.size + 1]? = some (.cells #[.int .i64 0, .int .i64 0] 39 (0, 0)) := by rw [← hX]; exact heap_setCell_same _ _ 1 _ _ _ (heap_setCell_same v2 _ 0 _ _ _ HZ.out)
      have HY3 : v3.heap[w1.heap.size]? = some (.cells #[.int .i64 0, .int .i64 0] 39 (0, 0)) := by rw [← hX]; exact (heap_setCell_other _ _ _ _ (by simp)).trans ((heap_setCell_other _ _ _ _ (by simp)).trans HY1.out)
      have sw1 := HBw1.out.size
      have HBv3 := Lib.hid (show Below w.heap.size w v3 by rw [← hX]; exact (HBv2.out.setCell (by simp only; omega) _).setCell (by simp only; omega) _)
      clear hX p0 p1 q0 q1 fz0 fz1
      obtain ⟨p0, p1⟩ := row2_cells HY3
      obtain ⟨q0, q1⟩ := row2_cells HZ3
      clear HY3 HZ3
      go_wp2_with fail
      go_roundw
      case rel => exact ⟨3 + 1, by omega, rfl, HBv3.out⟩
      case measure => simp [intOf]
    ·
      go_wp2_with fail
      rw [X4.out]
      refine (P4.out _ (HR.out.below HBwr.out)).mono ?_
      rintro e1 w1 ⟨rfl, hbw1⟩
      have HBw1 := Lib.hid (HBwr.out.trans (hbw1.mono HBwr.out.size))
      clear hbw1
      go_upto_region 8 with fail
      generalize hX : w1.alloc (.cells #[.int .i64 0, .int .i64 0] 39) = v1
      have sv1 : v1.heap.size = w1.heap.size + 1 := by rw [← hX]; simp
      have bv1 : Below w1.heap.size w1 v1 := by rw [← hX]; exact (Below.refl _ _).alloc (Nat.le_refl _) _
      have HYv1 := Lib.hid (show v1.heap[w1.heap.size]? = some (.cells #[.int .i64 0, .int .i64 0] 39 (0, 0)) by rw [← hX]; exact heap_alloc_new w1 _)
      have HBv1 := Lib.hid (HBw1.out.trans (bv1.mono HBw1.out.size))
      clear hX
      go_upto_region 9 with fail
      generalize hX : v1.alloc (.cells #[.int .i64 n, .int .i64 (min 4 2)] 39) = v2
      have sv2 : v2.heap.size = v1.heap.size + 1 := by rw [← hX]; simp
      have bv2 : Below v1.heap.size v1 v2 := by rw [← hX]; exact (Below.refl _ _).alloc (Nat.le_refl _) _
      have HYv2 := Lib.hid (show v2.heap[v1.heap.size]? = some (.cells #[.int .i64 n, .int .i64 (min 4 2)] 39 (0, 0)) by rw [← hX]; exact heap_alloc_new v1 _)
      have HBv2 := Lib.hid (HBv1.out.trans (bv2.mono HBv1.out.size))
      clear hX
      have HY1 := Lib.hid ((bv2.block w1.heap.size (by omega)).trans HYv1.out)
      obtain ⟨p0, p1⟩ := row2_cells HY1.out
      have HZ := Lib.hid (show v2.heap[v1.heap.size]? = some (.cells #[.int .i64 n, .int .i64 2] 39 (0, 0)) from HYv2.out)
      rw [sv1] at HZ
      have LT1 : w1.heap.size < v2.heap.size := by omega
      have LT2 : w1.heap.size + 1 < v2.heap.size := by omega
      obtain ⟨q0, q1⟩ := row2_cells HZ.out
      have fz0 := frozen_of_row v2 (w1.heap.size + 1) 0 _ _ HZ.out
      have fz1 := frozen_of_row v2 (w1.heap.size + 1) 1 _ _ HZ.out
      go_upto_region 11 with fail
      generalize hX : (v2.setCell ⟨w1.heap.size + 1, 0, none⟩ (.int .i64 0)).setCell ⟨w1.heap.size + 1, 1, none⟩ (.int .i64 0) = v3
      have HZ3 : v3.heap[w1.heap.size + 1]? = some (.cells #[.int .i64 0, .int .i64 0] 39 (0, 0)) := by rw [← hX]; exact heap_setCell_same _ _ 1 _ _ _ (heap_setCell_same v2 _ 0 _ _ _ HZ.out)
      have HY3 : v3.heap[w1.heap.size]? = some (.cells #[.int .i64 0, .int .i64 0] 39 (0, 0)) := by rw [← hX]; exact (heap_setCell_other _ _ _ _ (by simp)).trans ((heap_setCell_other _ _ _ _ (by simp)).trans HY1.out)
      have sw1 := HBw1.out.size
      have HBv3 := Lib.hid (show Below w.heap.size w v3 by rw [← hX]; exact (HBv2.out.setCell (by simp only; omega) _).setCell (by simp only; omega) _)
      clear hX p0 p1 q0 q1 fz0 fz1
      obtain ⟨p0, p1⟩ := row2_cells HY3
      obtain ⟨q0, q1⟩ := row2_cells HZ3
      clear HY3 HZ3
      go_wp2_with fail
      go_roundw
      case rel => exact ⟨4 + 1, by omega, rfl, HBv3.out⟩
      case measure => simp [intOf]
    · go_wp2_with fail
      refine (P5.out _ (HR.out.below HBwr.out)).mono ?_
      rintro e w1 ⟨rfl, hbw1⟩
      have HBw1 := Lib.hid (HBwr.out.trans (hbw1.mono HBwr.out.size))
      clear hbw1
      go_upto_region 14 with fail
      generalize hX : w1.alloc (.cells #[.int .i64 n5, .int .i64 k5] 39) = v1
      have sv1 : v1.heap.size = w1.heap.size + 1 := by rw [← hX]; simp
      have bv1 : Below w1.heap.size w1 v1 := by rw [← hX]; exact (Below.refl _ _).alloc (Nat.le_refl _) _
      have HYv1 := Lib.hid (show v1.heap[w1.heap.size]? = some (.cells #[.int .i64 n5, .int .i64 k5] 39 (0, 0)) by rw [← hX]; exact heap_alloc_new w1 _)
      have HBv1 := Lib.hid (HBw1.out.trans (bv1.mono HBw1.out.size))
      clear hX
      go_wp2_with fail
      refine (awake_any _ (HR.out.below HBv1.out)).mono ?_
      rintro e w2 ⟨rfl, hbw2⟩
      have HBw2 := Lib.hid (HBv1.out.trans (hbw2.mono HBv1.out.size))
      clear hbw2
      go_wp2_with fail
      go_ret
      exact ⟨rfl, HBw2.out⟩
theorem walk (l : List UInt8) (w : World) (h : Reads w) : Calls Tryd.prog 6 #[.string ⟨l.toArray⟩] w (One w) := by
  by_cases hl : 40 < (⟨l.toArray⟩ : ByteArray).size
  · exact walk_long l w h hl
  · have hl2 : l.length ≤ 40 := by
      have : (⟨l.toArray⟩ : ByteArray).size = l.length := by show l.toArray.size = _; simp
      omega
    have hS : SpIs l (spI l).1 (spI l).2 := fun w h => cspan l w (by omega) h.t
    have hP : ∀ L : List UInt8, L.length ≤ 1000 → PIs L (psI L).1 (psI L).2.1 (psI L).2.2 := pis_any
    by_cases hz : (spI l).2 = 0
    · have hL : ∀ c, letter c → PIs (l ++ [c]) (spI l).1 (kLet c) 0 := fun c hc => by
        have := hP (l ++ [c]) (by simp; omega)
        rwa [psI_letter l c hc, if_pos hz] at this
      have h5 := hP l (by omega)
      rw [psI_span hz] at h5
      rw [hz] at hS
      exact walk_ok l _ w h hl hS (hL 119 (by unfold letter; decide)) (hL 115 (by unfold letter; decide)) (hL 117 (by unfold letter; decide)) (hL 103 (by unfold letter; decide)) (hL 122 (by unfold letter; decide)) h5
    · have hL : ∀ c, letter c → PIs (l ++ [c]) 0 0 (spI l).2 := fun c hc => by
        have := hP (l ++ [c]) (by simp; omega)
        rwa [psI_letter l c hc, if_neg hz] at this
      exact walk_err l _ _ _ _ _ w h hl (bne_iff_ne.2 hz) hS (hL 119 (by unfold letter; decide)) (hL 115 (by unfold letter; decide)) (hL 117 (by unfold letter; decide)) (hL 103 (by unfold letter; decide)) (hL 122 (by unfold letter; decide)) (hP l (by omega))
end Go.Proofs.YtbejbagpdjfgmaaDoor.clockLetters
