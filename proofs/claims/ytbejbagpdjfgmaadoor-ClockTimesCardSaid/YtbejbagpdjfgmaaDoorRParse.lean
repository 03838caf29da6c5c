/-
  THE WALK of the document's Parse.
-/
import Derived.Test.YtbejbagpdjfgmaaDoorCkSpans
namespace Go.Proofs.YtbejbagpdjfgmaaDoor
open Go Go.RowKit
/-- the document's Span answers this -/
def RSp (r : List UInt8) (n e : Int) : Prop := ∀ w, Calls Tryd.prog 22 #[.string ⟨r.toArray⟩] w fun e' w' => e' = .returned (.tuple #[.int .i64 n, .int .i64 e]) ∧ Below w.heap.size w w'
set_option maxRecDepth 100000 in
set_option maxHeartbeats 4000000 in
theorem rparse_s (l : List UInt8) (c : UInt8) (n f : Int) (w : World) (hl : l.length ≤ 999) (hc : c = 115) (hS : RSp l n f) (hf : (f != 0) = false) :
    Calls Tryd.prog 23 #[.string ⟨(l ++ [c]).toArray⟩] w fun e w' => e = .returned (.tuple #[.agg #[.int .i64 n, .int .i64 1], .int .i64 0]) ∧ Below w.heap.size w w' := by
  have HSp := Lib.hid hS
  obtain ⟨LC, hLC⟩ : ∃ LC, l ++ [c] = LC := ⟨_, rfl⟩
  have hl0 : LC.length - 1 < LC.length := by rw [← hLC]; simp
  have hg : LC.getD (LC.length - 1) 0 = c := by rw [← hLC]; simp [List.getD]
  have hy := byte_at LC (LC.length - 1) hl0
  rw [hg] at hy
  have XI := Lib.hid (show (⟨LC.toArray⟩ : ByteArray).extract 0 (LC.length - 1) = ⟨l.toArray⟩ by rw [← hLC]; exact ext_init l c)
  have hl2 : (LC.length : Int) ≤ 1000 := by rw [← hLC]; simp; omega
  have hl1 : 0 < (LC.length : Int) := by rw [← hLC]; simp
  rw [hLC]
  try rw [hLC] at HSp
  clear hLC hg hS hl
  (obtain rfl : f = 0 := by simpa using hf)  ; subst hc; skip
  go_enter Tryd.func23, Tryd.ntmps23
  go_upto_region 1 with fail
  generalize hW0 : w.alloc (.cells #[.int .i64 0, .int .i64 0] 39) = W0
  have b0' : Below w.heap.size w W0 := by rw [← hW0]; exact (Below.refl _ _).alloc (Nat.le_refl _) _
  have k0 : W0.heap[w.heap.size]? = some (boxC 0 0) := by rw [← hW0]; exact heap_alloc_new w _
  have s0 : W0.heap.size = w.heap.size + 1 := by rw [← hW0]; simp
  have HB0 := Lib.hid b0'
  have HK0 := Lib.hid k0
  clear hW0 b0' k0
  go_wp2_with fail
  rw [XI.out]
  refine (HSp.out _).mono ?_
  rintro e W2 ⟨rfl, hb2⟩
  have kc := (hb2.block w.heap.size (by omega)).trans HK0.out
  have z0 : W2.cell? ⟨w.heap.size, 0, none⟩ = some (.int .i64 0) := cell_of_row W2 _ 0 _ _ _ kc
  have z1 : W2.cell? ⟨w.heap.size, 1, none⟩ = some (.int .i64 0) := cell_of_row W2 _ 1 _ _ _ kc
  have fz0 := frozen_of_row W2 w.heap.size 0 _ _ kc
  have fz1 := frozen_of_row W2 w.heap.size 1 _ _ kc
  have HB2 := Lib.hid (HB0.out.trans (hb2.mono (by omega)))
  have HKc := Lib.hid kc
  clear hb2 kc
  go_wp2_with fail
  refine ret_row_tmp (B := w.heap.size) _ rfl rfl rfl (heap_setCell_same _ _ 1 _ _ _ (heap_setCell_same W2 w.heap.size 0 _ _ _ HKc.out)) Tryd.underlying39 rfl szC ⟨rfl, (HB2.out.setCell (by simp only; omega) _).setCell (by simp only; omega) _⟩
set_option maxRecDepth 100000 in
set_option maxHeartbeats 4000000 in
theorem rparse_se (l : List UInt8) (c : UInt8) (n f : Int) (w : World) (hl : l.length ≤ 999) (hc : c = 115) (hS : RSp l n f) (hf : (f != 0) = true) :
    Calls Tryd.prog 23 #[.string ⟨(l ++ [c]).toArray⟩] w fun e w' => e = .returned (.tuple #[.agg #[.int .i64 0, .int .i64 0], .int .i64 f]) ∧ Below w.heap.size w w' := by
  have HSp := Lib.hid hS
  obtain ⟨LC, hLC⟩ : ∃ LC, l ++ [c] = LC := ⟨_, rfl⟩
  have hl0 : LC.length - 1 < LC.length := by rw [← hLC]; simp
  have hg : LC.getD (LC.length - 1) 0 = c := by rw [← hLC]; simp [List.getD]
  have hy := byte_at LC (LC.length - 1) hl0
  rw [hg] at hy
  have XI := Lib.hid (show (⟨LC.toArray⟩ : ByteArray).extract 0 (LC.length - 1) = ⟨l.toArray⟩ by rw [← hLC]; exact ext_init l c)
  have hl2 : (LC.length : Int) ≤ 1000 := by rw [← hLC]; simp; omega
  have hl1 : 0 < (LC.length : Int) := by rw [← hLC]; simp
  rw [hLC]
  try rw [hLC] at HSp
  clear hLC hg hS hl
  subst hc
  go_enter Tryd.func23, Tryd.ntmps23
  go_upto_region 1 with fail
  generalize hW0 : w.alloc (.cells #[.int .i64 0, .int .i64 0] 39) = W0
  have b0' : Below w.heap.size w W0 := by rw [← hW0]; exact (Below.refl _ _).alloc (Nat.le_refl _) _
  have k0 : W0.heap[w.heap.size]? = some (boxC 0 0) := by rw [← hW0]; exact heap_alloc_new w _
  have s0 : W0.heap.size = w.heap.size + 1 := by rw [← hW0]; simp
  have HB0 := Lib.hid b0'
  have HK0 := Lib.hid k0
  clear hW0 b0' k0
  go_wp2_with fail
  rw [XI.out]
  refine (HSp.out _).mono ?_
  rintro e W2 ⟨rfl, hb2⟩
  have kc := (hb2.block w.heap.size (by omega)).trans HK0.out
  have z0 : W2.cell? ⟨w.heap.size, 0, none⟩ = some (.int .i64 0) := cell_of_row W2 _ 0 _ _ _ kc
  have z1 : W2.cell? ⟨w.heap.size, 1, none⟩ = some (.int .i64 0) := cell_of_row W2 _ 1 _ _ _ kc
  have fz0 := frozen_of_row W2 w.heap.size 0 _ _ kc
  have fz1 := frozen_of_row W2 w.heap.size 1 _ _ kc
  have HB2 := Lib.hid (HB0.out.trans (hb2.mono (by omega)))
  have HKc := Lib.hid kc
  clear hb2 kc
  go_wp2_with fail
  refine ret_row_tmp (B := w.heap.size) _ rfl rfl rfl (heap_setCell_same _ _ 1 _ _ _ (heap_setCell_same W2 w.heap.size 0 _ _ _ HKc.out)) Tryd.underlying39 rfl szC ⟨rfl, (HB2.out.setCell (by simp only; omega) _).setCell (by simp only; omega) _⟩
set_option maxRecDepth 100000 in
set_option maxHeartbeats 4000000 in
theorem rparse_u (l : List UInt8) (c : UInt8) (n f : Int) (w : World) (hl : l.length ≤ 999) (hc : c = 117) (hS : RSp l n f) (hf : (f != 0) = false) :
    Calls Tryd.prog 23 #[.string ⟨(l ++ [c]).toArray⟩] w fun e w' => e = .returned (.tuple #[.agg #[.int .i64 n, .int .i64 2], .int .i64 0]) ∧ Below w.heap.size w w' := by
  have HSp := Lib.hid hS
  obtain ⟨LC, hLC⟩ : ∃ LC, l ++ [c] = LC := ⟨_, rfl⟩
  have hl0 : LC.length - 1 < LC.length := by rw [← hLC]; simp
  have hg : LC.getD (LC.length - 1) 0 = c := by rw [← hLC]; simp [List.getD]
  have hy := byte_at LC (LC.length - 1) hl0
  rw [hg] at hy
  have XI := Lib.hid (show (⟨LC.toArray⟩ : ByteArray).extract 0 (LC.length - 1) = ⟨l.toArray⟩ by rw [← hLC]; exact ext_init l c)
  have hl2 : (LC.length : Int) ≤ 1000 := by rw [← hLC]; simp; omega
  have hl1 : 0 < (LC.length : Int) := by rw [← hLC]; simp
  rw [hLC]
  try rw [hLC] at HSp
  clear hLC hg hS hl
  (obtain rfl : f = 0 := by simpa using hf)  ; subst hc; skip
  go_enter Tryd.func23, Tryd.ntmps23
  go_upto_region 1 with fail
  generalize hW0 : w.alloc (.cells #[.int .i64 0, .int .i64 0] 39) = W0
  have b0' : Below w.heap.size w W0 := by rw [← hW0]; exact (Below.refl _ _).alloc (Nat.le_refl _) _
  have k0 : W0.heap[w.heap.size]? = some (boxC 0 0) := by rw [← hW0]; exact heap_alloc_new w _
  have s0 : W0.heap.size = w.heap.size + 1 := by rw [← hW0]; simp
  have HB0 := Lib.hid b0'
  have HK0 := Lib.hid k0
  clear hW0 b0' k0
  go_wp2_with fail
  rw [XI.out]
  refine (HSp.out _).mono ?_
  rintro e W2 ⟨rfl, hb2⟩
  have kc := (hb2.block w.heap.size (by omega)).trans HK0.out
  have z0 : W2.cell? ⟨w.heap.size, 0, none⟩ = some (.int .i64 0) := cell_of_row W2 _ 0 _ _ _ kc
  have z1 : W2.cell? ⟨w.heap.size, 1, none⟩ = some (.int .i64 0) := cell_of_row W2 _ 1 _ _ _ kc
  have fz0 := frozen_of_row W2 w.heap.size 0 _ _ kc
  have fz1 := frozen_of_row W2 w.heap.size 1 _ _ kc
  have HB2 := Lib.hid (HB0.out.trans (hb2.mono (by omega)))
  have HKc := Lib.hid kc
  clear hb2 kc
  go_wp2_with fail
  refine ret_row_tmp (B := w.heap.size) _ rfl rfl rfl (heap_setCell_same _ _ 1 _ _ _ (heap_setCell_same W2 w.heap.size 0 _ _ _ HKc.out)) Tryd.underlying39 rfl szC ⟨rfl, (HB2.out.setCell (by simp only; omega) _).setCell (by simp only; omega) _⟩
set_option maxRecDepth 100000 in
set_option maxHeartbeats 4000000 in
theorem rparse_ue (l : List UInt8) (c : UInt8) (n f : Int) (w : World) (hl : l.length ≤ 999) (hc : c = 117) (hS : RSp l n f) (hf : (f != 0) = true) :
    Calls Tryd.prog 23 #[.string ⟨(l ++ [c]).toArray⟩] w fun e w' => e = .returned (.tuple #[.agg #[.int .i64 0, .int .i64 0], .int .i64 f]) ∧ Below w.heap.size w w' := by
  have HSp := Lib.hid hS
  obtain ⟨LC, hLC⟩ : ∃ LC, l ++ [c] = LC := ⟨_, rfl⟩
  have hl0 : LC.length - 1 < LC.length := by rw [← hLC]; simp
  have hg : LC.getD (LC.length - 1) 0 = c := by rw [← hLC]; simp [List.getD]
  have hy := byte_at LC (LC.length - 1) hl0
  rw [hg] at hy
  have XI := Lib.hid (show (⟨LC.toArray⟩ : ByteArray).extract 0 (LC.length - 1) = ⟨l.toArray⟩ by rw [← hLC]; exact ext_init l c)
  have hl2 : (LC.length : Int) ≤ 1000 := by rw [← hLC]; simp; omega
  have hl1 : 0 < (LC.length : Int) := by rw [← hLC]; simp
  rw [hLC]
  try rw [hLC] at HSp
  clear hLC hg hS hl
  subst hc
  go_enter Tryd.func23, Tryd.ntmps23
  go_upto_region 1 with fail
  generalize hW0 : w.alloc (.cells #[.int .i64 0, .int .i64 0] 39) = W0
  have b0' : Below w.heap.size w W0 := by rw [← hW0]; exact (Below.refl _ _).alloc (Nat.le_refl _) _
  have k0 : W0.heap[w.heap.size]? = some (boxC 0 0) := by rw [← hW0]; exact heap_alloc_new w _
  have s0 : W0.heap.size = w.heap.size + 1 := by rw [← hW0]; simp
  have HB0 := Lib.hid b0'
  have HK0 := Lib.hid k0
  clear hW0 b0' k0
  go_wp2_with fail
  rw [XI.out]
  refine (HSp.out _).mono ?_
  rintro e W2 ⟨rfl, hb2⟩
  have kc := (hb2.block w.heap.size (by omega)).trans HK0.out
  have z0 : W2.cell? ⟨w.heap.size, 0, none⟩ = some (.int .i64 0) := cell_of_row W2 _ 0 _ _ _ kc
  have z1 : W2.cell? ⟨w.heap.size, 1, none⟩ = some (.int .i64 0) := cell_of_row W2 _ 1 _ _ _ kc
  have fz0 := frozen_of_row W2 w.heap.size 0 _ _ kc
  have fz1 := frozen_of_row W2 w.heap.size 1 _ _ kc
  have HB2 := Lib.hid (HB0.out.trans (hb2.mono (by omega)))
  have HKc := Lib.hid kc
  clear hb2 kc
  go_wp2_with fail
  refine ret_row_tmp (B := w.heap.size) _ rfl rfl rfl (heap_setCell_same _ _ 1 _ _ _ (heap_setCell_same W2 w.heap.size 0 _ _ _ HKc.out)) Tryd.underlying39 rfl szC ⟨rfl, (HB2.out.setCell (by simp only; omega) _).setCell (by simp only; omega) _⟩
set_option maxRecDepth 100000 in
set_option maxHeartbeats 4000000 in
theorem rparse_g (l : List UInt8) (c : UInt8) (n f : Int) (w : World) (hl : l.length ≤ 999) (hc : c = 103) (hS : RSp l n f) (hf : (f != 0) = false) :
    Calls Tryd.prog 23 #[.string ⟨(l ++ [c]).toArray⟩] w fun e w' => e = .returned (.tuple #[.agg #[.int .i64 n, .int .i64 2], .int .i64 0]) ∧ Below w.heap.size w w' := by
  have HSp := Lib.hid hS
  obtain ⟨LC, hLC⟩ : ∃ LC, l ++ [c] = LC := ⟨_, rfl⟩
  have hl0 : LC.length - 1 < LC.length := by rw [← hLC]; simp
  have hg : LC.getD (LC.length - 1) 0 = c := by rw [← hLC]; simp [List.getD]
  have hy := byte_at LC (LC.length - 1) hl0
  rw [hg] at hy
  have XI := Lib.hid (show (⟨LC.toArray⟩ : ByteArray).extract 0 (LC.length - 1) = ⟨l.toArray⟩ by rw [← hLC]; exact ext_init l c)
  have hl2 : (LC.length : Int) ≤ 1000 := by rw [← hLC]; simp; omega
  have hl1 : 0 < (LC.length : Int) := by rw [← hLC]; simp
  rw [hLC]
  try rw [hLC] at HSp
  clear hLC hg hS hl
  (obtain rfl : f = 0 := by simpa using hf)  ; subst hc; skip
  go_enter Tryd.func23, Tryd.ntmps23
  go_upto_region 1 with fail
  generalize hW0 : w.alloc (.cells #[.int .i64 0, .int .i64 0] 39) = W0
  have b0' : Below w.heap.size w W0 := by rw [← hW0]; exact (Below.refl _ _).alloc (Nat.le_refl _) _
  have k0 : W0.heap[w.heap.size]? = some (boxC 0 0) := by rw [← hW0]; exact heap_alloc_new w _
  have s0 : W0.heap.size = w.heap.size + 1 := by rw [← hW0]; simp
  have HB0 := Lib.hid b0'
  have HK0 := Lib.hid k0
  clear hW0 b0' k0
  go_wp2_with fail
  rw [XI.out]
  refine (HSp.out _).mono ?_
  rintro e W2 ⟨rfl, hb2⟩
  have kc := (hb2.block w.heap.size (by omega)).trans HK0.out
  have z0 : W2.cell? ⟨w.heap.size, 0, none⟩ = some (.int .i64 0) := cell_of_row W2 _ 0 _ _ _ kc
  have z1 : W2.cell? ⟨w.heap.size, 1, none⟩ = some (.int .i64 0) := cell_of_row W2 _ 1 _ _ _ kc
  have fz0 := frozen_of_row W2 w.heap.size 0 _ _ kc
  have fz1 := frozen_of_row W2 w.heap.size 1 _ _ kc
  have HB2 := Lib.hid (HB0.out.trans (hb2.mono (by omega)))
  have HKc := Lib.hid kc
  clear hb2 kc
  go_wp2_with fail
  refine ret_row_tmp (B := w.heap.size) _ rfl rfl rfl (heap_setCell_same _ _ 1 _ _ _ (heap_setCell_same W2 w.heap.size 0 _ _ _ HKc.out)) Tryd.underlying39 rfl szC ⟨rfl, (HB2.out.setCell (by simp only; omega) _).setCell (by simp only; omega) _⟩
set_option maxRecDepth 100000 in
set_option maxHeartbeats 4000000 in
theorem rparse_ge (l : List UInt8) (c : UInt8) (n f : Int) (w : World) (hl : l.length ≤ 999) (hc : c = 103) (hS : RSp l n f) (hf : (f != 0) = true) :
    Calls Tryd.prog 23 #[.string ⟨(l ++ [c]).toArray⟩] w fun e w' => e = .returned (.tuple #[.agg #[.int .i64 0, .int .i64 0], .int .i64 f]) ∧ Below w.heap.size w w' := by
  have HSp := Lib.hid hS
  obtain ⟨LC, hLC⟩ : ∃ LC, l ++ [c] = LC := ⟨_, rfl⟩
  have hl0 : LC.length - 1 < LC.length := by rw [← hLC]; simp
  have hg : LC.getD (LC.length - 1) 0 = c := by rw [← hLC]; simp [List.getD]
  have hy := byte_at LC (LC.length - 1) hl0
  rw [hg] at hy
  have XI := Lib.hid (show (⟨LC.toArray⟩ : ByteArray).extract 0 (LC.length - 1) = ⟨l.toArray⟩ by rw [← hLC]; exact ext_init l c)
  have hl2 : (LC.length : Int) ≤ 1000 := by rw [← hLC]; simp; omega
  have hl1 : 0 < (LC.length : Int) := by rw [← hLC]; simp
  rw [hLC]
  try rw [hLC] at HSp
  clear hLC hg hS hl
  subst hc
  go_enter Tryd.func23, Tryd.ntmps23
  go_upto_region 1 with fail
  generalize hW0 : w.alloc (.cells #[.int .i64 0, .int .i64 0] 39) = W0
  have b0' : Below w.heap.size w W0 := by rw [← hW0]; exact (Below.refl _ _).alloc (Nat.le_refl _) _
  have k0 : W0.heap[w.heap.size]? = some (boxC 0 0) := by rw [← hW0]; exact heap_alloc_new w _
  have s0 : W0.heap.size = w.heap.size + 1 := by rw [← hW0]; simp
  have HB0 := Lib.hid b0'
  have HK0 := Lib.hid k0
  clear hW0 b0' k0
  go_wp2_with fail
  rw [XI.out]
  refine (HSp.out _).mono ?_
  rintro e W2 ⟨rfl, hb2⟩
  have kc := (hb2.block w.heap.size (by omega)).trans HK0.out
  have z0 : W2.cell? ⟨w.heap.size, 0, none⟩ = some (.int .i64 0) := cell_of_row W2 _ 0 _ _ _ kc
  have z1 : W2.cell? ⟨w.heap.size, 1, none⟩ = some (.int .i64 0) := cell_of_row W2 _ 1 _ _ _ kc
  have fz0 := frozen_of_row W2 w.heap.size 0 _ _ kc
  have fz1 := frozen_of_row W2 w.heap.size 1 _ _ kc
  have HB2 := Lib.hid (HB0.out.trans (hb2.mono (by omega)))
  have HKc := Lib.hid kc
  clear hb2 kc
  go_wp2_with fail
  refine ret_row_tmp (B := w.heap.size) _ rfl rfl rfl (heap_setCell_same _ _ 1 _ _ _ (heap_setCell_same W2 w.heap.size 0 _ _ _ HKc.out)) Tryd.underlying39 rfl szC ⟨rfl, (HB2.out.setCell (by simp only; omega) _).setCell (by simp only; omega) _⟩
set_option maxRecDepth 100000 in
set_option maxHeartbeats 4000000 in
theorem rparse_z (l : List UInt8) (c : UInt8) (n f : Int) (w : World) (hl : l.length ≤ 999) (hc : c = 122) (hS : RSp l n f) (hf : (f != 0) = false) :
    Calls Tryd.prog 23 #[.string ⟨(l ++ [c]).toArray⟩] w fun e w' => e = .returned (.tuple #[.agg #[.int .i64 n, .int .i64 2], .int .i64 0]) ∧ Below w.heap.size w w' := by
  have HSp := Lib.hid hS
  obtain ⟨LC, hLC⟩ : ∃ LC, l ++ [c] = LC := ⟨_, rfl⟩
  have hl0 : LC.length - 1 < LC.length := by rw [← hLC]; simp
  have hg : LC.getD (LC.length - 1) 0 = c := by rw [← hLC]; simp [List.getD]
  have hy := byte_at LC (LC.length - 1) hl0
  rw [hg] at hy
  have XI := Lib.hid (show (⟨LC.toArray⟩ : ByteArray).extract 0 (LC.length - 1) = ⟨l.toArray⟩ by rw [← hLC]; exact ext_init l c)
  have hl2 : (LC.length : Int) ≤ 1000 := by rw [← hLC]; simp; omega
  have hl1 : 0 < (LC.length : Int) := by rw [← hLC]; simp
  rw [hLC]
  try rw [hLC] at HSp
  clear hLC hg hS hl
  (obtain rfl : f = 0 := by simpa using hf)  ; subst hc; skip
  go_enter Tryd.func23, Tryd.ntmps23
  go_upto_region 1 with fail
  generalize hW0 : w.alloc (.cells #[.int .i64 0, .int .i64 0] 39) = W0
  have b0' : Below w.heap.size w W0 := by rw [← hW0]; exact (Below.refl _ _).alloc (Nat.le_refl _) _
  have k0 : W0.heap[w.heap.size]? = some (boxC 0 0) := by rw [← hW0]; exact heap_alloc_new w _
  have s0 : W0.heap.size = w.heap.size + 1 := by rw [← hW0]; simp
  have HB0 := Lib.hid b0'
  have HK0 := Lib.hid k0
  clear hW0 b0' k0
  go_wp2_with fail
  rw [XI.out]
  refine (HSp.out _).mono ?_
  rintro e W2 ⟨rfl, hb2⟩
  have kc := (hb2.block w.heap.size (by omega)).trans HK0.out
  have z0 : W2.cell? ⟨w.heap.size, 0, none⟩ = some (.int .i64 0) := cell_of_row W2 _ 0 _ _ _ kc
  have z1 : W2.cell? ⟨w.heap.size, 1, none⟩ = some (.int .i64 0) := cell_of_row W2 _ 1 _ _ _ kc
  have fz0 := frozen_of_row W2 w.heap.size 0 _ _ kc
  have fz1 := frozen_of_row W2 w.heap.size 1 _ _ kc
  have HB2 := Lib.hid (HB0.out.trans (hb2.mono (by omega)))
  have HKc := Lib.hid kc
  clear hb2 kc
  go_wp2_with fail
  refine ret_row_tmp (B := w.heap.size) _ rfl rfl rfl (heap_setCell_same _ _ 1 _ _ _ (heap_setCell_same W2 w.heap.size 0 _ _ _ HKc.out)) Tryd.underlying39 rfl szC ⟨rfl, (HB2.out.setCell (by simp only; omega) _).setCell (by simp only; omega) _⟩
set_option maxRecDepth 100000 in
set_option maxHeartbeats 4000000 in
theorem rparse_ze (l : List UInt8) (c : UInt8) (n f : Int) (w : World) (hl : l.length ≤ 999) (hc : c = 122) (hS : RSp l n f) (hf : (f != 0) = true) :
    Calls Tryd.prog 23 #[.string ⟨(l ++ [c]).toArray⟩] w fun e w' => e = .returned (.tuple #[.agg #[.int .i64 0, .int .i64 0], .int .i64 f]) ∧ Below w.heap.size w w' := by
  have HSp := Lib.hid hS
  obtain ⟨LC, hLC⟩ : ∃ LC, l ++ [c] = LC := ⟨_, rfl⟩
  have hl0 : LC.length - 1 < LC.length := by rw [← hLC]; simp
  have hg : LC.getD (LC.length - 1) 0 = c := by rw [← hLC]; simp [List.getD]
  have hy := byte_at LC (LC.length - 1) hl0
  rw [hg] at hy
  have XI := Lib.hid (show (⟨LC.toArray⟩ : ByteArray).extract 0 (LC.length - 1) = ⟨l.toArray⟩ by rw [← hLC]; exact ext_init l c)
  have hl2 : (LC.length : Int) ≤ 1000 := by rw [← hLC]; simp; omega
  have hl1 : 0 < (LC.length : Int) := by rw [← hLC]; simp
  rw [hLC]
  try rw [hLC] at HSp
  clear hLC hg hS hl
  subst hc
  go_enter Tryd.func23, Tryd.ntmps23
  go_upto_region 1 with fail
  generalize hW0 : w.alloc (.cells #[.int .i64 0, .int .i64 0] 39) = W0
  have b0' : Below w.heap.size w W0 := by rw [← hW0]; exact (Below.refl _ _).alloc (Nat.le_refl _) _
  have k0 : W0.heap[w.heap.size]? = some (boxC 0 0) := by rw [← hW0]; exact heap_alloc_new w _
  have s0 : W0.heap.size = w.heap.size + 1 := by rw [← hW0]; simp
  have HB0 := Lib.hid b0'
  have HK0 := Lib.hid k0
  clear hW0 b0' k0
  go_wp2_with fail
  rw [XI.out]
  refine (HSp.out _).mono ?_
  rintro e W2 ⟨rfl, hb2⟩
  have kc := (hb2.block w.heap.size (by omega)).trans HK0.out
  have z0 : W2.cell? ⟨w.heap.size, 0, none⟩ = some (.int .i64 0) := cell_of_row W2 _ 0 _ _ _ kc
  have z1 : W2.cell? ⟨w.heap.size, 1, none⟩ = some (.int .i64 0) := cell_of_row W2 _ 1 _ _ _ kc
  have fz0 := frozen_of_row W2 w.heap.size 0 _ _ kc
  have fz1 := frozen_of_row W2 w.heap.size 1 _ _ kc
  have HB2 := Lib.hid (HB0.out.trans (hb2.mono (by omega)))
  have HKc := Lib.hid kc
  clear hb2 kc
  go_wp2_with fail
  refine ret_row_tmp (B := w.heap.size) _ rfl rfl rfl (heap_setCell_same _ _ 1 _ _ _ (heap_setCell_same W2 w.heap.size 0 _ _ _ HKc.out)) Tryd.underlying39 rfl szC ⟨rfl, (HB2.out.setCell (by simp only; omega) _).setCell (by simp only; omega) _⟩
set_option maxRecDepth 100000 in
set_option maxHeartbeats 4000000 in
theorem rparse_w (l : List UInt8) (c : UInt8) (n f : Int) (w : World) (hl : l.length ≤ 999) (hc : c = 119) (hS : RSp l n f) (hf : (f != 0) = false) :
    Calls Tryd.prog 23 #[.string ⟨(l ++ [c]).toArray⟩] w fun e w' => e = .returned (.tuple #[.agg #[.int .i64 n, .int .i64 0], .int .i64 0]) ∧ Below w.heap.size w w' := by
  have HSp := Lib.hid hS
  obtain ⟨LC, hLC⟩ : ∃ LC, l ++ [c] = LC := ⟨_, rfl⟩
  have hl0 : LC.length - 1 < LC.length := by rw [← hLC]; simp
  have hg : LC.getD (LC.length - 1) 0 = c := by rw [← hLC]; simp [List.getD]
  have hy := byte_at LC (LC.length - 1) hl0
  rw [hg] at hy
  have XI := Lib.hid (show (⟨LC.toArray⟩ : ByteArray).extract 0 (LC.length - 1) = ⟨l.toArray⟩ by rw [← hLC]; exact ext_init l c)
  have hl2 : (LC.length : Int) ≤ 1000 := by rw [← hLC]; simp; omega
  have hl1 : 0 < (LC.length : Int) := by rw [← hLC]; simp
  rw [hLC]
  try rw [hLC] at HSp
  clear hLC hg hS hl
  (obtain rfl : f = 0 := by simpa using hf)  ; subst hc; skip
  go_enter Tryd.func23, Tryd.ntmps23
  go_upto_region 1 with fail
  generalize hW0 : w.alloc (.cells #[.int .i64 0, .int .i64 0] 39) = W0
  have b0' : Below w.heap.size w W0 := by rw [← hW0]; exact (Below.refl _ _).alloc (Nat.le_refl _) _
  have k0 : W0.heap[w.heap.size]? = some (boxC 0 0) := by rw [← hW0]; exact heap_alloc_new w _
  have s0 : W0.heap.size = w.heap.size + 1 := by rw [← hW0]; simp
  have HB0 := Lib.hid b0'
  have HK0 := Lib.hid k0
  clear hW0 b0' k0
  go_wp2_with fail
  rw [XI.out]
  refine (HSp.out _).mono ?_
  rintro e W2 ⟨rfl, hb2⟩
  have kc := (hb2.block w.heap.size (by omega)).trans HK0.out
  have z0 : W2.cell? ⟨w.heap.size, 0, none⟩ = some (.int .i64 0) := cell_of_row W2 _ 0 _ _ _ kc
  have z1 : W2.cell? ⟨w.heap.size, 1, none⟩ = some (.int .i64 0) := cell_of_row W2 _ 1 _ _ _ kc
  have fz0 := frozen_of_row W2 w.heap.size 0 _ _ kc
  have fz1 := frozen_of_row W2 w.heap.size 1 _ _ kc
  have HB2 := Lib.hid (HB0.out.trans (hb2.mono (by omega)))
  have HKc := Lib.hid kc
  clear hb2 kc
  go_wp2_with fail
  refine ret_row_tmp (B := w.heap.size) _ rfl rfl rfl (heap_setCell_same _ _ 1 _ _ _ (heap_setCell_same W2 w.heap.size 0 _ _ _ HKc.out)) Tryd.underlying39 rfl szC ⟨rfl, (HB2.out.setCell (by simp only; omega) _).setCell (by simp only; omega) _⟩
set_option maxRecDepth 100000 in
set_option maxHeartbeats 4000000 in
theorem rparse_we (l : List UInt8) (c : UInt8) (n f : Int) (w : World) (hl : l.length ≤ 999) (hc : c = 119) (hS : RSp l n f) (hf : (f != 0) = true) :
    Calls Tryd.prog 23 #[.string ⟨(l ++ [c]).toArray⟩] w fun e w' => e = .returned (.tuple #[.agg #[.int .i64 0, .int .i64 0], .int .i64 f]) ∧ Below w.heap.size w w' := by
  have HSp := Lib.hid hS
  obtain ⟨LC, hLC⟩ : ∃ LC, l ++ [c] = LC := ⟨_, rfl⟩
  have hl0 : LC.length - 1 < LC.length := by rw [← hLC]; simp
  have hg : LC.getD (LC.length - 1) 0 = c := by rw [← hLC]; simp [List.getD]
  have hy := byte_at LC (LC.length - 1) hl0
  rw [hg] at hy
  have XI := Lib.hid (show (⟨LC.toArray⟩ : ByteArray).extract 0 (LC.length - 1) = ⟨l.toArray⟩ by rw [← hLC]; exact ext_init l c)
  have hl2 : (LC.length : Int) ≤ 1000 := by rw [← hLC]; simp; omega
  have hl1 : 0 < (LC.length : Int) := by rw [← hLC]; simp
  rw [hLC]
  try rw [hLC] at HSp
  clear hLC hg hS hl
  subst hc
  go_enter Tryd.func23, Tryd.ntmps23
  go_upto_region 1 with fail
  generalize hW0 : w.alloc (.cells #[.int .i64 0, .int .i64 0] 39) = W0
  have b0' : Below w.heap.size w W0 := by rw [← hW0]; exact (Below.refl _ _).alloc (Nat.le_refl _) _
  have k0 : W0.heap[w.heap.size]? = some (boxC 0 0) := by rw [← hW0]; exact heap_alloc_new w _
  have s0 : W0.heap.size = w.heap.size + 1 := by rw [← hW0]; simp
  have HB0 := Lib.hid b0'
  have HK0 := Lib.hid k0
  clear hW0 b0' k0
  go_wp2_with fail
  rw [XI.out]
  refine (HSp.out _).mono ?_
  rintro e W2 ⟨rfl, hb2⟩
  have kc := (hb2.block w.heap.size (by omega)).trans HK0.out
  have z0 : W2.cell? ⟨w.heap.size, 0, none⟩ = some (.int .i64 0) := cell_of_row W2 _ 0 _ _ _ kc
  have z1 : W2.cell? ⟨w.heap.size, 1, none⟩ = some (.int .i64 0) := cell_of_row W2 _ 1 _ _ _ kc
  have fz0 := frozen_of_row W2 w.heap.size 0 _ _ kc
  have fz1 := frozen_of_row W2 w.heap.size 1 _ _ kc
  have HB2 := Lib.hid (HB0.out.trans (hb2.mono (by omega)))
  have HKc := Lib.hid kc
  clear hb2 kc
  go_wp2_with fail
  refine ret_row_tmp (B := w.heap.size) _ rfl rfl rfl (heap_setCell_same _ _ 1 _ _ _ (heap_setCell_same W2 w.heap.size 0 _ _ _ HKc.out)) Tryd.underlying39 rfl szC ⟨rfl, (HB2.out.setCell (by simp only; omega) _).setCell (by simp only; omega) _⟩
set_option maxRecDepth 100000 in
set_option maxHeartbeats 4000000 in
theorem rparse_o (l : List UInt8) (c : UInt8) (n f : Int) (w : World) (hl : l.length ≤ 999) (c1 : ((c.toNat : Int) == 115) = false) (c2 : ((c.toNat : Int) == 117) = false) (c3 : ((c.toNat : Int) == 103) = false) (c4 : ((c.toNat : Int) == 122) = false) (c5 : ((c.toNat : Int) == 119) = false) (hS : RSp (l ++ [c]) n f) (hf : (f != 0) = false) :
    Calls Tryd.prog 23 #[.string ⟨(l ++ [c]).toArray⟩] w fun e w' => e = .returned (.tuple #[.agg #[.int .i64 n, .int .i64 0], .int .i64 0]) ∧ Below w.heap.size w w' := by
  have HSp := Lib.hid hS
  obtain ⟨LC, hLC⟩ : ∃ LC, l ++ [c] = LC := ⟨_, rfl⟩
  have hl0 : LC.length - 1 < LC.length := by rw [← hLC]; simp
  have hg : LC.getD (LC.length - 1) 0 = c := by rw [← hLC]; simp [List.getD]
  have hy := byte_at LC (LC.length - 1) hl0
  rw [hg] at hy
  have XI := Lib.hid (show (⟨LC.toArray⟩ : ByteArray).extract 0 (LC.length - 1) = ⟨l.toArray⟩ by rw [← hLC]; exact ext_init l c)
  have hl2 : (LC.length : Int) ≤ 1000 := by rw [← hLC]; simp; omega
  have hl1 : 0 < (LC.length : Int) := by rw [← hLC]; simp
  rw [hLC]
  try rw [hLC] at HSp
  clear hLC hg hS hl
  (obtain rfl : f = 0 := by simpa using hf)
  go_enter Tryd.func23, Tryd.ntmps23
  go_upto_region 1 with fail
  generalize hW0 : w.alloc (.cells #[.int .i64 0, .int .i64 0] 39) = W0
  have b0' : Below w.heap.size w W0 := by rw [← hW0]; exact (Below.refl _ _).alloc (Nat.le_refl _) _
  have k0 : W0.heap[w.heap.size]? = some (boxC 0 0) := by rw [← hW0]; exact heap_alloc_new w _
  have s0 : W0.heap.size = w.heap.size + 1 := by rw [← hW0]; simp
  have HB0 := Lib.hid b0'
  have HK0 := Lib.hid k0
  clear hW0 b0' k0
  go_wp2_with fail
  skip
  refine (HSp.out _).mono ?_
  rintro e W2 ⟨rfl, hb2⟩
  have kc := (hb2.block w.heap.size (by omega)).trans HK0.out
  have z0 : W2.cell? ⟨w.heap.size, 0, none⟩ = some (.int .i64 0) := cell_of_row W2 _ 0 _ _ _ kc
  have z1 : W2.cell? ⟨w.heap.size, 1, none⟩ = some (.int .i64 0) := cell_of_row W2 _ 1 _ _ _ kc
  have fz0 := frozen_of_row W2 w.heap.size 0 _ _ kc
  have fz1 := frozen_of_row W2 w.heap.size 1 _ _ kc
  have HB2 := Lib.hid (HB0.out.trans (hb2.mono (by omega)))
  have HKc := Lib.hid kc
  clear hb2 kc
  go_wp2_with fail
  refine ret_row_tmp (B := w.heap.size) _ rfl rfl rfl (heap_setCell_same _ _ 1 _ _ _ (heap_setCell_same W2 w.heap.size 0 _ _ _ HKc.out)) Tryd.underlying39 rfl szC ⟨rfl, (HB2.out.setCell (by simp only; omega) _).setCell (by simp only; omega) _⟩
set_option maxRecDepth 100000 in
set_option maxHeartbeats 4000000 in
theorem rparse_oe (l : List UInt8) (c : UInt8) (n f : Int) (w : World) (hl : l.length ≤ 999) (c1 : ((c.toNat : Int) == 115) = false) (c2 : ((c.toNat : Int) == 117) = false) (c3 : ((c.toNat : Int) == 103) = false) (c4 : ((c.toNat : Int) == 122) = false) (c5 : ((c.toNat : Int) == 119) = false) (hS : RSp (l ++ [c]) n f) (hf : (f != 0) = true) :
    Calls Tryd.prog 23 #[.string ⟨(l ++ [c]).toArray⟩] w fun e w' => e = .returned (.tuple #[.agg #[.int .i64 0, .int .i64 0], .int .i64 f]) ∧ Below w.heap.size w w' := by
  have HSp := Lib.hid hS
  obtain ⟨LC, hLC⟩ : ∃ LC, l ++ [c] = LC := ⟨_, rfl⟩
  have hl0 : LC.length - 1 < LC.length := by rw [← hLC]; simp
  have hg : LC.getD (LC.length - 1) 0 = c := by rw [← hLC]; simp [List.getD]
  have hy := byte_at LC (LC.length - 1) hl0
  rw [hg] at hy
  have XI := Lib.hid (show (⟨LC.toArray⟩ : ByteArray).extract 0 (LC.length - 1) = ⟨l.toArray⟩ by rw [← hLC]; exact ext_init l c)
  have hl2 : (LC.length : Int) ≤ 1000 := by rw [← hLC]; simp; omega
  have hl1 : 0 < (LC.length : Int) := by rw [← hLC]; simp
  rw [hLC]
  try rw [hLC] at HSp
  clear hLC hg hS hl
  skip
  go_enter Tryd.func23, Tryd.ntmps23
  go_upto_region 1 with fail
  generalize hW0 : w.alloc (.cells #[.int .i64 0, .int .i64 0] 39) = W0
  have b0' : Below w.heap.size w W0 := by rw [← hW0]; exact (Below.refl _ _).alloc (Nat.le_refl _) _
  have k0 : W0.heap[w.heap.size]? = some (boxC 0 0) := by rw [← hW0]; exact heap_alloc_new w _
  have s0 : W0.heap.size = w.heap.size + 1 := by rw [← hW0]; simp
  have HB0 := Lib.hid b0'
  have HK0 := Lib.hid k0
  clear hW0 b0' k0
  go_wp2_with fail
  skip
  refine (HSp.out _).mono ?_
  rintro e W2 ⟨rfl, hb2⟩
  have kc := (hb2.block w.heap.size (by omega)).trans HK0.out
  have z0 : W2.cell? ⟨w.heap.size, 0, none⟩ = some (.int .i64 0) := cell_of_row W2 _ 0 _ _ _ kc
  have z1 : W2.cell? ⟨w.heap.size, 1, none⟩ = some (.int .i64 0) := cell_of_row W2 _ 1 _ _ _ kc
  have fz0 := frozen_of_row W2 w.heap.size 0 _ _ kc
  have fz1 := frozen_of_row W2 w.heap.size 1 _ _ kc
  have HB2 := Lib.hid (HB0.out.trans (hb2.mono (by omega)))
  have HKc := Lib.hid kc
  clear hb2 kc
  go_wp2_with fail
  refine ret_row_tmp (B := w.heap.size) _ rfl rfl rfl (heap_setCell_same _ _ 1 _ _ _ (heap_setCell_same W2 w.heap.size 0 _ _ _ HKc.out)) Tryd.underlying39 rfl szC ⟨rfl, (HB2.out.setCell (by simp only; omega) _).setCell (by simp only; omega) _⟩
set_option maxRecDepth 100000 in
set_option maxHeartbeats 2000000 in
theorem rparse_nil (w : World) :
    Calls Tryd.prog 23 #[.string ⟨#[]⟩] w fun e w' => e = .returned (.tuple #[.agg #[.int .i64 0, .int .i64 0], .int .i64 12]) ∧ Below w.heap.size w w' := by
  have HSp := Lib.hid (fun w => rspan_nil w)
  go_enter Tryd.func23, Tryd.ntmps23
  go_upto_region 1 with fail
  generalize hW0 : w.alloc (.cells #[.int .i64 0, .int .i64 0] 39) = W0
  have b0' : Below w.heap.size w W0 := by rw [← hW0]; exact (Below.refl _ _).alloc (Nat.le_refl _) _
  have k0 : W0.heap[w.heap.size]? = some (boxC 0 0) := by rw [← hW0]; exact heap_alloc_new w _
  have s0 : W0.heap.size = w.heap.size + 1 := by rw [← hW0]; simp
  have HB0 := Lib.hid b0'
  have HK0 := Lib.hid k0
  clear hW0 b0' k0
  go_wp2_with fail
  refine (HSp.out _).mono ?_
  rintro e W2 ⟨rfl, hb2⟩
  have kc := (hb2.block w.heap.size (by omega)).trans HK0.out
  have z0 : W2.cell? ⟨w.heap.size, 0, none⟩ = some (.int .i64 0) := cell_of_row W2 _ 0 _ _ _ kc
  have z1 : W2.cell? ⟨w.heap.size, 1, none⟩ = some (.int .i64 0) := cell_of_row W2 _ 1 _ _ _ kc
  have fz0 := frozen_of_row W2 w.heap.size 0 _ _ kc
  have fz1 := frozen_of_row W2 w.heap.size 1 _ _ kc
  have HB2 := Lib.hid (HB0.out.trans (hb2.mono (by omega)))
  have HKc := Lib.hid kc
  clear hb2 kc
  go_wp2_with fail
  refine ret_row_tmp (B := w.heap.size) _ rfl rfl rfl (heap_setCell_same _ _ 1 _ _ _ (heap_setCell_same W2 w.heap.size 0 _ _ _ HKc.out)) Tryd.underlying39 rfl szC ⟨rfl, (HB2.out.setCell (by simp only; omega) _).setCell (by simp only; omega) _⟩
theorem rparse_any (L : List UInt8) (hl : L.length ≤ 1000) (w : World) :
    Calls Tryd.prog 23 #[.string ⟨L.toArray⟩] w fun e w' => e = .returned (.tuple #[.agg #[.int .i64 (psI L).1, .int .i64 (psI L).2.1], .int .i64 (psI L).2.2]) ∧ Below w.heap.size w w' := by
  by_cases h : L = []
  · subst h
    exact rparse_nil w
  · have hS : ∀ r : List UInt8, r.length ≤ 1000 → RSp r (spI r).1 (spI r).2 := fun r hr w => rspan_any r w hr
    obtain ⟨l, c, rfl⟩ := snoc_of h
    have hl2 : l.length ≤ 999 := by simp at hl; omega
    rw [psI_snoc]
    by_cases hs : c = 115
    · subst hs
      rw [show stq l 115 = (1, l) from stL_letter l 115 (by unfold letter; decide)]
      by_cases hz : (spI l).2 = 0
      · rw [psE_yes hz]
        exact rparse_s l 115 _ _ w hl2 rfl (hS l (by omega)) (by rw [hz]; rfl)
      · rw [psE_no hz]
        exact rparse_se l 115 _ _ w hl2 rfl (hS l (by omega)) (bne_iff_ne.2 hz)
    by_cases hu : c = 117
    · subst hu
      rw [show stq l 117 = (2, l) from stL_letter l 117 (by unfold letter; decide)]
      by_cases hz : (spI l).2 = 0
      · rw [psE_yes hz]
        exact rparse_u l 117 _ _ w hl2 rfl (hS l (by omega)) (by rw [hz]; rfl)
      · rw [psE_no hz]
        exact rparse_ue l 117 _ _ w hl2 rfl (hS l (by omega)) (bne_iff_ne.2 hz)
    by_cases hg : c = 103
    · subst hg
      rw [show stq l 103 = (2, l) from stL_letter l 103 (by unfold letter; decide)]
      by_cases hz : (spI l).2 = 0
      · rw [psE_yes hz]
        exact rparse_g l 103 _ _ w hl2 rfl (hS l (by omega)) (by rw [hz]; rfl)
      · rw [psE_no hz]
        exact rparse_ge l 103 _ _ w hl2 rfl (hS l (by omega)) (bne_iff_ne.2 hz)
    by_cases hz : c = 122
    · subst hz
      rw [show stq l 122 = (2, l) from stL_letter l 122 (by unfold letter; decide)]
      by_cases hz : (spI l).2 = 0
      · rw [psE_yes hz]
        exact rparse_z l 122 _ _ w hl2 rfl (hS l (by omega)) (by rw [hz]; rfl)
      · rw [psE_no hz]
        exact rparse_ze l 122 _ _ w hl2 rfl (hS l (by omega)) (bne_iff_ne.2 hz)
    by_cases hw : c = 119
    · subst hw
      rw [show stq l 119 = (0, l) from stL_letter l 119 (by unfold letter; decide)]
      by_cases hz : (spI l).2 = 0
      · rw [psE_yes hz]
        exact rparse_w l 119 _ _ w hl2 rfl (hS l (by omega)) (by rw [hz]; rfl)
      · rw [psE_no hz]
        exact rparse_we l 119 _ _ w hl2 rfl (hS l (by omega)) (bne_iff_ne.2 hz)
    have hne : ∀ k : UInt8, c ≠ k → ((c.toNat : Int) == (k.toNat : Int)) = false := fun k hk => beq_eq_false_iff_ne.2 fun e => hk (UInt8.toNat_inj.1 (by omega))
    rw [show stq l c = (0, l ++ [c]) from stL_plain l c (by
      intro q
      rcases q with q | q | q | q | q
      all_goals first | exact hs q | exact hu q | exact hg q | exact hz q | exact hw q)]
    by_cases hz0 : (spI (l ++ [c])).2 = 0
    · rw [psE_yes hz0]
      exact rparse_o l c _ _ w hl2 (hne _ hs) (hne _ hu) (hne _ hg) (hne _ hz) (hne _ hw) (hS _ hl) (by rw [hz0]; rfl)
    · rw [psE_no hz0]
      exact rparse_oe l c _ _ w hl2 (hne _ hs) (hne _ hu) (hne _ hg) (hne _ hz) (hne _ hw) (hS _ hl) (bne_iff_ne.2 hz0)
end Go.Proofs.YtbejbagpdjfgmaaDoor
