/-
  THE LAW AbbrCounts, walked.
-/
import Derived.Test.YtakpbgjmblbaiaaDoorShows
namespace Go.Proofs.YtakpbgjmblbaiaaDoor.abbrCounts
open Go Go.RowKit AbbM

theorem showV_eq {l : List UInt8} {off : Int} {dst : Bool} {t S : List UInt8} {E : Int} (h1 : showS l off dst t = S) (h2 : showE l off = E) : showV l off dst t = .tuple #[.string ⟨S.toArray⟩, .int .i64 E] := by unfold showV; rw [h1, h2]
set_option maxHeartbeats 1000000 in
theorem walk_no (l t u : List UInt8) (a b : Int) (w : World) (hB : Big w) (hl : l.length ≤ 100) (ht : t.length ≤ 100) (hu : u.length ≤ 100) (hK : kindOf l = (-1, 0)) :
    Calls Tryd.prog 5 #[.string ⟨l.toArray⟩, .agg #[.string ⟨t.toArray⟩, .string ⟨u.toArray⟩], .agg #[.int .i64 a, .int .i64 b]] w (One w) := by
  have HBg := Lib.hid hB
  have HBw := Lib.hid (Below.refl w.heap.size w)
  have HK := Lib.hid hK
  have hE : ∀ off, showE l off = 12 := fun off => by unfold showE; rw [hK]; rfl
  have hS : ∀ off d s, showS l off d s = [] := fun off d s => by unfold showS; rw [hK]; rfl
  have Ea := Lib.hid (showV_eq (hS a false t) (hE a))
  have Eb := Lib.hid (showV_eq (hS b false t) (hE b))
  have Ec := Lib.hid (showV_eq (hS a false u) (hE a))
  have Ed := Lib.hid (showV_eq (hS a true t) (hE a))
  clear hB hK hE hS
  have h1 : (l.length : Int) ≤ 100 := by omega
  have h2 : (t.length : Int) ≤ 100 := by omega
  have h3 : (u.length : Int) ≤ 100 := by omega
  have HL := Lib.hid (show l.length ≤ 1000 by omega)
  have HT := Lib.hid (show t.length ≤ 1000 by omega)
  have HU := Lib.hid (show u.length ≤ 1000 by omega)
  have HB0 := Lib.hid ((HBw.out.alloc HBw.out.size (.cells #[.string ⟨t.toArray⟩, .string ⟨u.toArray⟩] 29)).alloc (by simp) (.cells #[.int .i64 a, .int .i64 b] 35))
  have HR0 := Lib.hid ((Below.heap_alloc (w.alloc (.cells #[.string ⟨t.toArray⟩, .string ⟨u.toArray⟩] 29)) (.cells #[.int .i64 a, .int .i64 b] 35) w.heap.size (by simp)).trans (heap_alloc_new w (.cells #[.string ⟨t.toArray⟩, .string ⟨u.toArray⟩] 29)))
  have HI0 := Lib.hid (show ((w.alloc (.cells #[.string ⟨t.toArray⟩, .string ⟨u.toArray⟩] 29)).alloc (.cells #[.int .i64 a, .int .i64 b] 35)).heap[w.heap.size + 1]? = some (.cells #[.int .i64 a, .int .i64 b] 35) by
    have := heap_alloc_new (w.alloc (.cells #[.string ⟨t.toArray⟩, .string ⟨u.toArray⟩] 29)) (.cells #[.int .i64 a, .int .i64 b] 35)
    simpa using this)
  clear hl ht hu
  go_enter Tryd.func5, Tryd.ntmps5
  go_wp2_with fail
  refine (kind_any l _ (HBg.out.below HB0.out) HL.out).mono ?_
  rintro e w1 ⟨rfl, hb⟩
  have HBw1 := Lib.hid (HB0.out.trans (hb.mono HB0.out.size))
  have HRw1 := Lib.hid ((hb.block w.heap.size (row_lt HR0.out)).trans HR0.out)
  have HIw1 := Lib.hid ((hb.block (w.heap.size + 1) (row_lt HI0.out)).trans HI0.out)
  have c0 := cell_of_row w1 w.heap.size 0 _ _ _ HRw1.out
  have c1 := cell_of_row w1 w.heap.size 1 _ _ _ HRw1.out
  have i0 := cell_of_row w1 (w.heap.size + 1) 0 _ _ _ HIw1.out
  have i1 := cell_of_row w1 (w.heap.size + 1) 1 _ _ _ HIw1.out
  clear hb
  rw [kret_no HK.out]
  go_wp2_with fail
  refine (show_any l a false t _ (HBg.out.below HBw1.out) HL.out HT.out).mono ?_
  rintro e w2 ⟨rfl, hb⟩
  have HBw2 := Lib.hid (HBw1.out.trans (hb.mono HBw1.out.size))
  have HRw2 := Lib.hid ((hb.block w.heap.size (row_lt HRw1.out)).trans HRw1.out)
  have HIw2 := Lib.hid ((hb.block (w.heap.size + 1) (row_lt HIw1.out)).trans HIw1.out)
  have c0 := cell_of_row w2 w.heap.size 0 _ _ _ HRw2.out
  have c1 := cell_of_row w2 w.heap.size 1 _ _ _ HRw2.out
  have i0 := cell_of_row w2 (w.heap.size + 1) 0 _ _ _ HIw2.out
  have i1 := cell_of_row w2 (w.heap.size + 1) 1 _ _ _ HIw2.out
  clear hb
  rw [Ea.out]
  go_wp2_with fail
  refine (show_any l b false t _ (HBg.out.below HBw2.out) HL.out HT.out).mono ?_
  rintro e w3 ⟨rfl, hb⟩
  have HBw3 := Lib.hid (HBw2.out.trans (hb.mono HBw2.out.size))
  have HRw3 := Lib.hid ((hb.block w.heap.size (row_lt HRw2.out)).trans HRw2.out)
  have HIw3 := Lib.hid ((hb.block (w.heap.size + 1) (row_lt HIw2.out)).trans HIw2.out)
  have c0 := cell_of_row w3 w.heap.size 0 _ _ _ HRw3.out
  have c1 := cell_of_row w3 w.heap.size 1 _ _ _ HRw3.out
  have i0 := cell_of_row w3 (w.heap.size + 1) 0 _ _ _ HIw3.out
  have i1 := cell_of_row w3 (w.heap.size + 1) 1 _ _ _ HIw3.out
  clear hb
  rw [Eb.out]
  go_wp2_with fail
  refine (show_any l a false u _ (HBg.out.below HBw3.out) HL.out HU.out).mono ?_
  rintro e w4 ⟨rfl, hb⟩
  have HBw4 := Lib.hid (HBw3.out.trans (hb.mono HBw3.out.size))
  have HRw4 := Lib.hid ((hb.block w.heap.size (row_lt HRw3.out)).trans HRw3.out)
  have HIw4 := Lib.hid ((hb.block (w.heap.size + 1) (row_lt HIw3.out)).trans HIw3.out)
  have c0 := cell_of_row w4 w.heap.size 0 _ _ _ HRw4.out
  have c1 := cell_of_row w4 w.heap.size 1 _ _ _ HRw4.out
  have i0 := cell_of_row w4 (w.heap.size + 1) 0 _ _ _ HIw4.out
  have i1 := cell_of_row w4 (w.heap.size + 1) 1 _ _ _ HIw4.out
  clear hb
  rw [Ec.out]
  go_wp2_with fail
  refine (show_any l a true t _ (HBg.out.below HBw4.out) HL.out HT.out).mono ?_
  rintro e w5 ⟨rfl, hb⟩
  have HBw5 := Lib.hid (HBw4.out.trans (hb.mono HBw4.out.size))
  have HRw5 := Lib.hid ((hb.block w.heap.size (row_lt HRw4.out)).trans HRw4.out)
  have HIw5 := Lib.hid ((hb.block (w.heap.size + 1) (row_lt HIw4.out)).trans HIw4.out)
  have c0 := cell_of_row w5 w.heap.size 0 _ _ _ HRw5.out
  have c1 := cell_of_row w5 w.heap.size 1 _ _ _ HRw5.out
  have i0 := cell_of_row w5 (w.heap.size + 1) 0 _ _ _ HIw5.out
  have i1 := cell_of_row w5 (w.heap.size + 1) 1 _ _ _ HIw5.out
  clear hb
  rw [Ed.out]
  go_wp2_with fail
  refine (awake_any _ (HBg.out.below HBw5.out)).mono ?_
  rintro e w8 ⟨rfl, hb⟩
  have HBw8 := Lib.hid (HBw5.out.trans (hb.mono HBw5.out.size))
  clear hb
  go_wp2_with fail
  go_ret
  exact ⟨rfl, HBw8.out⟩
set_option maxHeartbeats 1000000 in
theorem walk_0 (l t u : List UInt8) (a b : Int) (p : Nat) (w : World) (hB : Big w) (hl : l.length ≤ 100) (ht : t.length ≤ 100) (hu : u.length ≤ 100) (hK : kindOf l = (0, p)) :
    Calls Tryd.prog 5 #[.string ⟨l.toArray⟩, .agg #[.string ⟨t.toArray⟩, .string ⟨u.toArray⟩], .agg #[.int .i64 a, .int .i64 b]] w (One w) := by
  have HBg := Lib.hid hB
  have HBw := Lib.hid (Below.refl w.heap.size w)
  have HK := Lib.hid hK
  have e0 : ∀ off, showE l off = 0 := fun off => by unfold showE; rw [hK]; rfl
  have hS : ∀ off d s, showS l off d s = l := fun off d s => by unfold showS; rw [hK]; rfl
  have Ea := Lib.hid (showV_eq (hS a false t) (e0 a))
  have Eb := Lib.hid (showV_eq (hS b false t) (e0 b))
  have Ec := Lib.hid (showV_eq (hS a false u) (e0 a))
  have Ed := Lib.hid (showV_eq (hS a true t) (e0 a))
  clear e0 hS
  clear hB hK
  have h1 : (l.length : Int) ≤ 100 := by omega
  have h2 : (t.length : Int) ≤ 100 := by omega
  have h3 : (u.length : Int) ≤ 100 := by omega
  have HL := Lib.hid (show l.length ≤ 1000 by omega)
  have HT := Lib.hid (show t.length ≤ 1000 by omega)
  have HU := Lib.hid (show u.length ≤ 1000 by omega)
  have HB0 := Lib.hid ((HBw.out.alloc HBw.out.size (.cells #[.string ⟨t.toArray⟩, .string ⟨u.toArray⟩] 29)).alloc (by simp) (.cells #[.int .i64 a, .int .i64 b] 35))
  have HR0 := Lib.hid ((Below.heap_alloc (w.alloc (.cells #[.string ⟨t.toArray⟩, .string ⟨u.toArray⟩] 29)) (.cells #[.int .i64 a, .int .i64 b] 35) w.heap.size (by simp)).trans (heap_alloc_new w (.cells #[.string ⟨t.toArray⟩, .string ⟨u.toArray⟩] 29)))
  have HI0 := Lib.hid (show ((w.alloc (.cells #[.string ⟨t.toArray⟩, .string ⟨u.toArray⟩] 29)).alloc (.cells #[.int .i64 a, .int .i64 b] 35)).heap[w.heap.size + 1]? = some (.cells #[.int .i64 a, .int .i64 b] 35) by
    have := heap_alloc_new (w.alloc (.cells #[.string ⟨t.toArray⟩, .string ⟨u.toArray⟩] 29)) (.cells #[.int .i64 a, .int .i64 b] 35)
    simpa using this)
  clear hl ht hu
  go_enter Tryd.func5, Tryd.ntmps5
  go_wp2_with fail
  refine (kind_any l _ (HBg.out.below HB0.out) HL.out).mono ?_
  rintro e w1 ⟨rfl, hb⟩
  have HBw1 := Lib.hid (HB0.out.trans (hb.mono HB0.out.size))
  have HRw1 := Lib.hid ((hb.block w.heap.size (row_lt HR0.out)).trans HR0.out)
  have HIw1 := Lib.hid ((hb.block (w.heap.size + 1) (row_lt HI0.out)).trans HI0.out)
  have c0 := cell_of_row w1 w.heap.size 0 _ _ _ HRw1.out
  have c1 := cell_of_row w1 w.heap.size 1 _ _ _ HRw1.out
  have i0 := cell_of_row w1 (w.heap.size + 1) 0 _ _ _ HIw1.out
  have i1 := cell_of_row w1 (w.heap.size + 1) 1 _ _ _ HIw1.out
  clear hb
  rw [kret_ok HK.out (by decide)]
  go_wp2_with fail
  refine (show_any l a false t _ (HBg.out.below HBw1.out) HL.out HT.out).mono ?_
  rintro e w2 ⟨rfl, hb⟩
  have HBw2 := Lib.hid (HBw1.out.trans (hb.mono HBw1.out.size))
  have HRw2 := Lib.hid ((hb.block w.heap.size (row_lt HRw1.out)).trans HRw1.out)
  have HIw2 := Lib.hid ((hb.block (w.heap.size + 1) (row_lt HIw1.out)).trans HIw1.out)
  have c0 := cell_of_row w2 w.heap.size 0 _ _ _ HRw2.out
  have c1 := cell_of_row w2 w.heap.size 1 _ _ _ HRw2.out
  have i0 := cell_of_row w2 (w.heap.size + 1) 0 _ _ _ HIw2.out
  have i1 := cell_of_row w2 (w.heap.size + 1) 1 _ _ _ HIw2.out
  clear hb
  rw [Ea.out]
  go_wp2_with fail
  refine (show_any l b false t _ (HBg.out.below HBw2.out) HL.out HT.out).mono ?_
  rintro e w3 ⟨rfl, hb⟩
  have HBw3 := Lib.hid (HBw2.out.trans (hb.mono HBw2.out.size))
  have HRw3 := Lib.hid ((hb.block w.heap.size (row_lt HRw2.out)).trans HRw2.out)
  have HIw3 := Lib.hid ((hb.block (w.heap.size + 1) (row_lt HIw2.out)).trans HIw2.out)
  have c0 := cell_of_row w3 w.heap.size 0 _ _ _ HRw3.out
  have c1 := cell_of_row w3 w.heap.size 1 _ _ _ HRw3.out
  have i0 := cell_of_row w3 (w.heap.size + 1) 0 _ _ _ HIw3.out
  have i1 := cell_of_row w3 (w.heap.size + 1) 1 _ _ _ HIw3.out
  clear hb
  rw [Eb.out]
  go_wp2_with fail
  refine (show_any l a false u _ (HBg.out.below HBw3.out) HL.out HU.out).mono ?_
  rintro e w4 ⟨rfl, hb⟩
  have HBw4 := Lib.hid (HBw3.out.trans (hb.mono HBw3.out.size))
  have HRw4 := Lib.hid ((hb.block w.heap.size (row_lt HRw3.out)).trans HRw3.out)
  have HIw4 := Lib.hid ((hb.block (w.heap.size + 1) (row_lt HIw3.out)).trans HIw3.out)
  have c0 := cell_of_row w4 w.heap.size 0 _ _ _ HRw4.out
  have c1 := cell_of_row w4 w.heap.size 1 _ _ _ HRw4.out
  have i0 := cell_of_row w4 (w.heap.size + 1) 0 _ _ _ HIw4.out
  have i1 := cell_of_row w4 (w.heap.size + 1) 1 _ _ _ HIw4.out
  clear hb
  rw [Ec.out]
  go_wp2_with fail
  refine (show_any l a true t _ (HBg.out.below HBw4.out) HL.out HT.out).mono ?_
  rintro e w5 ⟨rfl, hb⟩
  have HBw5 := Lib.hid (HBw4.out.trans (hb.mono HBw4.out.size))
  have HRw5 := Lib.hid ((hb.block w.heap.size (row_lt HRw4.out)).trans HRw4.out)
  have HIw5 := Lib.hid ((hb.block (w.heap.size + 1) (row_lt HIw4.out)).trans HIw4.out)
  have c0 := cell_of_row w5 w.heap.size 0 _ _ _ HRw5.out
  have c1 := cell_of_row w5 w.heap.size 1 _ _ _ HRw5.out
  have i0 := cell_of_row w5 (w.heap.size + 1) 0 _ _ _ HIw5.out
  have i1 := cell_of_row w5 (w.heap.size + 1) 1 _ _ _ HIw5.out
  clear hb
  rw [Ed.out]
  go_wp2_with fail
  refine (awake_any _ (HBg.out.below HBw5.out)).mono ?_
  rintro e w8 ⟨rfl, hb⟩
  have HBw8 := Lib.hid (HBw5.out.trans (hb.mono HBw5.out.size))
  clear hb
  go_wp2_with fail
  go_ret
  exact ⟨rfl, HBw8.out⟩
set_option maxHeartbeats 1000000 in
theorem walk_1 (l t u : List UInt8) (a b : Int) (p : Nat) (w : World) (hB : Big w) (hl : l.length ≤ 100) (ht : t.length ≤ 100) (hu : u.length ≤ 100) (hK : kindOf l = (1, p)) :
    Calls Tryd.prog 5 #[.string ⟨l.toArray⟩, .agg #[.string ⟨t.toArray⟩, .string ⟨u.toArray⟩], .agg #[.int .i64 a, .int .i64 b]] w (One w) := by
  have HBg := Lib.hid hB
  have HBw := Lib.hid (Below.refl w.heap.size w)
  have HK := Lib.hid hK
  have e0 : ∀ off, showE l off = 0 := fun off => by unfold showE; rw [hK]; rfl
  have hS : ∀ off d s, showS l off d s = l.take p ++ (s ++ l.drop (p + 2)) := fun off d s => by unfold showS; rw [hK]; rfl
  have Ea := Lib.hid (showV_eq (hS a false t) (e0 a))
  have Eb := Lib.hid (showV_eq (hS b false t) (e0 b))
  have Ec := Lib.hid (showV_eq (hS a false u) (e0 a))
  have Ed := Lib.hid (showV_eq (hS a true t) (e0 a))
  clear e0 hS
  generalize l.take p ++ (t ++ l.drop (p + 2)) = St at *
  generalize l.take p ++ (u ++ l.drop (p + 2)) = Su at *
  clear hB hK
  have h1 : (l.length : Int) ≤ 100 := by omega
  have h2 : (t.length : Int) ≤ 100 := by omega
  have h3 : (u.length : Int) ≤ 100 := by omega
  have HL := Lib.hid (show l.length ≤ 1000 by omega)
  have HT := Lib.hid (show t.length ≤ 1000 by omega)
  have HU := Lib.hid (show u.length ≤ 1000 by omega)
  have HB0 := Lib.hid ((HBw.out.alloc HBw.out.size (.cells #[.string ⟨t.toArray⟩, .string ⟨u.toArray⟩] 29)).alloc (by simp) (.cells #[.int .i64 a, .int .i64 b] 35))
  have HR0 := Lib.hid ((Below.heap_alloc (w.alloc (.cells #[.string ⟨t.toArray⟩, .string ⟨u.toArray⟩] 29)) (.cells #[.int .i64 a, .int .i64 b] 35) w.heap.size (by simp)).trans (heap_alloc_new w (.cells #[.string ⟨t.toArray⟩, .string ⟨u.toArray⟩] 29)))
  have HI0 := Lib.hid (show ((w.alloc (.cells #[.string ⟨t.toArray⟩, .string ⟨u.toArray⟩] 29)).alloc (.cells #[.int .i64 a, .int .i64 b] 35)).heap[w.heap.size + 1]? = some (.cells #[.int .i64 a, .int .i64 b] 35) by
    have := heap_alloc_new (w.alloc (.cells #[.string ⟨t.toArray⟩, .string ⟨u.toArray⟩] 29)) (.cells #[.int .i64 a, .int .i64 b] 35)
    simpa using this)
  clear hl ht hu
  go_enter Tryd.func5, Tryd.ntmps5
  go_wp2_with fail
  refine (kind_any l _ (HBg.out.below HB0.out) HL.out).mono ?_
  rintro e w1 ⟨rfl, hb⟩
  have HBw1 := Lib.hid (HB0.out.trans (hb.mono HB0.out.size))
  have HRw1 := Lib.hid ((hb.block w.heap.size (row_lt HR0.out)).trans HR0.out)
  have HIw1 := Lib.hid ((hb.block (w.heap.size + 1) (row_lt HI0.out)).trans HI0.out)
  have c0 := cell_of_row w1 w.heap.size 0 _ _ _ HRw1.out
  have c1 := cell_of_row w1 w.heap.size 1 _ _ _ HRw1.out
  have i0 := cell_of_row w1 (w.heap.size + 1) 0 _ _ _ HIw1.out
  have i1 := cell_of_row w1 (w.heap.size + 1) 1 _ _ _ HIw1.out
  clear hb
  rw [kret_ok HK.out (by decide)]
  go_wp2_with fail
  refine (show_any l a false t _ (HBg.out.below HBw1.out) HL.out HT.out).mono ?_
  rintro e w2 ⟨rfl, hb⟩
  have HBw2 := Lib.hid (HBw1.out.trans (hb.mono HBw1.out.size))
  have HRw2 := Lib.hid ((hb.block w.heap.size (row_lt HRw1.out)).trans HRw1.out)
  have HIw2 := Lib.hid ((hb.block (w.heap.size + 1) (row_lt HIw1.out)).trans HIw1.out)
  have c0 := cell_of_row w2 w.heap.size 0 _ _ _ HRw2.out
  have c1 := cell_of_row w2 w.heap.size 1 _ _ _ HRw2.out
  have i0 := cell_of_row w2 (w.heap.size + 1) 0 _ _ _ HIw2.out
  have i1 := cell_of_row w2 (w.heap.size + 1) 1 _ _ _ HIw2.out
  clear hb
  rw [Ea.out]
  go_wp2_with fail
  refine (show_any l b false t _ (HBg.out.below HBw2.out) HL.out HT.out).mono ?_
  rintro e w3 ⟨rfl, hb⟩
  have HBw3 := Lib.hid (HBw2.out.trans (hb.mono HBw2.out.size))
  have HRw3 := Lib.hid ((hb.block w.heap.size (row_lt HRw2.out)).trans HRw2.out)
  have HIw3 := Lib.hid ((hb.block (w.heap.size + 1) (row_lt HIw2.out)).trans HIw2.out)
  have c0 := cell_of_row w3 w.heap.size 0 _ _ _ HRw3.out
  have c1 := cell_of_row w3 w.heap.size 1 _ _ _ HRw3.out
  have i0 := cell_of_row w3 (w.heap.size + 1) 0 _ _ _ HIw3.out
  have i1 := cell_of_row w3 (w.heap.size + 1) 1 _ _ _ HIw3.out
  clear hb
  rw [Eb.out]
  go_wp2_with fail
  refine (show_any l a false u _ (HBg.out.below HBw3.out) HL.out HU.out).mono ?_
  rintro e w4 ⟨rfl, hb⟩
  have HBw4 := Lib.hid (HBw3.out.trans (hb.mono HBw3.out.size))
  have HRw4 := Lib.hid ((hb.block w.heap.size (row_lt HRw3.out)).trans HRw3.out)
  have HIw4 := Lib.hid ((hb.block (w.heap.size + 1) (row_lt HIw3.out)).trans HIw3.out)
  have c0 := cell_of_row w4 w.heap.size 0 _ _ _ HRw4.out
  have c1 := cell_of_row w4 w.heap.size 1 _ _ _ HRw4.out
  have i0 := cell_of_row w4 (w.heap.size + 1) 0 _ _ _ HIw4.out
  have i1 := cell_of_row w4 (w.heap.size + 1) 1 _ _ _ HIw4.out
  clear hb
  rw [Ec.out]
  go_wp2_with fail
  refine (show_any l a true t _ (HBg.out.below HBw4.out) HL.out HT.out).mono ?_
  rintro e w5 ⟨rfl, hb⟩
  have HBw5 := Lib.hid (HBw4.out.trans (hb.mono HBw4.out.size))
  have HRw5 := Lib.hid ((hb.block w.heap.size (row_lt HRw4.out)).trans HRw4.out)
  have HIw5 := Lib.hid ((hb.block (w.heap.size + 1) (row_lt HIw4.out)).trans HIw4.out)
  have c0 := cell_of_row w5 w.heap.size 0 _ _ _ HRw5.out
  have c1 := cell_of_row w5 w.heap.size 1 _ _ _ HRw5.out
  have i0 := cell_of_row w5 (w.heap.size + 1) 0 _ _ _ HIw5.out
  have i1 := cell_of_row w5 (w.heap.size + 1) 1 _ _ _ HIw5.out
  clear hb
  rw [Ed.out]
  go_wp2_with fail
  refine (awake_any _ (HBg.out.below HBw5.out)).mono ?_
  rintro e w8 ⟨rfl, hb⟩
  have HBw8 := Lib.hid (HBw5.out.trans (hb.mono HBw5.out.size))
  clear hb
  go_wp2_with fail
  go_ret
  exact ⟨rfl, HBw8.out⟩
set_option maxHeartbeats 1000000 in
theorem walk_2 (l t u : List UInt8) (a b : Int) (p : Nat) (w : World) (hB : Big w) (hl : l.length ≤ 100) (ht : t.length ≤ 100) (hu : u.length ≤ 100) (hK : kindOf l = (2, p)) :
    Calls Tryd.prog 5 #[.string ⟨l.toArray⟩, .agg #[.string ⟨t.toArray⟩, .string ⟨u.toArray⟩], .agg #[.int .i64 a, .int .i64 b]] w (One w) := by
  have HBg := Lib.hid hB
  have HBw := Lib.hid (Below.refl w.heap.size w)
  have HK := Lib.hid hK
  have hS : ∀ off d s d' s', showS l off d s = showS l off d' s' := fun off d s d' s' => by unfold showS; rw [hK]; rfl
  have Ea := Lib.hid (showV_eq (l := l) (off := a) (dst := false) (t := t) rfl rfl)
  have Eb := Lib.hid (showV_eq (l := l) (off := b) (dst := false) (t := t) rfl rfl)
  have Ec := Lib.hid (showV_eq (l := l) (off := a) (dst := false) (t := u) (hS a false u false t) rfl)
  have Ed := Lib.hid (showV_eq (l := l) (off := a) (dst := true) (t := t) (hS a true t false t) rfl)
  clear hS
  generalize showS l a false t = Sa at *
  generalize showS l b false t = Sb at *
  generalize showE l a = na at *
  generalize showE l b = nb at *
  clear hB hK
  have h1 : (l.length : Int) ≤ 100 := by omega
  have h2 : (t.length : Int) ≤ 100 := by omega
  have h3 : (u.length : Int) ≤ 100 := by omega
  have HL := Lib.hid (show l.length ≤ 1000 by omega)
  have HT := Lib.hid (show t.length ≤ 1000 by omega)
  have HU := Lib.hid (show u.length ≤ 1000 by omega)
  have HB0 := Lib.hid ((HBw.out.alloc HBw.out.size (.cells #[.string ⟨t.toArray⟩, .string ⟨u.toArray⟩] 29)).alloc (by simp) (.cells #[.int .i64 a, .int .i64 b] 35))
  have HR0 := Lib.hid ((Below.heap_alloc (w.alloc (.cells #[.string ⟨t.toArray⟩, .string ⟨u.toArray⟩] 29)) (.cells #[.int .i64 a, .int .i64 b] 35) w.heap.size (by simp)).trans (heap_alloc_new w (.cells #[.string ⟨t.toArray⟩, .string ⟨u.toArray⟩] 29)))
  have HI0 := Lib.hid (show ((w.alloc (.cells #[.string ⟨t.toArray⟩, .string ⟨u.toArray⟩] 29)).alloc (.cells #[.int .i64 a, .int .i64 b] 35)).heap[w.heap.size + 1]? = some (.cells #[.int .i64 a, .int .i64 b] 35) by
    have := heap_alloc_new (w.alloc (.cells #[.string ⟨t.toArray⟩, .string ⟨u.toArray⟩] 29)) (.cells #[.int .i64 a, .int .i64 b] 35)
    simpa using this)
  clear hl ht hu
  go_enter Tryd.func5, Tryd.ntmps5
  go_wp2_with fail
  refine (kind_any l _ (HBg.out.below HB0.out) HL.out).mono ?_
  rintro e w1 ⟨rfl, hb⟩
  have HBw1 := Lib.hid (HB0.out.trans (hb.mono HB0.out.size))
  have HRw1 := Lib.hid ((hb.block w.heap.size (row_lt HR0.out)).trans HR0.out)
  have HIw1 := Lib.hid ((hb.block (w.heap.size + 1) (row_lt HI0.out)).trans HI0.out)
  have c0 := cell_of_row w1 w.heap.size 0 _ _ _ HRw1.out
  have c1 := cell_of_row w1 w.heap.size 1 _ _ _ HRw1.out
  have i0 := cell_of_row w1 (w.heap.size + 1) 0 _ _ _ HIw1.out
  have i1 := cell_of_row w1 (w.heap.size + 1) 1 _ _ _ HIw1.out
  clear hb
  rw [kret_ok HK.out (by decide)]
  go_wp2_with fail
  refine (show_any l a false t _ (HBg.out.below HBw1.out) HL.out HT.out).mono ?_
  rintro e w2 ⟨rfl, hb⟩
  have HBw2 := Lib.hid (HBw1.out.trans (hb.mono HBw1.out.size))
  have HRw2 := Lib.hid ((hb.block w.heap.size (row_lt HRw1.out)).trans HRw1.out)
  have HIw2 := Lib.hid ((hb.block (w.heap.size + 1) (row_lt HIw1.out)).trans HIw1.out)
  have c0 := cell_of_row w2 w.heap.size 0 _ _ _ HRw2.out
  have c1 := cell_of_row w2 w.heap.size 1 _ _ _ HRw2.out
  have i0 := cell_of_row w2 (w.heap.size + 1) 0 _ _ _ HIw2.out
  have i1 := cell_of_row w2 (w.heap.size + 1) 1 _ _ _ HIw2.out
  clear hb
  rw [Ea.out]
  go_wp2_with fail
  refine (show_any l b false t _ (HBg.out.below HBw2.out) HL.out HT.out).mono ?_
  rintro e w3 ⟨rfl, hb⟩
  have HBw3 := Lib.hid (HBw2.out.trans (hb.mono HBw2.out.size))
  have HRw3 := Lib.hid ((hb.block w.heap.size (row_lt HRw2.out)).trans HRw2.out)
  have HIw3 := Lib.hid ((hb.block (w.heap.size + 1) (row_lt HIw2.out)).trans HIw2.out)
  have c0 := cell_of_row w3 w.heap.size 0 _ _ _ HRw3.out
  have c1 := cell_of_row w3 w.heap.size 1 _ _ _ HRw3.out
  have i0 := cell_of_row w3 (w.heap.size + 1) 0 _ _ _ HIw3.out
  have i1 := cell_of_row w3 (w.heap.size + 1) 1 _ _ _ HIw3.out
  clear hb
  rw [Eb.out]
  go_wp2_with fail
  refine (show_any l a false u _ (HBg.out.below HBw3.out) HL.out HU.out).mono ?_
  rintro e w4 ⟨rfl, hb⟩
  have HBw4 := Lib.hid (HBw3.out.trans (hb.mono HBw3.out.size))
  have HRw4 := Lib.hid ((hb.block w.heap.size (row_lt HRw3.out)).trans HRw3.out)
  have HIw4 := Lib.hid ((hb.block (w.heap.size + 1) (row_lt HIw3.out)).trans HIw3.out)
  have c0 := cell_of_row w4 w.heap.size 0 _ _ _ HRw4.out
  have c1 := cell_of_row w4 w.heap.size 1 _ _ _ HRw4.out
  have i0 := cell_of_row w4 (w.heap.size + 1) 0 _ _ _ HIw4.out
  have i1 := cell_of_row w4 (w.heap.size + 1) 1 _ _ _ HIw4.out
  clear hb
  rw [Ec.out]
  go_wp2_with fail
  refine (show_any l a true t _ (HBg.out.below HBw4.out) HL.out HT.out).mono ?_
  rintro e w5 ⟨rfl, hb⟩
  have HBw5 := Lib.hid (HBw4.out.trans (hb.mono HBw4.out.size))
  have HRw5 := Lib.hid ((hb.block w.heap.size (row_lt HRw4.out)).trans HRw4.out)
  have HIw5 := Lib.hid ((hb.block (w.heap.size + 1) (row_lt HIw4.out)).trans HIw4.out)
  have c0 := cell_of_row w5 w.heap.size 0 _ _ _ HRw5.out
  have c1 := cell_of_row w5 w.heap.size 1 _ _ _ HRw5.out
  have i0 := cell_of_row w5 (w.heap.size + 1) 0 _ _ _ HIw5.out
  have i1 := cell_of_row w5 (w.heap.size + 1) 1 _ _ _ HIw5.out
  clear hb
  rw [Ed.out]
  go_wp2_with fail
  refine (awake_any _ (HBg.out.below HBw5.out)).mono ?_
  rintro e w8 ⟨rfl, hb⟩
  have HBw8 := Lib.hid (HBw5.out.trans (hb.mono HBw5.out.size))
  clear hb
  go_wp2_with fail
  go_ret
  exact ⟨rfl, HBw8.out⟩
set_option maxHeartbeats 1000000 in
theorem walk_3 (l t u : List UInt8) (a b : Int) (p : Nat) (w : World) (hB : Big w) (hl : l.length ≤ 100) (ht : t.length ≤ 100) (hu : u.length ≤ 100) (hK : kindOf l = (3, p)) :
    Calls Tryd.prog 5 #[.string ⟨l.toArray⟩, .agg #[.string ⟨t.toArray⟩, .string ⟨u.toArray⟩], .agg #[.int .i64 a, .int .i64 b]] w (One w) := by
  have HBg := Lib.hid hB
  have HBw := Lib.hid (Below.refl w.heap.size w)
  have HK := Lib.hid hK
  have e0 : ∀ off, showE l off = 0 := fun off => by unfold showE; rw [hK]; rfl
  have hS : ∀ off off' d s s', showS l off d s = showS l off' d s' := fun off off' d s s' => by unfold showS; rw [hK]; rfl
  have Ea := Lib.hid (showV_eq (l := l) (off := a) (dst := false) (t := t) rfl (e0 a))
  have Eb := Lib.hid (showV_eq (l := l) (off := b) (dst := false) (t := t) (hS b a false t t) (e0 b))
  have Ec := Lib.hid (showV_eq (l := l) (off := a) (dst := false) (t := u) (hS a a false u t) (e0 a))
  have Ed := Lib.hid (showV_eq (l := l) (off := a) (dst := true) (t := t) rfl (e0 a))
  clear hS e0
  generalize showS l a false t = Sa at *
  generalize showS l a true t = Sb at *
  clear hB hK
  have h1 : (l.length : Int) ≤ 100 := by omega
  have h2 : (t.length : Int) ≤ 100 := by omega
  have h3 : (u.length : Int) ≤ 100 := by omega
  have HL := Lib.hid (show l.length ≤ 1000 by omega)
  have HT := Lib.hid (show t.length ≤ 1000 by omega)
  have HU := Lib.hid (show u.length ≤ 1000 by omega)
  have HB0 := Lib.hid ((HBw.out.alloc HBw.out.size (.cells #[.string ⟨t.toArray⟩, .string ⟨u.toArray⟩] 29)).alloc (by simp) (.cells #[.int .i64 a, .int .i64 b] 35))
  have HR0 := Lib.hid ((Below.heap_alloc (w.alloc (.cells #[.string ⟨t.toArray⟩, .string ⟨u.toArray⟩] 29)) (.cells #[.int .i64 a, .int .i64 b] 35) w.heap.size (by simp)).trans (heap_alloc_new w (.cells #[.string ⟨t.toArray⟩, .string ⟨u.toArray⟩] 29)))
  have HI0 := Lib.hid (show ((w.alloc (.cells #[.string ⟨t.toArray⟩, .string ⟨u.toArray⟩] 29)).alloc (.cells #[.int .i64 a, .int .i64 b] 35)).heap[w.heap.size + 1]? = some (.cells #[.int .i64 a, .int .i64 b] 35) by
    have := heap_alloc_new (w.alloc (.cells #[.string ⟨t.toArray⟩, .string ⟨u.toArray⟩] 29)) (.cells #[.int .i64 a, .int .i64 b] 35)
    simpa using this)
  clear hl ht hu
  go_enter Tryd.func5, Tryd.ntmps5
  go_wp2_with fail
  refine (kind_any l _ (HBg.out.below HB0.out) HL.out).mono ?_
  rintro e w1 ⟨rfl, hb⟩
  have HBw1 := Lib.hid (HB0.out.trans (hb.mono HB0.out.size))
  have HRw1 := Lib.hid ((hb.block w.heap.size (row_lt HR0.out)).trans HR0.out)
  have HIw1 := Lib.hid ((hb.block (w.heap.size + 1) (row_lt HI0.out)).trans HI0.out)
  have c0 := cell_of_row w1 w.heap.size 0 _ _ _ HRw1.out
  have c1 := cell_of_row w1 w.heap.size 1 _ _ _ HRw1.out
  have i0 := cell_of_row w1 (w.heap.size + 1) 0 _ _ _ HIw1.out
  have i1 := cell_of_row w1 (w.heap.size + 1) 1 _ _ _ HIw1.out
  clear hb
  rw [kret_ok HK.out (by decide)]
  go_wp2_with fail
  refine (show_any l a false t _ (HBg.out.below HBw1.out) HL.out HT.out).mono ?_
  rintro e w2 ⟨rfl, hb⟩
  have HBw2 := Lib.hid (HBw1.out.trans (hb.mono HBw1.out.size))
  have HRw2 := Lib.hid ((hb.block w.heap.size (row_lt HRw1.out)).trans HRw1.out)
  have HIw2 := Lib.hid ((hb.block (w.heap.size + 1) (row_lt HIw1.out)).trans HIw1.out)
  have c0 := cell_of_row w2 w.heap.size 0 _ _ _ HRw2.out
  have c1 := cell_of_row w2 w.heap.size 1 _ _ _ HRw2.out
  have i0 := cell_of_row w2 (w.heap.size + 1) 0 _ _ _ HIw2.out
  have i1 := cell_of_row w2 (w.heap.size + 1) 1 _ _ _ HIw2.out
  clear hb
  rw [Ea.out]
  go_wp2_with fail
  refine (show_any l b false t _ (HBg.out.below HBw2.out) HL.out HT.out).mono ?_
  rintro e w3 ⟨rfl, hb⟩
  have HBw3 := Lib.hid (HBw2.out.trans (hb.mono HBw2.out.size))
  have HRw3 := Lib.hid ((hb.block w.heap.size (row_lt HRw2.out)).trans HRw2.out)
  have HIw3 := Lib.hid ((hb.block (w.heap.size + 1) (row_lt HIw2.out)).trans HIw2.out)
  have c0 := cell_of_row w3 w.heap.size 0 _ _ _ HRw3.out
  have c1 := cell_of_row w3 w.heap.size 1 _ _ _ HRw3.out
  have i0 := cell_of_row w3 (w.heap.size + 1) 0 _ _ _ HIw3.out
  have i1 := cell_of_row w3 (w.heap.size + 1) 1 _ _ _ HIw3.out
  clear hb
  rw [Eb.out]
  go_wp2_with fail
  refine (show_any l a false u _ (HBg.out.below HBw3.out) HL.out HU.out).mono ?_
  rintro e w4 ⟨rfl, hb⟩
  have HBw4 := Lib.hid (HBw3.out.trans (hb.mono HBw3.out.size))
  have HRw4 := Lib.hid ((hb.block w.heap.size (row_lt HRw3.out)).trans HRw3.out)
  have HIw4 := Lib.hid ((hb.block (w.heap.size + 1) (row_lt HIw3.out)).trans HIw3.out)
  have c0 := cell_of_row w4 w.heap.size 0 _ _ _ HRw4.out
  have c1 := cell_of_row w4 w.heap.size 1 _ _ _ HRw4.out
  have i0 := cell_of_row w4 (w.heap.size + 1) 0 _ _ _ HIw4.out
  have i1 := cell_of_row w4 (w.heap.size + 1) 1 _ _ _ HIw4.out
  clear hb
  rw [Ec.out]
  go_wp2_with fail
  refine (show_any l a true t _ (HBg.out.below HBw4.out) HL.out HT.out).mono ?_
  rintro e w5 ⟨rfl, hb⟩
  have HBw5 := Lib.hid (HBw4.out.trans (hb.mono HBw4.out.size))
  have HRw5 := Lib.hid ((hb.block w.heap.size (row_lt HRw4.out)).trans HRw4.out)
  have HIw5 := Lib.hid ((hb.block (w.heap.size + 1) (row_lt HIw4.out)).trans HIw4.out)
  have c0 := cell_of_row w5 w.heap.size 0 _ _ _ HRw5.out
  have c1 := cell_of_row w5 w.heap.size 1 _ _ _ HRw5.out
  have i0 := cell_of_row w5 (w.heap.size + 1) 0 _ _ _ HIw5.out
  have i1 := cell_of_row w5 (w.heap.size + 1) 1 _ _ _ HIw5.out
  clear hb
  rw [Ed.out]
  go_wp2_with fail
  refine (awake_any _ (HBg.out.below HBw5.out)).mono ?_
  rintro e w8 ⟨rfl, hb⟩
  have HBw8 := Lib.hid (HBw5.out.trans (hb.mono HBw5.out.size))
  clear hb
  go_wp2_with fail
  go_ret
  exact ⟨rfl, HBw8.out⟩
theorem walk (l t u : List UInt8) (a b : Int) (w : World) (hB : Big w) :
    Calls Tryd.prog 5 #[.string ⟨l.toArray⟩, .agg #[.string ⟨t.toArray⟩, .string ⟨u.toArray⟩], .agg #[.int .i64 a, .int .i64 b]] w (One w) := by
  by_cases hl : l.length ≤ 100
  · by_cases ht : t.length ≤ 100
    · by_cases hu : u.length ≤ 100
      · rcases kind_cases l with hK | hK | ⟨p, hK⟩ | ⟨p, hK⟩ | ⟨p, hK⟩
        · exact walk_no l t u a b w hB hl ht hu hK
        · exact walk_0 l t u a b 0 w hB hl ht hu hK
        · exact walk_1 l t u a b p w hB hl ht hu hK
        · exact walk_2 l t u a b p w hB hl ht hu hK
        · exact walk_3 l t u a b p w hB hl ht hu hK
      · have HBg := Lib.hid hB
        have HBw := Lib.hid (Below.refl w.heap.size w)
        clear hB
        have h1 : (l.length : Int) ≤ 100 := by omega
        have h2 : (t.length : Int) ≤ 100 := by omega
        have h3 : 100 < (u.length : Int) := by omega
        try clear hl
        try clear ht
        try clear hu
        have HB0 := Lib.hid ((HBw.out.alloc HBw.out.size (.cells #[.string ⟨t.toArray⟩, .string ⟨u.toArray⟩] 29)).alloc (by simp) (.cells #[.int .i64 a, .int .i64 b] 35))
        go_enter Tryd.func5, Tryd.ntmps5
        go_wp2_with fail
        refine (awake_any _ (HBg.out.below HB0.out)).mono ?_
        rintro e w8 ⟨rfl, hb⟩
        have HBw8 := Lib.hid (HB0.out.trans (hb.mono HB0.out.size))
        clear hb
        go_wp2_with fail
        go_ret
        exact ⟨rfl, HBw8.out⟩
    · have HBg := Lib.hid hB
      have HBw := Lib.hid (Below.refl w.heap.size w)
      clear hB
      have h1 : (l.length : Int) ≤ 100 := by omega
      have h2 : 100 < (t.length : Int) := by omega
      try clear hl
      try clear ht
      try clear hu
      have HB0 := Lib.hid ((HBw.out.alloc HBw.out.size (.cells #[.string ⟨t.toArray⟩, .string ⟨u.toArray⟩] 29)).alloc (by simp) (.cells #[.int .i64 a, .int .i64 b] 35))
      go_enter Tryd.func5, Tryd.ntmps5
      go_wp2_with fail
      refine (awake_any _ (HBg.out.below HB0.out)).mono ?_
      rintro e w8 ⟨rfl, hb⟩
      have HBw8 := Lib.hid (HB0.out.trans (hb.mono HB0.out.size))
      clear hb
      go_wp2_with fail
      go_ret
      exact ⟨rfl, HBw8.out⟩
  · have HBg := Lib.hid hB
    have HBw := Lib.hid (Below.refl w.heap.size w)
    clear hB
    have h1 : 100 < (l.length : Int) := by omega
    try clear hl
    try clear ht
    try clear hu
    have HB0 := Lib.hid ((HBw.out.alloc HBw.out.size (.cells #[.string ⟨t.toArray⟩, .string ⟨u.toArray⟩] 29)).alloc (by simp) (.cells #[.int .i64 a, .int .i64 b] 35))
    go_enter Tryd.func5, Tryd.ntmps5
    go_wp2_with fail
    refine (awake_any _ (HBg.out.below HB0.out)).mono ?_
    rintro e w8 ⟨rfl, hb⟩
    have HBw8 := Lib.hid (HB0.out.trans (hb.mono HB0.out.size))
    clear hb
    go_wp2_with fail
    go_ret
    exact ⟨rfl, HBw8.out⟩
end Go.Proofs.YtakpbgjmblbaiaaDoor.abbrCounts
