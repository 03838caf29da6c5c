/-
  THE LAW AbbrShows, walked.
-/
import Derived.Test.YtakpbgjmblbaiaaDoorAwake
namespace Go.Proofs.YtakpbgjmblbaiaaDoor
open Go Go.RowKit AbbM
theorem show_cases (l t : List UInt8) (off : Int) (dst : Bool) :
    (kindOf l = (-1, 0) ∧ showV l off dst t = .tuple #[.string ⟨#[]⟩, .int .i64 12] ∧ rshowV l off dst t = .tuple #[.string ⟨#[]⟩, .bool false]) ∨
    (∃ p, kindOf l = (2, p) ∧ showV l off dst t = .tuple #[.string ⟨#[]⟩, .int .i64 10] ∧ rshowV l off dst t = .tuple #[.string ⟨#[]⟩, .bool false]) ∨
    (∃ (S : List UInt8) (k : Int) (p : Nat), 0 ≤ k ∧ kindOf l = (k, p) ∧ showV l off dst t = .tuple #[.string ⟨S.toArray⟩, .int .i64 0] ∧ rshowV l off dst t = .tuple #[.string ⟨S.toArray⟩, .bool true]) := by
  unfold showV rshowV
  rcases kind_cases l with hK | hK | ⟨p, hK⟩ | ⟨p, hK⟩ | ⟨p, hK⟩
  · refine .inl ⟨hK, ?_, ?_⟩ <;> unfold showS showE <;> rw [hK] <;> rfl
  · refine .inr (.inr ⟨showS l off dst t, 0, 0, by decide, hK, ?_, ?_⟩) <;> unfold showE <;> rw [hK] <;> rfl
  · refine .inr (.inr ⟨showS l off dst t, 1, p, by decide, hK, ?_, ?_⟩) <;> unfold showE <;> rw [hK] <;> rfl
  · by_cases ho : -360000 < off ∧ off < 360000
    · refine .inr (.inr ⟨showS l off dst t, 2, p, by decide, hK, ?_, ?_⟩) <;> unfold showE <;> rw [hK] <;> simp [ho]
    · refine .inr (.inl ⟨p, hK, ?_, ?_⟩) <;> unfold showS showE <;> rw [hK] <;> simp [ho]
  · refine .inr (.inr ⟨showS l off dst t, 3, p, by decide, hK, ?_, ?_⟩) <;> unfold showE <;> rw [hK] <;> rfl
theorem row_lt {w : World} {B : Nat} {o : Obj} (h : w.heap[B]? = some o) : B < w.heap.size := (Array.getElem?_eq_some_iff.1 h).1
namespace abbrShows

theorem walk (l t : List UInt8) (off : Int) (dst : Bool) (w : World) (hB : Big w) : Calls Tryd.prog 4 #[.agg #[.string ⟨l.toArray⟩, .string ⟨t.toArray⟩], .int .i64 off, .bool dst] w (One w) := by
  have HBg := Lib.hid hB
  have HBw := Lib.hid (Below.refl w.heap.size w)
  clear hB
  by_cases hl : l.length ≤ 100
  · by_cases ht : t.length ≤ 100
    · have h2 : (l.length : Int) ≤ 100 := by omega
      have h3 : (t.length : Int) ≤ 100 := by omega
      rcases show_cases l t off dst with ⟨hK, e1, e2⟩ | ⟨p, hK, e1, e2⟩ | ⟨S, k, p, k0, hK, e1, e2⟩
      ·
        have HK := Lib.hid hK
        have E1 := Lib.hid e1
        have E2 := Lib.hid e2
        have HL := Lib.hid (show l.length ≤ 1000 by omega)
        have HT := Lib.hid (show t.length ≤ 1000 by omega)
        have hB0 := HBw.out.alloc HBw.out.size (.cells #[.string ⟨l.toArray⟩, .string ⟨t.toArray⟩] 29)
        have HB0 := Lib.hid hB0
        have HR0 := Lib.hid (heap_alloc_new w (.cells #[.string ⟨l.toArray⟩, .string ⟨t.toArray⟩] 29))
        clear hl ht hK e1 e2 hB0
        go_enter Tryd.func4, Tryd.ntmps4
        go_wp2_with fail
        refine (show_any l off dst t _ (HBg.out.below HB0.out) HL.out HT.out).mono ?_
        rintro e w1 ⟨rfl, hb⟩
        have HBw1 := Lib.hid (HB0.out.trans (hb.mono HB0.out.size))
        have HRw1 := Lib.hid ((hb.block w.heap.size (row_lt HR0.out)).trans HR0.out)
        have c0 := cell_of_row w1 w.heap.size 0 _ _ _ HRw1.out
        have c1 := cell_of_row w1 w.heap.size 1 _ _ _ HRw1.out
        clear hb
        rw [E1.out]
        go_wp2_with fail
        refine (rshow_any l off dst t _ HL.out HT.out).mono ?_
        rintro e w2 ⟨rfl, hb⟩
        have HBw2 := Lib.hid (HBw1.out.trans (hb.mono HBw1.out.size))
        have HRw2 := Lib.hid ((hb.block w.heap.size (row_lt HRw1.out)).trans HRw1.out)
        have c0 := cell_of_row w2 w.heap.size 0 _ _ _ HRw2.out
        have c1 := cell_of_row w2 w.heap.size 1 _ _ _ HRw2.out
        clear hb
        rw [E2.out]
        go_wp2_with fail
        refine (rkind_any l _ HL.out).mono ?_
        rintro e w' ⟨rfl, rfl⟩
        rw [rkret_eq HK.out]
        go_wp2_with fail
        refine (awake_any _ (HBg.out.below HBw2.out)).mono ?_
        rintro e w8 ⟨rfl, hb⟩
        have HBw8 := Lib.hid (HBw2.out.trans (hb.mono HBw2.out.size))
        clear hb
        go_wp2_with fail
        go_ret
        exact ⟨rfl, HBw8.out⟩
      ·
        have HK := Lib.hid hK
        have E1 := Lib.hid e1
        have E2 := Lib.hid e2
        have HL := Lib.hid (show l.length ≤ 1000 by omega)
        have HT := Lib.hid (show t.length ≤ 1000 by omega)
        have hB0 := HBw.out.alloc HBw.out.size (.cells #[.string ⟨l.toArray⟩, .string ⟨t.toArray⟩] 29)
        have HB0 := Lib.hid hB0
        have HR0 := Lib.hid (heap_alloc_new w (.cells #[.string ⟨l.toArray⟩, .string ⟨t.toArray⟩] 29))
        clear hl ht hK e1 e2 hB0
        go_enter Tryd.func4, Tryd.ntmps4
        go_wp2_with fail
        refine (show_any l off dst t _ (HBg.out.below HB0.out) HL.out HT.out).mono ?_
        rintro e w1 ⟨rfl, hb⟩
        have HBw1 := Lib.hid (HB0.out.trans (hb.mono HB0.out.size))
        have HRw1 := Lib.hid ((hb.block w.heap.size (row_lt HR0.out)).trans HR0.out)
        have c0 := cell_of_row w1 w.heap.size 0 _ _ _ HRw1.out
        have c1 := cell_of_row w1 w.heap.size 1 _ _ _ HRw1.out
        clear hb
        rw [E1.out]
        go_wp2_with fail
        refine (rshow_any l off dst t _ HL.out HT.out).mono ?_
        rintro e w2 ⟨rfl, hb⟩
        have HBw2 := Lib.hid (HBw1.out.trans (hb.mono HBw1.out.size))
        have HRw2 := Lib.hid ((hb.block w.heap.size (row_lt HRw1.out)).trans HRw1.out)
        have c0 := cell_of_row w2 w.heap.size 0 _ _ _ HRw2.out
        have c1 := cell_of_row w2 w.heap.size 1 _ _ _ HRw2.out
        clear hb
        rw [E2.out]
        go_wp2_with fail
        refine (rkind_any l _ HL.out).mono ?_
        rintro e w' ⟨rfl, rfl⟩
        rw [rkret_eq HK.out]
        go_wp2_with fail
        refine (awake_any _ (HBg.out.below HBw2.out)).mono ?_
        rintro e w8 ⟨rfl, hb⟩
        have HBw8 := Lib.hid (HBw2.out.trans (hb.mono HBw2.out.size))
        clear hb
        go_wp2_with fail
        go_ret
        exact ⟨rfl, HBw8.out⟩
      ·
        have HK := Lib.hid hK
        have E1 := Lib.hid e1
        have E2 := Lib.hid e2
        have HL := Lib.hid (show l.length ≤ 1000 by omega)
        have HT := Lib.hid (show t.length ≤ 1000 by omega)
        have hB0 := HBw.out.alloc HBw.out.size (.cells #[.string ⟨l.toArray⟩, .string ⟨t.toArray⟩] 29)
        have HB0 := Lib.hid hB0
        have HR0 := Lib.hid (heap_alloc_new w (.cells #[.string ⟨l.toArray⟩, .string ⟨t.toArray⟩] 29))
        clear hl ht hK e1 e2 hB0
        go_enter Tryd.func4, Tryd.ntmps4
        go_wp2_with fail
        refine (show_any l off dst t _ (HBg.out.below HB0.out) HL.out HT.out).mono ?_
        rintro e w1 ⟨rfl, hb⟩
        have HBw1 := Lib.hid (HB0.out.trans (hb.mono HB0.out.size))
        have HRw1 := Lib.hid ((hb.block w.heap.size (row_lt HR0.out)).trans HR0.out)
        have c0 := cell_of_row w1 w.heap.size 0 _ _ _ HRw1.out
        have c1 := cell_of_row w1 w.heap.size 1 _ _ _ HRw1.out
        clear hb
        rw [E1.out]
        go_wp2_with fail
        refine (rshow_any l off dst t _ HL.out HT.out).mono ?_
        rintro e w2 ⟨rfl, hb⟩
        have HBw2 := Lib.hid (HBw1.out.trans (hb.mono HBw1.out.size))
        have HRw2 := Lib.hid ((hb.block w.heap.size (row_lt HRw1.out)).trans HRw1.out)
        have c0 := cell_of_row w2 w.heap.size 0 _ _ _ HRw2.out
        have c1 := cell_of_row w2 w.heap.size 1 _ _ _ HRw2.out
        clear hb
        rw [E2.out]
        go_wp2_with fail
        refine (rkind_any l _ HL.out).mono ?_
        rintro e w' ⟨rfl, rfl⟩
        rw [rkret_eq HK.out]
        go_wp2_with fail
        refine (awake_any _ (HBg.out.below HBw2.out)).mono ?_
        rintro e w8 ⟨rfl, hb⟩
        have HBw8 := Lib.hid (HBw2.out.trans (hb.mono HBw2.out.size))
        clear hb
        go_wp2_with fail
        go_ret
        exact ⟨rfl, HBw8.out⟩
    · have h2 : (l.length : Int) ≤ 100 := by omega
      have h3 : 100 < (t.length : Int) := by omega
      clear hl
      try clear ht
      have HB0 := Lib.hid (HBw.out.alloc HBw.out.size (.cells #[.string ⟨l.toArray⟩, .string ⟨t.toArray⟩] 29))
      go_enter Tryd.func4, Tryd.ntmps4
      go_wp2_with fail
      refine (awake_any _ (HBg.out.below HB0.out)).mono ?_
      rintro e w8 ⟨rfl, hb⟩
      have HBw8 := Lib.hid (HB0.out.trans (hb.mono HB0.out.size))
      clear hb
      go_wp2_with fail
      go_ret
      exact ⟨rfl, HBw8.out⟩
  · have h2 : 100 < (l.length : Int) := by omega
    clear hl
    try clear ht
    have HB0 := Lib.hid (HBw.out.alloc HBw.out.size (.cells #[.string ⟨l.toArray⟩, .string ⟨t.toArray⟩] 29))
    go_enter Tryd.func4, Tryd.ntmps4
    go_wp2_with fail
    refine (awake_any _ (HBg.out.below HB0.out)).mono ?_
    rintro e w8 ⟨rfl, hb⟩
    have HBw8 := Lib.hid (HB0.out.trans (hb.mono HB0.out.size))
    clear hb
    go_wp2_with fail
    go_ret
    exact ⟨rfl, HBw8.out⟩
end abbrShows
end Go.Proofs.YtakpbgjmblbaiaaDoor
