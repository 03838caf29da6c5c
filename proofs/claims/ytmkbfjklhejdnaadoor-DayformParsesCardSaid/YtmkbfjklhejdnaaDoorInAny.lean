/-
  WHAT dayform.In AND THE DOCUMENT's In ANSWER at every day; the chapter's examples.
-/
import Derived.Test.YtmkbfjklhejdnaaDoorRIn
import Derived.Test.YtmkbfjklhejdnaaDoorParse
import Derived.Deep.Cut
namespace Go.Proofs.YtmkbfjklhejdnaaDoor
open Go Go.RowKit CivM NumM
def MayIn (k wk n y m : Int) : Prop := RightD k wk n ∧ (-100000 ≤ y ∧ y ≤ 100000 ∧ 1 ≤ m ∧ m ≤ 12) ∧ n ≤ dim y m
instance (k wk n y m : Int) : Decidable (MayIn k wk n y m) := by unfold MayIn; infer_instance
def toldD (k n y m : Int) : Int := num y m (if k = 1 then dim y m else n)
def stpD (k : Int) : Int := if k = 2 then 1 else -1
/-- the day of the calendar that a day of a month is -/
def fndD (k wk n y m : Int) : Int := if k = 0 then num y m n else toldD k n y m + stpD k * offD (toldD k n y m) wk (stpD k)
theorem rightD_kind {k wk n : Int} (h : RightD k wk n) : k = 0 ∨ k = 1 ∨ k = 2 ∨ k = 3 := by rcases h with h | h | h <;> omega
theorem valid_fixed {wk n y m : Int} (h : RightD 0 wk n) (hl : -100000 ≤ y ∧ y ≤ 100000 ∧ 1 ≤ m ∧ m ≤ 12) (hn : n ≤ dim y m) : Valid y m n := by
  obtain ⟨l1, l2, l3, l4⟩ := hl
  refine ⟨l1, l2, l3, l4, ?_, hn⟩
  rcases h with h | h | h <;> omega
theorem in_may (k wk n y m : Int) (w : World) (hA : Ahead w) (h : MayIn k wk n y m) :
    Calls Tryd.prog 13 #[.agg #[.int .i64 k, .int .i64 wk, .int .i64 n], .int .i64 y, .int .i64 m] w fun e w' => e = .returned (ofV (fndD k wk n y m)) ∧ Below w.heap.size w w' := by
  obtain ⟨h, hl, hn⟩ := h
  rcases rightD_kind h with rfl | rfl | rfl | rfl
  · rw [show fndD 0 wk n y m = num y m n from if_pos rfl, ofV_ok (valid_fixed h hl hn)]
    exact in_fixed wk n y m w hA h hl hn
  · exact in_last wk n y m w hA h hl hn
  · exact in_noless wk n y m w hA h hl hn
  · exact in_nogreater wk n y m w hA h hl hn
theorem in_not (k wk n y m : Int) (w : World) (hA : Ahead w) (h : ¬ MayIn k wk n y m) :
    Calls Tryd.prog 13 #[.agg #[.int .i64 k, .int .i64 wk, .int .i64 n], .int .i64 y, .int .i64 m] w fun e w' => e = .returned noD ∧ Below w.heap.size w w' := by
  by_cases h1 : RightD k wk n
  · by_cases h2 : -100000 ≤ y ∧ y ≤ 100000 ∧ 1 ≤ m ∧ m ≤ 12
    · exact in_many k wk n y m w hA h1 h2 (Int.not_le.1 fun q => h ⟨h1, h2, q⟩)
    · exact in_off k wk n y m w hA h1 h2
  · exact in_wrong k wk n y m w hA h1
theorem rin_may (k wk n y m : Int) (w : World) (h : MayIn k wk n y m) :
    Calls Tryd.prog 14 #[.agg #[.int .i64 k, .int .i64 wk, .int .i64 n], .int .i64 y, .int .i64 m] w fun e w' => e = .returned (.tuple #[.int .i64 (fndD k wk n y m), .bool true]) ∧ Below w.heap.size w w' := by
  obtain ⟨h, hl, hn⟩ := h
  rcases rightD_kind h with rfl | rfl | rfl | rfl
  · exact rin_fixed wk n y m w h hl hn
  · exact rin_last wk n y m w h hl hn
  · exact rin_noless wk n y m w h hl hn
  · exact rin_nogreater wk n y m w h hl hn
theorem rin_not (k wk n y m : Int) (w : World) (h : ¬ MayIn k wk n y m) :
    Calls Tryd.prog 14 #[.agg #[.int .i64 k, .int .i64 wk, .int .i64 n], .int .i64 y, .int .i64 m] w fun e w' => e = .returned (.tuple #[.int .i64 0, .bool false]) ∧ Below w.heap.size w w' := by
  by_cases h1 : RightD k wk n
  · by_cases h2 : -100000 ≤ y ∧ y ≤ 100000 ∧ 1 ≤ m ∧ m ≤ 12
    · exact rin_many k wk n y m w h1 h2 (Int.not_le.1 fun q => h ⟨h1, h2, q⟩)
    · exact rin_off k wk n y m w h1 h2
  · exact rin_wrong k wk n y m w h1
/-- a law's end: true, and what was there is as it was -/
def One (w : World) (e : Ending) (w' : World) : Prop := e = .returned (.bool true) ∧ Below w.heap.size w w'
/-- what the chapter's walks read -/
structure Reads (w : World) : Prop where
  a : Ahead w
  p : PReads w
theorem Reads.below {w w' : World} (h : Reads w) (hb : Below w.heap.size w w') : Reads w' := ⟨h.a.below hb, h.p.below hb⟩
theorem eql_last (l : List UInt8) (h : l.take 4 = [108, 97, 115, 116]) : EqL l true := by
  intro w
  rw [h]
  refine (Tryd.strings_EqualFold ⟨#[108, 97, 115, 116]⟩ ⟨#[108, 97, 115, 116]⟩ w (by decide) (by
    intro j b hb
    have hm : b ∈ ([108, 97, 115, 116] : List UInt8) := List.mem_of_getElem? hb
    simp at hm
    rcases hm with rfl | rfl | rfl | rfl <;> decide) (by
    intro j b hb
    have hm : b ∈ ([108, 97, 115, 116] : List UInt8) := List.mem_of_getElem? hb
    simp at hm
    rcases hm with rfl | rfl | rfl | rfl <;> decide)).mono ?_
  rintro e w' ⟨rfl, rfl⟩
  exact ⟨by rw [show Lib.equalFold _ _ = true from by decide +kernel], rfl⟩
theorem ex1 (w : World) (h : Reads w) : Calls Tryd.prog 10 #[.string ⟨#[108, 97, 115, 116, 83, 117, 110]⟩] w fun e w' => e = .returned (dayV 1 0 0) ∧ Below w.heap.size w w' :=
  parse_last_ok [108, 97, 115, 116, 83, 117, 110] 0 w (by decide) h.p (by decide +kernel) (by decide) (eql_last _ rfl) (by decide +kernel)
theorem ex2 (w : World) (h : Reads w) : Calls Tryd.prog 10 #[.string ⟨#[83, 117, 110, 62, 61, 56]⟩] w fun e w' => e = .returned (dayV 2 0 8) ∧ Below w.heap.size w w' :=
  parse_sign_ok [83, 117, 110, 62, 61, 56] 3 0 8 2 w (by decide) h.p (by decide +kernel) (.inl rfl) (by decide) (by decide +kernel) (by decide +kernel) (by decide)
theorem ex3 (w : World) (h : Reads w) : Calls Tryd.prog 13 #[.agg #[.int .i64 1, .int .i64 0, .int .i64 0], .int .i64 2024, .int .i64 3] w fun e w' => e = .returned (okD 2024 3 31) ∧ Below w.heap.size w w' := by
  have := in_may 1 0 0 2024 3 w h.a (by decide)
  rwa [show fndD 1 0 0 2024 3 = num 2024 3 31 from by decide +kernel, ofV_ok ⟨by decide, by decide, by decide, by decide, by decide, by decide⟩] at this
theorem ex4 (w : World) (h : Reads w) : Calls Tryd.prog 13 #[.agg #[.int .i64 2, .int .i64 0, .int .i64 8], .int .i64 2024, .int .i64 3] w fun e w' => e = .returned (okD 2024 3 10) ∧ Below w.heap.size w w' := by
  have := in_may 2 0 8 2024 3 w h.a (by decide)
  rwa [show fndD 2 0 8 2024 3 = num 2024 3 10 from by decide +kernel, ofV_ok ⟨by decide, by decide, by decide, by decide, by decide, by decide⟩] at this
theorem row3_cells {w : World} {B : Nat} {t : TypeId} {k y n : Int} (h : w.heap[B]? = some (.cells #[.int .i64 k, .int .i64 y, .int .i64 n] t (0, 0))) : w.cell? ⟨B, 0, none⟩ = some (.int .i64 k) ∧ w.cell? ⟨B, 1, none⟩ = some (.int .i64 y) ∧ w.cell? ⟨B, 2, none⟩ = some (.int .i64 n) :=
  ⟨cell_of_row w B 0 _ _ _ h, cell_of_row w B 1 _ _ _ h, cell_of_row w B 2 _ _ _ h⟩
set_option maxRecDepth 100000 in
set_option maxHeartbeats 2000000 in
theorem awake_any (w : World) (h : Reads w) :
    Calls Tryd.prog 9 #[] w fun e w' => e = .returned (.bool true) ∧ Below w.heap.size w w' := by
  have HR := Lib.hid h
  have HBw := Lib.hid (Below.refl w.heap.size w)
  clear h
  go_enter Tryd.func9, Tryd.ntmps9
  go_wp2_with fail
  refine (ex1 _ HR.out).mono ?_
  rintro e w1 ⟨rfl, hbw1⟩
  have HBw1 := Lib.hid (HBw.out.trans (hbw1.mono HBw.out.size))
  go_wp2_with fail
  generalize hX : w1.alloc (.cells #[.int .i64 1, .int .i64 0, .int .i64 0] 24) = v1
  have sv1 : v1.heap.size = w1.heap.size + 1 := by rw [← hX]; simp
  have bv1 : Below w1.heap.size w1 v1 := by rw [← hX]; exact (Below.refl _ _).alloc (Nat.le_refl _) _
  have HYv1 := Lib.hid (show v1.heap[w1.heap.size]? = some (.cells #[.int .i64 1, .int .i64 0, .int .i64 0] 24 (0, 0)) by rw [← hX]; exact heap_alloc_new w1 _)
  have HBv1 := Lib.hid (HBw1.out.trans (bv1.mono HBw1.out.size))
  clear hX
  refine (ex2 _ (HR.out.below HBv1.out)).mono ?_
  rintro e w2 ⟨rfl, hbw2⟩
  have HBw2 := Lib.hid (HBv1.out.trans (hbw2.mono HBv1.out.size))
  have HA2 := Lib.hid ((hbw2.block w1.heap.size (by omega)).trans HYv1.out)
  have sw2 := hbw2.size
  clear hbw2
  go_upto_region 3 with fail
  generalize hX : w2.alloc (.cells #[.int .i64 2, .int .i64 0, .int .i64 8] 24) = v2
  have sv2 : v2.heap.size = w2.heap.size + 1 := by rw [← hX]; simp
  have bv2 : Below w2.heap.size w2 v2 := by rw [← hX]; exact (Below.refl _ _).alloc (Nat.le_refl _) _
  have HYv2 := Lib.hid (show v2.heap[w2.heap.size]? = some (.cells #[.int .i64 2, .int .i64 0, .int .i64 8] 24 (0, 0)) by rw [← hX]; exact heap_alloc_new w2 _)
  have HBv2 := Lib.hid (HBw2.out.trans (bv2.mono HBw2.out.size))
  clear hX
  obtain ⟨a0, a1, a2⟩ := row3_cells ((bv2.block w1.heap.size (by omega)).trans HA2.out)
  go_wp2_with fail
  refine (ex3 _ (HR.out.below HBv2.out)).mono ?_
  rintro e w3 ⟨rfl, hbw3⟩
  have HBw3 := Lib.hid (HBv2.out.trans (hbw3.mono HBv2.out.size))
  have HA3 := Lib.hid ((hbw3.block w2.heap.size (by omega)).trans HYv2.out)
  have sw3 := hbw3.size
  clear hbw3 a0 a1 a2
  go_upto_region 4 with fail
  generalize hX : w3.alloc (.cells #[.int .i64 2024, .int .i64 3, .int .i64 31] 31) = v3
  have sv3 : v3.heap.size = w3.heap.size + 1 := by rw [← hX]; simp
  have bv3 : Below w3.heap.size w3 v3 := by rw [← hX]; exact (Below.refl _ _).alloc (Nat.le_refl _) _
  have HYv3 := Lib.hid (show v3.heap[w3.heap.size]? = some (.cells #[.int .i64 2024, .int .i64 3, .int .i64 31] 31 (0, 0)) by rw [← hX]; exact heap_alloc_new w3 _)
  have HBv3 := Lib.hid (HBw3.out.trans (bv3.mono HBw3.out.size))
  clear hX
  obtain ⟨a0, a1, a2⟩ := row3_cells ((bv3.block w2.heap.size (by omega)).trans HA3.out)
  go_wp2_with fail
  refine (ex4 _ (HR.out.below HBv3.out)).mono ?_
  rintro e w4 ⟨rfl, hbw4⟩
  have HBw4 := Lib.hid (HBv3.out.trans (hbw4.mono HBv3.out.size))
  have HA4 := Lib.hid ((hbw4.block w3.heap.size (by omega)).trans HYv3.out)
  have sw4 := hbw4.size
  clear hbw4 a0 a1 a2
  go_upto_region 5 with fail
  generalize hX : w4.alloc (.cells #[.int .i64 2024, .int .i64 3, .int .i64 10] 31) = v4
  have sv4 : v4.heap.size = w4.heap.size + 1 := by rw [← hX]; simp
  have bv4 : Below w4.heap.size w4 v4 := by rw [← hX]; exact (Below.refl _ _).alloc (Nat.le_refl _) _
  have HYv4 := Lib.hid (show v4.heap[w4.heap.size]? = some (.cells #[.int .i64 2024, .int .i64 3, .int .i64 10] 31 (0, 0)) by rw [← hX]; exact heap_alloc_new w4 _)
  have HBv4 := Lib.hid (HBw4.out.trans (bv4.mono HBw4.out.size))
  clear hX
  obtain ⟨a0, a1, a2⟩ := row3_cells ((bv4.block w3.heap.size (by omega)).trans HA4.out)
  obtain ⟨c0, c1, c2⟩ := row3_cells HYv4.out
  go_wp2_with fail
  go_ret
  exact ⟨rfl, HBv4.out⟩
end Go.Proofs.YtmkbfjklhejdnaaDoor
