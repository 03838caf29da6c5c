/-
  THE LAW DayformTurns, walked.
-/
import Derived.Test.YtmkbfjklhejdnaaDoorInAny
namespace Go.Proofs.YtmkbfjklhejdnaaDoor
open Go Go.RowKit CivM NumM
/-- what In answers: a date that is the day, or none -/
theorem in_cases (k wk n y m : Int) :
    (∃ y1 m1 d1, MayIn k wk n y m ∧ Valid y1 m1 d1 ∧ num y1 m1 d1 = fndD k wk n y m ∧ ∀ w, Ahead w → Calls Tryd.prog 13 #[.agg #[.int .i64 k, .int .i64 wk, .int .i64 n], .int .i64 y, .int .i64 m] w fun e w' => e = .returned (okD y1 m1 d1) ∧ Below w.heap.size w w') ∨
    (∀ w, Ahead w → Calls Tryd.prog 13 #[.agg #[.int .i64 k, .int .i64 wk, .int .i64 n], .int .i64 y, .int .i64 m] w fun e w' => e = .returned noD ∧ Below w.heap.size w w') := by
  by_cases hm : MayIn k wk n y m
  · by_cases hf : -37243778 ≤ fndD k wk n y m ∧ fndD k wk n y m ≤ 35805087
    · obtain ⟨y1, m1, d1, hv, hn⟩ := date_ex _ hf
      exact .inl ⟨y1, m1, d1, hm, hv, hn, fun w hA => ofV_ok hv ▸ hn ▸ in_may k wk n y m w hA hm⟩
    · exact .inr fun w hA => ofV_no hf ▸ in_may k wk n y m w hA hm
  · exact .inr fun w hA => in_not k wk n y m w hA hm
abbrev rsV (a b c e : Int) : Value := .tuple #[.agg #[.int .i64 a, .int .i64 b, .int .i64 c], .int .i64 e]
/-- In answers this -/
def InIs (k wk n y m a b c e : Int) : Prop := ∀ w, Ahead w → Calls Tryd.prog 13 #[.agg #[.int .i64 k, .int .i64 wk, .int .i64 n], .int .i64 y, .int .i64 m] w fun e' w' => e' = .returned (rsV a b c e) ∧ Below w.heap.size w w'
/-- a date that is the day, or none -/
theorem in_is (k wk n y m : Int) : ∃ a b c e, InIs k wk n y m a b c e ∧ ((e = 0 ∧ MayIn k wk n y m ∧ Valid a b c ∧ num a b c = fndD k wk n y m) ∨ (e = 10 ∧ a = 0 ∧ b = 0 ∧ c = 0)) := by
  rcases in_cases k wk n y m with ⟨a, b, c, hm, hv, hn, hS⟩ | hS
  · exact ⟨a, b, c, 0, hS, .inl ⟨rfl, hm, hv, hn⟩⟩
  · exact ⟨0, 0, 0, 10, hS, .inr ⟨rfl, rfl, rfl, rfl⟩⟩
theorem row2_cells {w : World} {B : Nat} {t : TypeId} {k y : Int} (h : w.heap[B]? = some (.cells #[.int .i64 k, .int .i64 y] t (0, 0))) : w.cell? ⟨B, 0, none⟩ = some (.int .i64 k) ∧ w.cell? ⟨B, 1, none⟩ = some (.int .i64 y) :=
  ⟨cell_of_row w B 0 _ _ _ h, cell_of_row w B 1 _ _ _ h⟩
namespace dayformTurns
set_option maxRecDepth 100000 in
set_option maxHeartbeats 2000000 in
theorem walk_small (wk n y m : Int) (w : World) (h : Reads w) (hn : n < 1 ∨ 25 < n) :
    Calls Tryd.prog 6 #[.int .i64 wk, .int .i64 n, .agg #[.int .i64 y, .int .i64 m]] w (One w) := by
  have HR := Lib.hid h
  have HBw := Lib.hid (Below.refl w.heap.size w)
  clear h
  have hb : Below w.heap.size w (w.alloc (.cells #[.int .i64 y, .int .i64 m] 43)) := (Below.refl _ _).alloc (Nat.le_refl _) _
  have HBv := Lib.hid hb
  clear hb
  rcases hn with hn | hn
  · go_enter Tryd.func6, Tryd.ntmps6
    go_wp2_with fail
    refine (awake_any _ (HR.out.below HBv.out)).mono ?_
    rintro e w1 ⟨rfl, hbw1⟩
    have HBw1 := Lib.hid (HBv.out.trans (hbw1.mono HBv.out.size))
    go_wp2_with fail
    go_ret
    exact ⟨rfl, HBw1.out⟩
  · go_enter Tryd.func6, Tryd.ntmps6
    go_wp2_with fail
    refine (awake_any _ (HR.out.below HBv.out)).mono ?_
    rintro e w1 ⟨rfl, hbw1⟩
    have HBw1 := Lib.hid (HBv.out.trans (hbw1.mono HBv.out.size))
    go_wp2_with fail
    go_ret
    exact ⟨rfl, HBw1.out⟩
set_option maxRecDepth 100000 in
set_option maxHeartbeats 2000000 in
theorem walk_same (wk n y m a1 a2 a3 b1 b2 b3 : Int) (w : World) (h : Reads w) (n1 : 1 ≤ n) (n2 : n ≤ 25) (hA : InIs 2 wk n y m a1 a2 a3 0) (hB : InIs 3 wk (n + 6) y m b1 b2 b3 0) (e1 : b1 = a1) (e2 : b2 = a2) (e3 : b3 = a3) :
    Calls Tryd.prog 6 #[.int .i64 wk, .int .i64 n, .agg #[.int .i64 y, .int .i64 m]] w (One w) := by
  have H1 := Lib.hid e1
  have H2 := Lib.hid e2
  have H3 := Lib.hid e3
  clear e1 e2 e3
  have HR := Lib.hid h
  have HBw := Lib.hid (Below.refl w.heap.size w)
  have SA := Lib.hid hA
  have SB := Lib.hid hB
  clear h hA hB
  go_enter Tryd.func6, Tryd.ntmps6
  go_upto_region 3 with fail
  generalize hX : w.alloc (.cells #[.int .i64 y, .int .i64 m] 43) = v0
  have sv0 : v0.heap.size = w.heap.size + 1 := by rw [← hX]; simp
  have bv0 : Below w.heap.size w v0 := by rw [← hX]; exact (Below.refl _ _).alloc (Nat.le_refl _) _
  have HYv0 := Lib.hid (show v0.heap[w.heap.size]? = some (.cells #[.int .i64 y, .int .i64 m] 43 (0, 0)) by rw [← hX]; exact heap_alloc_new w _)
  have HBv0 := Lib.hid (HBw.out.trans (bv0.mono HBw.out.size))
  clear hX
  obtain ⟨p0, p1⟩ := row2_cells HYv0.out
  go_wp2_with fail
  refine (SA.out _ (HR.out.below HBv0.out).a).mono ?_
  rintro e w1 ⟨rfl, hbw1⟩
  have HBw1 := Lib.hid (HBv0.out.trans (hbw1.mono HBv0.out.size))
  have HP1 := Lib.hid ((hbw1.block w.heap.size (by omega)).trans HYv0.out)
  have sw1 := hbw1.size
  clear hbw1 p0 p1
  go_upto_region 4 with fail
  generalize hX : w1.alloc (.cells #[.int .i64 a1, .int .i64 a2, .int .i64 a3] 31) = v1
  have sv1 : v1.heap.size = w1.heap.size + 1 := by rw [← hX]; simp
  have bv1 : Below w1.heap.size w1 v1 := by rw [← hX]; exact (Below.refl _ _).alloc (Nat.le_refl _) _
  have HYv1 := Lib.hid (show v1.heap[w1.heap.size]? = some (.cells #[.int .i64 a1, .int .i64 a2, .int .i64 a3] 31 (0, 0)) by rw [← hX]; exact heap_alloc_new w1 _)
  have HBv1 := Lib.hid (HBw1.out.trans (bv1.mono HBw1.out.size))
  clear hX
  obtain ⟨p0, p1⟩ := row2_cells ((bv1.block w.heap.size (by omega)).trans HP1.out)
  go_wp2_with fail
  refine (SB.out _ (HR.out.below HBv1.out).a).mono ?_
  rintro e w2 ⟨rfl, hbw2⟩
  have HBw2 := Lib.hid (HBv1.out.trans (hbw2.mono HBv1.out.size))
  have HX2 := Lib.hid ((hbw2.block w1.heap.size (by omega)).trans HYv1.out)
  have sw2 := hbw2.size
  clear hbw2 p0 p1
  go_upto_region 5 with fail
  generalize hX : w2.alloc (.cells #[.int .i64 b1, .int .i64 b2, .int .i64 b3] 31) = v2
  have sv2 : v2.heap.size = w2.heap.size + 1 := by rw [← hX]; simp
  have bv2 : Below w2.heap.size w2 v2 := by rw [← hX]; exact (Below.refl _ _).alloc (Nat.le_refl _) _
  have HYv2 := Lib.hid (show v2.heap[w2.heap.size]? = some (.cells #[.int .i64 b1, .int .i64 b2, .int .i64 b3] 31 (0, 0)) by rw [← hX]; exact heap_alloc_new w2 _)
  have HBv2 := Lib.hid (HBw2.out.trans (bv2.mono HBw2.out.size))
  clear hX
  have HX3 := Lib.hid ((bv2.block w1.heap.size (by omega)).trans HX2.out)
  obtain rfl := H1.out
  obtain rfl := H2.out
  obtain rfl := H3.out
  obtain ⟨p0, p1, p2⟩ := row3_cells HX3.out
  obtain ⟨r0, r1, r2⟩ := row3_cells HYv2.out
  go_wp2_with fail
  refine (awake_any _ (HR.out.below HBv2.out)).mono ?_
  rintro e w3 ⟨rfl, hbw3⟩
  have HBw3 := Lib.hid (HBv2.out.trans (hbw3.mono HBv2.out.size))
  go_wp2_with fail
  go_ret
  exact ⟨rfl, HBw3.out⟩
set_option maxRecDepth 100000 in
set_option maxHeartbeats 2000000 in
theorem walk_first (wk n y m a1 a2 a3 e b1 b2 b3 f : Int) (w : World) (h : Reads w) (n1 : 1 ≤ n) (n2 : n ≤ 25) (q : (e != 0) = true) (hA : InIs 2 wk n y m a1 a2 a3 e) (hB : InIs 3 wk (n + 6) y m b1 b2 b3 f) :
    Calls Tryd.prog 6 #[.int .i64 wk, .int .i64 n, .agg #[.int .i64 y, .int .i64 m]] w (One w) := by
  have HR := Lib.hid h
  have HBw := Lib.hid (Below.refl w.heap.size w)
  have SA := Lib.hid hA
  have SB := Lib.hid hB
  clear h hA hB
  go_enter Tryd.func6, Tryd.ntmps6
  go_upto_region 3 with fail
  generalize hX : w.alloc (.cells #[.int .i64 y, .int .i64 m] 43) = v0
  have sv0 : v0.heap.size = w.heap.size + 1 := by rw [← hX]; simp
  have bv0 : Below w.heap.size w v0 := by rw [← hX]; exact (Below.refl _ _).alloc (Nat.le_refl _) _
  have HYv0 := Lib.hid (show v0.heap[w.heap.size]? = some (.cells #[.int .i64 y, .int .i64 m] 43 (0, 0)) by rw [← hX]; exact heap_alloc_new w _)
  have HBv0 := Lib.hid (HBw.out.trans (bv0.mono HBw.out.size))
  clear hX
  obtain ⟨p0, p1⟩ := row2_cells HYv0.out
  go_wp2_with fail
  refine (SA.out _ (HR.out.below HBv0.out).a).mono ?_
  rintro e w1 ⟨rfl, hbw1⟩
  have HBw1 := Lib.hid (HBv0.out.trans (hbw1.mono HBv0.out.size))
  have HP1 := Lib.hid ((hbw1.block w.heap.size (by omega)).trans HYv0.out)
  have sw1 := hbw1.size
  clear hbw1 p0 p1
  go_upto_region 4 with fail
  generalize hX : w1.alloc (.cells #[.int .i64 a1, .int .i64 a2, .int .i64 a3] 31) = v1
  have sv1 : v1.heap.size = w1.heap.size + 1 := by rw [← hX]; simp
  have bv1 : Below w1.heap.size w1 v1 := by rw [← hX]; exact (Below.refl _ _).alloc (Nat.le_refl _) _
  have HYv1 := Lib.hid (show v1.heap[w1.heap.size]? = some (.cells #[.int .i64 a1, .int .i64 a2, .int .i64 a3] 31 (0, 0)) by rw [← hX]; exact heap_alloc_new w1 _)
  have HBv1 := Lib.hid (HBw1.out.trans (bv1.mono HBw1.out.size))
  clear hX
  obtain ⟨p0, p1⟩ := row2_cells ((bv1.block w.heap.size (by omega)).trans HP1.out)
  go_wp2_with fail
  refine (SB.out _ (HR.out.below HBv1.out).a).mono ?_
  rintro e w2 ⟨rfl, hbw2⟩
  have HBw2 := Lib.hid (HBv1.out.trans (hbw2.mono HBv1.out.size))
  have HX2 := Lib.hid ((hbw2.block w1.heap.size (by omega)).trans HYv1.out)
  have sw2 := hbw2.size
  clear hbw2 p0 p1
  go_upto_region 5 with fail
  generalize hX : w2.alloc (.cells #[.int .i64 b1, .int .i64 b2, .int .i64 b3] 31) = v2
  have sv2 : v2.heap.size = w2.heap.size + 1 := by rw [← hX]; simp
  have bv2 : Below w2.heap.size w2 v2 := by rw [← hX]; exact (Below.refl _ _).alloc (Nat.le_refl _) _
  have HYv2 := Lib.hid (show v2.heap[w2.heap.size]? = some (.cells #[.int .i64 b1, .int .i64 b2, .int .i64 b3] 31 (0, 0)) by rw [← hX]; exact heap_alloc_new w2 _)
  have HBv2 := Lib.hid (HBw2.out.trans (bv2.mono HBw2.out.size))
  clear hX
  go_wp2_with fail
  refine (awake_any _ (HR.out.below HBv2.out)).mono ?_
  rintro e w3 ⟨rfl, hbw3⟩
  have HBw3 := Lib.hid (HBv2.out.trans (hbw3.mono HBv2.out.size))
  go_wp2_with fail
  go_ret
  exact ⟨rfl, HBw3.out⟩
set_option maxRecDepth 100000 in
set_option maxHeartbeats 2000000 in
theorem walk_second (wk n y m a1 a2 a3 b1 b2 b3 f : Int) (w : World) (h : Reads w) (n1 : 1 ≤ n) (n2 : n ≤ 25) (q : (f != 0) = true) (hA : InIs 2 wk n y m a1 a2 a3 0) (hB : InIs 3 wk (n + 6) y m b1 b2 b3 f) :
    Calls Tryd.prog 6 #[.int .i64 wk, .int .i64 n, .agg #[.int .i64 y, .int .i64 m]] w (One w) := by
  have HR := Lib.hid h
  have HBw := Lib.hid (Below.refl w.heap.size w)
  have SA := Lib.hid hA
  have SB := Lib.hid hB
  clear h hA hB
  go_enter Tryd.func6, Tryd.ntmps6
  go_upto_region 3 with fail
  generalize hX : w.alloc (.cells #[.int .i64 y, .int .i64 m] 43) = v0
  have sv0 : v0.heap.size = w.heap.size + 1 := by rw [← hX]; simp
  have bv0 : Below w.heap.size w v0 := by rw [← hX]; exact (Below.refl _ _).alloc (Nat.le_refl _) _
  have HYv0 := Lib.hid (show v0.heap[w.heap.size]? = some (.cells #[.int .i64 y, .int .i64 m] 43 (0, 0)) by rw [← hX]; exact heap_alloc_new w _)
  have HBv0 := Lib.hid (HBw.out.trans (bv0.mono HBw.out.size))
  clear hX
  obtain ⟨p0, p1⟩ := row2_cells HYv0.out
  go_wp2_with fail
  refine (SA.out _ (HR.out.below HBv0.out).a).mono ?_
  rintro e w1 ⟨rfl, hbw1⟩
  have HBw1 := Lib.hid (HBv0.out.trans (hbw1.mono HBv0.out.size))
  have HP1 := Lib.hid ((hbw1.block w.heap.size (by omega)).trans HYv0.out)
  have sw1 := hbw1.size
  clear hbw1 p0 p1
  go_upto_region 4 with fail
  generalize hX : w1.alloc (.cells #[.int .i64 a1, .int .i64 a2, .int .i64 a3] 31) = v1
  have sv1 : v1.heap.size = w1.heap.size + 1 := by rw [← hX]; simp
  have bv1 : Below w1.heap.size w1 v1 := by rw [← hX]; exact (Below.refl _ _).alloc (Nat.le_refl _) _
  have HYv1 := Lib.hid (show v1.heap[w1.heap.size]? = some (.cells #[.int .i64 a1, .int .i64 a2, .int .i64 a3] 31 (0, 0)) by rw [← hX]; exact heap_alloc_new w1 _)
  have HBv1 := Lib.hid (HBw1.out.trans (bv1.mono HBw1.out.size))
  clear hX
  obtain ⟨p0, p1⟩ := row2_cells ((bv1.block w.heap.size (by omega)).trans HP1.out)
  go_wp2_with fail
  refine (SB.out _ (HR.out.below HBv1.out).a).mono ?_
  rintro e w2 ⟨rfl, hbw2⟩
  have HBw2 := Lib.hid (HBv1.out.trans (hbw2.mono HBv1.out.size))
  have HX2 := Lib.hid ((hbw2.block w1.heap.size (by omega)).trans HYv1.out)
  have sw2 := hbw2.size
  clear hbw2 p0 p1
  go_upto_region 5 with fail
  generalize hX : w2.alloc (.cells #[.int .i64 b1, .int .i64 b2, .int .i64 b3] 31) = v2
  have sv2 : v2.heap.size = w2.heap.size + 1 := by rw [← hX]; simp
  have bv2 : Below w2.heap.size w2 v2 := by rw [← hX]; exact (Below.refl _ _).alloc (Nat.le_refl _) _
  have HYv2 := Lib.hid (show v2.heap[w2.heap.size]? = some (.cells #[.int .i64 b1, .int .i64 b2, .int .i64 b3] 31 (0, 0)) by rw [← hX]; exact heap_alloc_new w2 _)
  have HBv2 := Lib.hid (HBw2.out.trans (bv2.mono HBw2.out.size))
  clear hX
  go_wp2_with fail
  refine (awake_any _ (HR.out.below HBv2.out)).mono ?_
  rintro e w3 ⟨rfl, hbw3⟩
  have HBw3 := Lib.hid (HBv2.out.trans (hbw3.mono HBv2.out.size))
  go_wp2_with fail
  go_ret
  exact ⟨rfl, HBw3.out⟩
theorem fnd_same {wk n y m : Int} : fndD 2 wk n y m = fndD 3 wk (n + 6) y m := by
  have h6 : num y m (n + 6) = num y m n + 6 := by unfold num; omega
  show num y m n + 1 * offD (num y m n) wk 1 = num y m (n + 6) + (-1) * offD (num y m (n + 6)) wk (-1)
  rw [h6]
  unfold offD
  rw [if_pos rfl, if_neg (by decide)]
  omega
theorem walk (wk n y m : Int) (w : World) (h : Reads w) :
    Calls Tryd.prog 6 #[.int .i64 wk, .int .i64 n, .agg #[.int .i64 y, .int .i64 m]] w (One w) := by
  by_cases hn : n < 1 ∨ 25 < n
  · exact walk_small wk n y m w h hn
  · obtain ⟨a1, a2, a3, e, hA, ⟨rfl, ma, va, na⟩ | ⟨rfl, _⟩⟩ := in_is 2 wk n y m
    · obtain ⟨b1, b2, b3, f, hB, ⟨rfl, mb, vb, nb⟩ | ⟨rfl, _⟩⟩ := in_is 3 wk (n + 6) y m
      · obtain ⟨e1, e2, e3⟩ := num_inj vb va (by rw [na, nb, fnd_same])
        exact walk_same wk n y m a1 a2 a3 b1 b2 b3 w h (by omega) (by omega) hA hB e1 e2 e3
      · exact walk_second wk n y m a1 a2 a3 b1 b2 b3 10 w h (by omega) (by omega) rfl hA hB
    · obtain ⟨b1, b2, b3, f, hB, _⟩ := in_is 3 wk (n + 6) y m
      exact walk_first wk n y m a1 a2 a3 10 b1 b2 b3 f w h (by omega) (by omega) rfl hA hB
end dayformTurns
end Go.Proofs.YtmkbfjklhejdnaaDoor
