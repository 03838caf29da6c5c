/-
  THE LAW DayformParses, walked.
-/
import Derived.Test.YtmkbfjklhejdnaaDoorRParseAny
import Derived.Test.YtmkbfjklhejdnaaDoorInAny
namespace Go.Proofs.YtmkbfjklhejdnaaDoor.dayformParses
open Go Go.RowKit CivM NumM
theorem wk_ok {s : List UInt8} (h : (wkE s).2 = 0) : 0 ≤ (wkE s).1 ∧ (wkE s).1 ≤ 6 := by
  unfold wkE at *
  cases hf : fd s weekdaysL with
  | none => rw [hf] at h; exact absurd h (by decide)
  | some i =>
    have := fd_lt hf
    have h7 : weekdaysL.length = 7 := rfl
    simp only
    omega
theorem num_ok {s : List UInt8} (h : (numE s).2 = 0) : 1 ≤ (numE s).1 ∧ (numE s).1 ≤ 31 := by
  unfold numE at *
  cases hf : nm s with
  | none => rw [hf] at h; exact absurd h (by decide)
  | some u =>
    have h1 := (nm_iff.1 hf).2.1
    rw [hf] at h
    simp only at h ⊢
    by_cases h31 : 31 < u
    · rw [if_pos h31] at h; exact absurd h (by decide)
    · rw [if_neg h31]; simp only; omega
theorem dp_right (l : List UInt8) (h : (dp l).e = 0) : RightD (dp l).k (dp l).i (dp l).u := by
  rcases sg_cases l with ⟨A, kd, hs, hk, hA⟩ | hs
  · rw [dp_sign hs] at *
    have w1 := @wk_ok ((l.take A).map low)
    have w2 := @num_ok (l.drop (A + 2))
    generalize wkE ((l.take A).map low) = p at *
    generalize numE (l.drop (A + 2)) = q at *
    unfold dpS at *
    by_cases h1 : p.2 = 0
    · rw [if_pos h1] at *
      by_cases h2 : q.2 = 0
      · rw [if_pos h2] at *
        exact Or.inr (Or.inr ⟨hk, (w2 h2).1, (w2 h2).2, (w1 h1).1, (w1 h1).2⟩)
      · rw [if_neg h2] at h
        exact absurd h h2
    · rw [if_neg h1] at h
      exact absurd h h1
  · by_cases hb : lastB l
    · rw [dp_last hs hb] at *
      have w1 := @wk_ok ((l.drop 4).map low)
      generalize wkE ((l.drop 4).map low) = p at *
      unfold dpL at *
      by_cases h1 : p.2 = 0
      · rw [if_pos h1] at *
        exact Or.inr (Or.inl ⟨rfl, rfl, (w1 h1).1, (w1 h1).2⟩)
      · rw [if_neg h1] at h
        exact absurd h h1
    · rw [dp_num hs hb] at *
      have w2 := @num_ok l
      generalize numE l = q at *
      unfold dpN at *
      by_cases h2 : q.2 = 0
      · rw [if_pos h2] at *
        exact Or.inl ⟨rfl, rfl, (w2 h2).1, (w2 h2).2⟩
      · rw [if_neg h2] at h
        exact absurd h h2
abbrev txtA (l : List UInt8) : Array Value := #[.string ⟨l.toArray⟩]
set_option maxRecDepth 100000 in
set_option maxHeartbeats 2000000 in
theorem walk_long (l : List UInt8) (w : World) (h : Reads w) (hl : 40 < l.length) :
    Calls Tryd.prog 3 (txtA l) w (One w) := by
  have HR := Lib.hid h
  have HBw := Lib.hid (Below.refl w.heap.size w)
  have hl2 : 40 < (l.length : Int) := by omega
  clear h hl
  go_enter Tryd.func3, Tryd.ntmps3
  go_wp2_with fail
  refine (awake_any _ (HR.out.below HBw.out)).mono ?_
  rintro e w1 ⟨rfl, hbw1⟩
  have HBw1 := Lib.hid (HBw.out.trans (hbw1.mono HBw.out.size))
  go_wp2_with fail
  go_ret
  exact ⟨rfl, HBw1.out⟩
set_option maxRecDepth 100000 in
set_option maxHeartbeats 2000000 in
theorem walk_ok (l : List UInt8) (k i u : Int) (w : World) (h : Reads w) (hF : Fold w) (hl : l.length ≤ 40) (hr : RightD k i u)
    (hP : ∀ w, Reads w → Fold w → Calls Tryd.prog 10 (txtA l) w fun e w' => e = .returned (dpV ⟨k, i, u, 0⟩) ∧ Below w.heap.size w w')
    (hQ : ∀ w, Calls Tryd.prog 11 (txtA l) w fun e w' => e = .returned (dpV ⟨k, i, u, 0⟩) ∧ Below w.heap.size w w') :
    Calls Tryd.prog 3 (txtA l) w (One w) := by
  have EC := Lib.hid (chkV_ok hr)
  clear hr
  have SP := Lib.hid hP
  have SQ := Lib.hid hQ
  have HR := Lib.hid h
  have HF := Lib.hid hF
  have HBw := Lib.hid (Below.refl w.heap.size w)
  have hl2 : (l.length : Int) ≤ 40 := by omega
  clear h hF hP hQ hl
  go_enter Tryd.func3, Tryd.ntmps3
  go_wp2_with fail
  refine (SP.out _ (HR.out.below HBw.out) (HF.out.below HBw.out)).mono ?_
  rintro e w1 ⟨rfl, hbw1⟩
  have HBw1 := Lib.hid (HBw.out.trans (hbw1.mono HBw.out.size))
  go_upto_region 4 with fail
  generalize hX : w1.alloc (.cells #[.int .i64 k, .int .i64 i, .int .i64 u] 24) = v1
  have sv1 : v1.heap.size = w1.heap.size + 1 := by rw [← hX]; simp
  have bv1 : Below w1.heap.size w1 v1 := by rw [← hX]; exact (Below.refl _ _).alloc (Nat.le_refl _) _
  have HYv1 := Lib.hid (show v1.heap[w1.heap.size]? = some (.cells #[.int .i64 k, .int .i64 i, .int .i64 u] 24 (0, 0)) by rw [← hX]; exact heap_alloc_new w1 _)
  have HBv1 := Lib.hid (HBw1.out.trans (bv1.mono HBw1.out.size))
  clear hX
  go_wp2_with fail
  refine (SQ.out _).mono ?_
  rintro e w2 ⟨rfl, hbw2⟩
  have HBw2 := Lib.hid (HBv1.out.trans (hbw2.mono HBv1.out.size))
  have HD2 := Lib.hid ((hbw2.block w1.heap.size (by omega)).trans HYv1.out)
  have sw2 := hbw2.size
  clear hbw2
  go_upto_region 5 with fail
  generalize hX : w2.alloc (.cells #[.int .i64 k, .int .i64 i, .int .i64 u] 24) = v2
  have sv2 : v2.heap.size = w2.heap.size + 1 := by rw [← hX]; simp
  have bv2 : Below w2.heap.size w2 v2 := by rw [← hX]; exact (Below.refl _ _).alloc (Nat.le_refl _) _
  have HYv2 := Lib.hid (show v2.heap[w2.heap.size]? = some (.cells #[.int .i64 k, .int .i64 i, .int .i64 u] 24 (0, 0)) by rw [← hX]; exact heap_alloc_new w2 _)
  have HBv2 := Lib.hid (HBw2.out.trans (bv2.mono HBw2.out.size))
  clear hX
  have HD3 := Lib.hid ((bv2.block w1.heap.size (by omega)).trans HD2.out)
  obtain ⟨p0, p1, p2⟩ := row3_cells HD3.out
  obtain ⟨r0, r1, r2⟩ := row3_cells HYv2.out
  go_wp2_with fail
  refine (check_day k i u _).mono ?_
  rintro e w3 ⟨rfl, hbw3⟩
  have HBw3 := Lib.hid (HBv2.out.trans (hbw3.mono HBv2.out.size))
  rw [EC.out]
  clear hbw3 p0 p1 p2 r0 r1 r2
  go_wp2_with fail
  refine (awake_any _ (HR.out.below HBw3.out)).mono ?_
  rintro e w4 ⟨rfl, hbw4⟩
  have HBw4 := Lib.hid (HBw3.out.trans (hbw4.mono HBw3.out.size))
  go_wp2_with fail
  go_ret
  exact ⟨rfl, HBw4.out⟩
set_option maxRecDepth 100000 in
set_option maxHeartbeats 2000000 in
theorem walk_err (l : List UInt8) (k i u f : Int) (w : World) (h : Reads w) (hF : Fold w) (hl : l.length ≤ 40) (hf : f ≠ 0)
    (hP : ∀ w, Reads w → Fold w → Calls Tryd.prog 10 (txtA l) w fun e w' => e = .returned (dpV ⟨k, i, u, f⟩) ∧ Below w.heap.size w w')
    (hQ : ∀ w, Calls Tryd.prog 11 (txtA l) w fun e w' => e = .returned (dpV ⟨k, i, u, f⟩) ∧ Below w.heap.size w w') :
    Calls Tryd.prog 3 (txtA l) w (One w) := by
  have hf2 : (f != 0) = true := bne_iff_ne.2 hf
  clear hf
  have SP := Lib.hid hP
  have SQ := Lib.hid hQ
  have HR := Lib.hid h
  have HF := Lib.hid hF
  have HBw := Lib.hid (Below.refl w.heap.size w)
  have hl2 : (l.length : Int) ≤ 40 := by omega
  clear h hF hP hQ hl
  go_enter Tryd.func3, Tryd.ntmps3
  go_wp2_with fail
  refine (SP.out _ (HR.out.below HBw.out) (HF.out.below HBw.out)).mono ?_
  rintro e w1 ⟨rfl, hbw1⟩
  have HBw1 := Lib.hid (HBw.out.trans (hbw1.mono HBw.out.size))
  go_upto_region 4 with fail
  generalize hX : w1.alloc (.cells #[.int .i64 k, .int .i64 i, .int .i64 u] 24) = v1
  have sv1 : v1.heap.size = w1.heap.size + 1 := by rw [← hX]; simp
  have bv1 : Below w1.heap.size w1 v1 := by rw [← hX]; exact (Below.refl _ _).alloc (Nat.le_refl _) _
  have HYv1 := Lib.hid (show v1.heap[w1.heap.size]? = some (.cells #[.int .i64 k, .int .i64 i, .int .i64 u] 24 (0, 0)) by rw [← hX]; exact heap_alloc_new w1 _)
  have HBv1 := Lib.hid (HBw1.out.trans (bv1.mono HBw1.out.size))
  clear hX
  go_wp2_with fail
  refine (SQ.out _).mono ?_
  rintro e w2 ⟨rfl, hbw2⟩
  have HBw2 := Lib.hid (HBv1.out.trans (hbw2.mono HBv1.out.size))
  have HD2 := Lib.hid ((hbw2.block w1.heap.size (by omega)).trans HYv1.out)
  have sw2 := hbw2.size
  clear hbw2
  go_upto_region 5 with fail
  generalize hX : w2.alloc (.cells #[.int .i64 k, .int .i64 i, .int .i64 u] 24) = v2
  have sv2 : v2.heap.size = w2.heap.size + 1 := by rw [← hX]; simp
  have bv2 : Below w2.heap.size w2 v2 := by rw [← hX]; exact (Below.refl _ _).alloc (Nat.le_refl _) _
  have HYv2 := Lib.hid (show v2.heap[w2.heap.size]? = some (.cells #[.int .i64 k, .int .i64 i, .int .i64 u] 24 (0, 0)) by rw [← hX]; exact heap_alloc_new w2 _)
  have HBv2 := Lib.hid (HBw2.out.trans (bv2.mono HBw2.out.size))
  clear hX
  have HD3 := Lib.hid ((bv2.block w1.heap.size (by omega)).trans HD2.out)
  obtain ⟨p0, p1, p2⟩ := row3_cells HD3.out
  obtain ⟨r0, r1, r2⟩ := row3_cells HYv2.out
  go_wp2_with fail
  refine (awake_any _ (HR.out.below HBv2.out)).mono ?_
  rintro e w3 ⟨rfl, hbw3⟩
  have HBw3 := Lib.hid (HBv2.out.trans (hbw3.mono HBv2.out.size))
  clear p0 p1 p2 r0 r1 r2
  go_wp2_with fail
  go_ret
  exact ⟨rfl, HBw3.out⟩
theorem walk (l : List UInt8) (w : World) (h : Reads w) (hF : Fold w) :
    Calls Tryd.prog 3 (txtA l) w (One w) := by
  by_cases hl : 40 < l.length
  · exact walk_long l w h hl
  · have hP : ∀ w, Reads w → Fold w → _ := fun w h hF => parse_any l w (by omega) h.p hF
    have hQ := fun w => rparse_any l w (by omega)
    have hR := dp_right l
    generalize dp l = d at *
    obtain ⟨k, i, u, e⟩ := d
    simp only at hR
    by_cases he : e = 0
    · subst he
      exact walk_ok l k i u w h hF (by omega) (hR rfl) hP hQ
    · exact walk_err l k i u e w h hF (by omega) he hP hQ
end Go.Proofs.YtmkbfjklhejdnaaDoor.dayformParses
