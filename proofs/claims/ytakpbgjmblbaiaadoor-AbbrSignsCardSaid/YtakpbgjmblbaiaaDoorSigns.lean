/-
  THE LAW AbbrSigns, walked.
-/
import Derived.Test.YtakpbgjmblbaiaaDoorAwake
namespace Go.Proofs.YtakpbgjmblbaiaaDoor.abbrSigns
open Go Go.RowKit AbbM

/-- an offset's text behind its sign -/
def rest (n : Int) : List UInt8 := two (n / 3600) ++ (if 0 < n % 3600 then two (n % 3600 / 60) else []) ++ if 0 < n % 60 then two (n % 60) else []
theorem otext_rest (c : UInt8) (n : Int) : otext [c] n = c :: rest n := by unfold otext rest; simp
theorem rest_len (n : Int) : (n % 3600 = 0 ∧ n % 60 = 0 ∧ (rest n).length = 2) ∨ (n % 3600 ≠ 0 ∧ n % 60 = 0 ∧ (rest n).length = 4) ∨ (n % 3600 ≠ 0 ∧ n % 60 ≠ 0 ∧ (rest n).length = 6) := by
  unfold rest
  by_cases h1 : 0 < n % 3600
  · by_cases h2 : 0 < n % 60
    · exact .inr (.inr ⟨by omega, by omega, by rw [if_pos h1, if_pos h2]; simp [two]⟩)
    · exact .inr (.inl ⟨by omega, by omega, by rw [if_pos h1, if_neg h2]; simp [two]⟩)
  · exact .inl ⟨by omega, by omega, by rw [if_neg h1, if_neg (by omega)]; simp [two]⟩
set_option maxHeartbeats 1000000 in
theorem walk_pos (n : Int) (w : World) (hB : Big w) (h0 : 0 < n) (hn : n < 360000) : Calls Tryd.prog 6 #[.int .i64 n] w (One w) := by
  have HBg := Lib.hid hB
  have HBw := Lib.hid (Below.refl w.heap.size w)
  clear hB
  have fn : (n == 0) = false := by rw [beq_eq_false_iff_ne]; omega
  rcases rest_len n with ⟨a, b, hr⟩ | ⟨a, b, hr⟩ | ⟨a, b, hr⟩
  ·
    obtain ⟨A, hA⟩ : ∃ A, (43 : UInt8) :: rest n = A := ⟨_, rfl⟩
    obtain ⟨B, hB⟩ : ∃ B, (45 : UInt8) :: rest n = B := ⟨_, rfl⟩
    have LA : A.length = 3 := by rw [← hA, List.length_cons, hr]
    have LB : B.length = 3 := by rw [← hB, List.length_cons, hr]
    have XA : (⟨A.toArray⟩ : ByteArray).extract 1 3 = ⟨(rest n).toArray⟩ := by rw [← LA, ba_drop, ← hA]; rfl
    have XB : (⟨B.toArray⟩ : ByteArray).extract 1 3 = ⟨(rest n).toArray⟩ := by rw [← LB, ba_drop, ← hB]; rfl
    have GA : (⟨A.toArray⟩ : ByteArray)[0]'(by show 0 < A.toArray.size; simp [LA]) = 43 := by subst hA; rfl
    have GB : (⟨B.toArray⟩ : ByteArray)[0]'(by show 0 < B.toArray.size; simp [LB]) = 45 := by subst hB; rfl
    have EP := Lib.hid (fun w => offset_pos n w (by omega) hn)
    have EN := Lib.hid (fun w => offset_neg n w h0 hn)
    rw [otext_rest, hA] at EP
    rw [otext_rest, hB] at EN
    clear hA hB hr
    generalize rest n = T at *
    go_enter Tryd.func6, Tryd.ntmps6
    go_wp2_with fail
    refine (EP.out _).mono ?_
    rintro e w1 ⟨rfl, hb⟩
    have HBw1 := Lib.hid (HBw.out.trans (hb.mono HBw.out.size))
    clear hb
    go_wp2_with fail
    refine (EN.out _).mono ?_
    rintro e w2 ⟨rfl, hb⟩
    have HBw2 := Lib.hid (HBw1.out.trans (hb.mono HBw1.out.size))
    clear hb
    go_wp2_with fail
    go_region
    go_wp2_with fail
    have HBd := Lib.hid HBw2.out.drew
    refine (awake_any _ (HBg.out.below HBd.out)).mono ?_
    rintro e w8 ⟨rfl, hb⟩
    have HBw8 := Lib.hid (HBd.out.trans (hb.mono HBd.out.size))
    clear hb
    go_wp2_with fail
    go_ret
    exact ⟨rfl, HBw8.out⟩
  · have fa : (n % 3600 == 0) = false := by rw [beq_eq_false_iff_ne]; omega
    clear a
    obtain ⟨A, hA⟩ : ∃ A, (43 : UInt8) :: rest n = A := ⟨_, rfl⟩
    obtain ⟨B, hB⟩ : ∃ B, (45 : UInt8) :: rest n = B := ⟨_, rfl⟩
    have LA : A.length = 5 := by rw [← hA, List.length_cons, hr]
    have LB : B.length = 5 := by rw [← hB, List.length_cons, hr]
    have XA : (⟨A.toArray⟩ : ByteArray).extract 1 5 = ⟨(rest n).toArray⟩ := by rw [← LA, ba_drop, ← hA]; rfl
    have XB : (⟨B.toArray⟩ : ByteArray).extract 1 5 = ⟨(rest n).toArray⟩ := by rw [← LB, ba_drop, ← hB]; rfl
    have GA : (⟨A.toArray⟩ : ByteArray)[0]'(by show 0 < A.toArray.size; simp [LA]) = 43 := by subst hA; rfl
    have GB : (⟨B.toArray⟩ : ByteArray)[0]'(by show 0 < B.toArray.size; simp [LB]) = 45 := by subst hB; rfl
    have EP := Lib.hid (fun w => offset_pos n w (by omega) hn)
    have EN := Lib.hid (fun w => offset_neg n w h0 hn)
    rw [otext_rest, hA] at EP
    rw [otext_rest, hB] at EN
    clear hA hB hr
    generalize rest n = T at *
    go_enter Tryd.func6, Tryd.ntmps6
    go_wp2_with fail
    refine (EP.out _).mono ?_
    rintro e w1 ⟨rfl, hb⟩
    have HBw1 := Lib.hid (HBw.out.trans (hb.mono HBw.out.size))
    clear hb
    go_wp2_with fail
    refine (EN.out _).mono ?_
    rintro e w2 ⟨rfl, hb⟩
    have HBw2 := Lib.hid (HBw1.out.trans (hb.mono HBw1.out.size))
    clear hb
    go_wp2_with fail
    go_region
    go_wp2_with fail
    have HBd := Lib.hid HBw2.out.drew
    refine (awake_any _ (HBg.out.below HBd.out)).mono ?_
    rintro e w8 ⟨rfl, hb⟩
    have HBw8 := Lib.hid (HBd.out.trans (hb.mono HBd.out.size))
    clear hb
    go_wp2_with fail
    go_ret
    exact ⟨rfl, HBw8.out⟩
  · have fa : (n % 3600 == 0) = false := by rw [beq_eq_false_iff_ne]; omega
    have fb : (n % 60 != 0) = true := by simpa using b
    clear a b
    obtain ⟨A, hA⟩ : ∃ A, (43 : UInt8) :: rest n = A := ⟨_, rfl⟩
    obtain ⟨B, hB⟩ : ∃ B, (45 : UInt8) :: rest n = B := ⟨_, rfl⟩
    have LA : A.length = 7 := by rw [← hA, List.length_cons, hr]
    have LB : B.length = 7 := by rw [← hB, List.length_cons, hr]
    have XA : (⟨A.toArray⟩ : ByteArray).extract 1 7 = ⟨(rest n).toArray⟩ := by rw [← LA, ba_drop, ← hA]; rfl
    have XB : (⟨B.toArray⟩ : ByteArray).extract 1 7 = ⟨(rest n).toArray⟩ := by rw [← LB, ba_drop, ← hB]; rfl
    have GA : (⟨A.toArray⟩ : ByteArray)[0]'(by show 0 < A.toArray.size; simp [LA]) = 43 := by subst hA; rfl
    have GB : (⟨B.toArray⟩ : ByteArray)[0]'(by show 0 < B.toArray.size; simp [LB]) = 45 := by subst hB; rfl
    have EP := Lib.hid (fun w => offset_pos n w (by omega) hn)
    have EN := Lib.hid (fun w => offset_neg n w h0 hn)
    rw [otext_rest, hA] at EP
    rw [otext_rest, hB] at EN
    clear hA hB hr
    generalize rest n = T at *
    go_enter Tryd.func6, Tryd.ntmps6
    go_wp2_with fail
    refine (EP.out _).mono ?_
    rintro e w1 ⟨rfl, hb⟩
    have HBw1 := Lib.hid (HBw.out.trans (hb.mono HBw.out.size))
    clear hb
    go_wp2_with fail
    refine (EN.out _).mono ?_
    rintro e w2 ⟨rfl, hb⟩
    have HBw2 := Lib.hid (HBw1.out.trans (hb.mono HBw1.out.size))
    clear hb
    go_wp2_with fail
    go_region
    go_wp2_with fail
    have HBd := Lib.hid HBw2.out.drew
    refine (awake_any _ (HBg.out.below HBd.out)).mono ?_
    rintro e w8 ⟨rfl, hb⟩
    have HBw8 := Lib.hid (HBd.out.trans (hb.mono HBd.out.size))
    clear hb
    go_wp2_with fail
    go_ret
    exact ⟨rfl, HBw8.out⟩
set_option maxHeartbeats 1000000 in
theorem walk_neg (n : Int) (w : World) (hB : Big w) (h0 : 0 < n) (hn : n < 360000) : Calls Tryd.prog 6 #[.int .i64 (-n)] w (One w) := by
  have HBg := Lib.hid hB
  have HBw := Lib.hid (Below.refl w.heap.size w)
  clear hB
  have fn : (-n == 0) = false := by rw [beq_eq_false_iff_ne]; omega
  rcases rest_len n with ⟨a, b, hr⟩ | ⟨a, b, hr⟩ | ⟨a, b, hr⟩
  ·
    obtain ⟨A, hA⟩ : ∃ A, (43 : UInt8) :: rest n = A := ⟨_, rfl⟩
    obtain ⟨B, hB⟩ : ∃ B, (45 : UInt8) :: rest n = B := ⟨_, rfl⟩
    have LA : A.length = 3 := by rw [← hA, List.length_cons, hr]
    have LB : B.length = 3 := by rw [← hB, List.length_cons, hr]
    have XA : (⟨A.toArray⟩ : ByteArray).extract 1 3 = ⟨(rest n).toArray⟩ := by rw [← LA, ba_drop, ← hA]; rfl
    have XB : (⟨B.toArray⟩ : ByteArray).extract 1 3 = ⟨(rest n).toArray⟩ := by rw [← LB, ba_drop, ← hB]; rfl
    have GA : (⟨A.toArray⟩ : ByteArray)[0]'(by show 0 < A.toArray.size; simp [LA]) = 43 := by subst hA; rfl
    have GB : (⟨B.toArray⟩ : ByteArray)[0]'(by show 0 < B.toArray.size; simp [LB]) = 45 := by subst hB; rfl
    have EP := Lib.hid (fun w => offset_pos n w (by omega) hn)
    have EN := Lib.hid (fun w => offset_neg n w h0 hn)
    rw [otext_rest, hA] at EP
    rw [otext_rest, hB] at EN
    clear hA hB hr
    generalize rest n = T at *
    go_enter Tryd.func6, Tryd.ntmps6
    go_wp2_with fail
    refine (EN.out _).mono ?_
    rintro e w1 ⟨rfl, hb⟩
    have HBw1 := Lib.hid (HBw.out.trans (hb.mono HBw.out.size))
    clear hb
    go_wp2_with fail
    refine (EP.out _).mono ?_
    rintro e w2 ⟨rfl, hb⟩
    have HBw2 := Lib.hid (HBw1.out.trans (hb.mono HBw1.out.size))
    clear hb
    go_wp2_with fail
    go_region
    go_wp2_with fail
    have HBd := Lib.hid HBw2.out.drew
    refine (awake_any _ (HBg.out.below HBd.out)).mono ?_
    rintro e w8 ⟨rfl, hb⟩
    have HBw8 := Lib.hid (HBd.out.trans (hb.mono HBd.out.size))
    clear hb
    go_wp2_with fail
    go_ret
    exact ⟨rfl, HBw8.out⟩
  · have fa1 : ((-n).tmod 3600 == 0) = false := by rw [beq_eq_false_iff_ne, Int.neg_tmod, Int.tmod_eq_emod_of_nonneg (by omega)]; omega
    have fa2 : (-(n % 3600) == 0) = false := by rw [beq_eq_false_iff_ne]; omega
    have fa : (n % 3600 == 0) = false := by rw [beq_eq_false_iff_ne]; omega
    clear a
    obtain ⟨A, hA⟩ : ∃ A, (43 : UInt8) :: rest n = A := ⟨_, rfl⟩
    obtain ⟨B, hB⟩ : ∃ B, (45 : UInt8) :: rest n = B := ⟨_, rfl⟩
    have LA : A.length = 5 := by rw [← hA, List.length_cons, hr]
    have LB : B.length = 5 := by rw [← hB, List.length_cons, hr]
    have XA : (⟨A.toArray⟩ : ByteArray).extract 1 5 = ⟨(rest n).toArray⟩ := by rw [← LA, ba_drop, ← hA]; rfl
    have XB : (⟨B.toArray⟩ : ByteArray).extract 1 5 = ⟨(rest n).toArray⟩ := by rw [← LB, ba_drop, ← hB]; rfl
    have GA : (⟨A.toArray⟩ : ByteArray)[0]'(by show 0 < A.toArray.size; simp [LA]) = 43 := by subst hA; rfl
    have GB : (⟨B.toArray⟩ : ByteArray)[0]'(by show 0 < B.toArray.size; simp [LB]) = 45 := by subst hB; rfl
    have EP := Lib.hid (fun w => offset_pos n w (by omega) hn)
    have EN := Lib.hid (fun w => offset_neg n w h0 hn)
    rw [otext_rest, hA] at EP
    rw [otext_rest, hB] at EN
    clear hA hB hr
    generalize rest n = T at *
    go_enter Tryd.func6, Tryd.ntmps6
    go_wp2_with fail
    refine (EN.out _).mono ?_
    rintro e w1 ⟨rfl, hb⟩
    have HBw1 := Lib.hid (HBw.out.trans (hb.mono HBw.out.size))
    clear hb
    go_wp2_with fail
    refine (EP.out _).mono ?_
    rintro e w2 ⟨rfl, hb⟩
    have HBw2 := Lib.hid (HBw1.out.trans (hb.mono HBw1.out.size))
    clear hb
    go_wp2_with fail
    go_region
    go_wp2_with fail
    have HBd := Lib.hid HBw2.out.drew
    refine (awake_any _ (HBg.out.below HBd.out)).mono ?_
    rintro e w8 ⟨rfl, hb⟩
    have HBw8 := Lib.hid (HBd.out.trans (hb.mono HBd.out.size))
    clear hb
    go_wp2_with fail
    go_ret
    exact ⟨rfl, HBw8.out⟩
  · have fa1 : ((-n).tmod 3600 == 0) = false := by rw [beq_eq_false_iff_ne, Int.neg_tmod, Int.tmod_eq_emod_of_nonneg (by omega)]; omega
    have fa2 : (-(n % 3600) == 0) = false := by rw [beq_eq_false_iff_ne]; omega
    have fa : (n % 3600 == 0) = false := by rw [beq_eq_false_iff_ne]; omega
    have fb1 : ((-n).tmod 60 != 0) = true := by rw [bne_iff_ne, ne_eq, Int.neg_tmod, Int.tmod_eq_emod_of_nonneg (by omega)]; omega
    have fb2 : (-(n % 60) != 0) = true := by rw [bne_iff_ne]; omega
    have fb : (n % 60 != 0) = true := by simpa using b
    clear a b
    obtain ⟨A, hA⟩ : ∃ A, (43 : UInt8) :: rest n = A := ⟨_, rfl⟩
    obtain ⟨B, hB⟩ : ∃ B, (45 : UInt8) :: rest n = B := ⟨_, rfl⟩
    have LA : A.length = 7 := by rw [← hA, List.length_cons, hr]
    have LB : B.length = 7 := by rw [← hB, List.length_cons, hr]
    have XA : (⟨A.toArray⟩ : ByteArray).extract 1 7 = ⟨(rest n).toArray⟩ := by rw [← LA, ba_drop, ← hA]; rfl
    have XB : (⟨B.toArray⟩ : ByteArray).extract 1 7 = ⟨(rest n).toArray⟩ := by rw [← LB, ba_drop, ← hB]; rfl
    have GA : (⟨A.toArray⟩ : ByteArray)[0]'(by show 0 < A.toArray.size; simp [LA]) = 43 := by subst hA; rfl
    have GB : (⟨B.toArray⟩ : ByteArray)[0]'(by show 0 < B.toArray.size; simp [LB]) = 45 := by subst hB; rfl
    have EP := Lib.hid (fun w => offset_pos n w (by omega) hn)
    have EN := Lib.hid (fun w => offset_neg n w h0 hn)
    rw [otext_rest, hA] at EP
    rw [otext_rest, hB] at EN
    clear hA hB hr
    generalize rest n = T at *
    go_enter Tryd.func6, Tryd.ntmps6
    go_wp2_with fail
    refine (EN.out _).mono ?_
    rintro e w1 ⟨rfl, hb⟩
    have HBw1 := Lib.hid (HBw.out.trans (hb.mono HBw.out.size))
    clear hb
    go_wp2_with fail
    refine (EP.out _).mono ?_
    rintro e w2 ⟨rfl, hb⟩
    have HBw2 := Lib.hid (HBw1.out.trans (hb.mono HBw1.out.size))
    clear hb
    go_wp2_with fail
    go_region
    go_wp2_with fail
    have HBd := Lib.hid HBw2.out.drew
    refine (awake_any _ (HBg.out.below HBd.out)).mono ?_
    rintro e w8 ⟨rfl, hb⟩
    have HBw8 := Lib.hid (HBd.out.trans (hb.mono HBd.out.size))
    clear hb
    go_wp2_with fail
    go_ret
    exact ⟨rfl, HBw8.out⟩
theorem walk_far (n : Int) (w : World) (hB : Big w) (h : ¬ ((0 < n ∧ n < 360000) ∨ (-360000 < n ∧ n < 0))) : Calls Tryd.prog 6 #[.int .i64 n] w (One w) := by
  have HBg := Lib.hid hB
  have HBw := Lib.hid (Below.refl w.heap.size w)
  clear hB
  by_cases h1 : n ≤ -360000
  · clear h
    go_enter Tryd.func6, Tryd.ntmps6
    go_wp2_with fail
    refine (awake_any _ HBg.out).mono ?_
    rintro e w8 ⟨rfl, hb⟩
    have HBw8 := Lib.hid (HBw.out.trans (hb.mono HBw.out.size))
    clear hb
    go_wp2_with fail
    go_ret
    exact ⟨rfl, HBw8.out⟩
  · by_cases h2 : 360000 ≤ n
    · clear h
      go_enter Tryd.func6, Tryd.ntmps6
      go_wp2_with fail
      refine (awake_any _ HBg.out).mono ?_
      rintro e w8 ⟨rfl, hb⟩
      have HBw8 := Lib.hid (HBw.out.trans (hb.mono HBw.out.size))
      clear hb
      go_wp2_with fail
      go_ret
      exact ⟨rfl, HBw8.out⟩
    · obtain rfl : n = 0 := by omega
      clear h
      go_enter Tryd.func6, Tryd.ntmps6
      go_wp2_with fail
      refine (awake_any _ HBg.out).mono ?_
      rintro e w8 ⟨rfl, hb⟩
      have HBw8 := Lib.hid (HBw.out.trans (hb.mono HBw.out.size))
      clear hb
      go_wp2_with fail
      go_ret
      exact ⟨rfl, HBw8.out⟩
end Go.Proofs.YtakpbgjmblbaiaaDoor.abbrSigns
