/-
  THE LAW NumJoins, walked.
-/
import Derived.Test.YtnbgmnjmandolaaOwn
namespace Go.Proofs.Ytnbgmnjmandolaa.numJoins
open Go Go.RowKit NumM

theorem sm_congr {f g : Nat → Int} {n : Nat} (h : ∀ j, j < n → f j = g j) : sm f n = sm g n := by
  induction n with
  | zero => rfl
  | succ n ih => simp only [sm]; rw [ih (fun j hj => h j (by omega)), h n (by omega)]
theorem sm_join (a b : Nat → Int) (n m : Nat) : sm (joinZ n a b) (n + m) = sm a n + sm b m := by
  induction m with
  | zero =>
    rw [Nat.add_zero, sm_congr (g := a) (fun j hj => by unfold joinZ; rw [if_pos hj])]
    simp [sm]
  | succ m ih =>
    rw [← Nat.add_assoc]
    simp only [sm]
    rw [ih]
    unfold joinZ
    rw [if_neg (by omega), show n + m - n = m by omega]
    omega
theorem sm_joins (a b : Nat → Int) (n m : Nat) : sm (joinZ n (joinZ 0 (fun _ => 0) a) b) (n + m) = sm a n + sm b m := by
  rw [sm_join, sm_congr (g := a) (fun j hj => by unfold joinZ; rw [if_neg (by omega)]; rfl)]
def tri (x y z : Int) : Nat → Int := fun j => match j with | 0 => x | 1 => y | _ => z
set_option maxRecDepth 100000 in
set_option maxHeartbeats 8000000 in
theorem walk (a b : Nat → Int) (ad bd : Option Addr) (n m cap cbp : Nat) (x y z : Int) (w : World) (hx : Fits x) (hy : Fits y) (hz : Fits z) (hn : n ≤ 20) (hm : m ≤ 20) (hsa : Sl w ad n a) (hsb : Sl w bd m b)
    (hna : ad = none → n = 0 ∧ cap = 0) (hnb : bd = none → m = 0 ∧ cbp = 0) (hfa : ∀ k, k < n → Fits (a k)) (hfb : ∀ k, k < m → Fits (b k)) :
    Calls Try.prog 7 #[.slice ad n cap, .slice bd m cbp, .agg #[.int .i64 x, .int .i64 y, .int .i64 z]] w (One w) := by
  have HSA := Lib.hid hsa
  have HSB := Lib.hid hsb
  have HNA := Lib.hid hna
  have HNB := Lib.hid hnb
  have HFA := Lib.hid hfa
  have HFB := Lib.hid hfb
  clear hsa hsb hna hnb hfa hfb
  go_enter Try.func7, Try.ntmps7
  have HB0 := Lib.hid ((Below.refl w.heap.size w).alloc (Nat.le_refl _) (.cells #[.int .i64 x, .int .i64 y, .int .i64 z] 40))
  have HT0 : Arr (w.alloc (.cells #[.int .i64 x, .int .i64 y, .int .i64 z] 40)) w.heap.size 40 3 (tri x y z) := Arr.new w 40 3 (tri x y z)
  have HT := Lib.hid HT0
  have HA0 := Lib.hid (HSA.out.below HB0.out)
  have HC0 := Lib.hid (HSB.out.below HB0.out)
  clear HT0
  go_wp2_with (at_builtin; go_loud (refine wpList_append_ints rfl _ _ rfl (w.heap.size + 1) (.slice none 0 0) 0 (fun _ => 0) (by rfl) (World.ownsRow_nil _ _ _ _) ad n cap a (by rfl) HA0.out HNA.out (by omega) (by simp) ?_))
  intro v1 w1 ho1 hb1
  have HO1 := Lib.hid ho1
  have HB1 := Lib.hid hb1
  clear ho1
  have HA1 := Lib.hid (HA0.out.below (hb1.mono (by simp)))
  have HC1 := Lib.hid (HC0.out.below (hb1.mono (by simp)))
  clear hb1
  have hz1 : w.heap.size + 1 ≤ w1.heap.size := by have := HB1.out.size; simpa using this
  go_wp2_with (at_builtin; go_loud (refine wpList_append_ints rfl _ _ rfl (w.heap.size + 1) v1 n (joinZ 0 (fun _ => 0) a) (by rfl) HO1.out bd m cbp b (by rfl) HC1.out HNB.out (by omega) hz1 ?_))
  intro v2 w2 ho2 hb2
  obtain ⟨ad2, cap2, rfl, hsl⟩ := ho2.sl
  have HS2 := Lib.hid hsl
  have HB2 := Lib.hid (show Below (w.heap.size + 1) (w.alloc (.cells #[.int .i64 x, .int .i64 y, .int .i64 z] 40)) w2 from HB1.out.trans hb2)
  clear ho2 hb2 hsl HO1 HB1
  have HA2 := Lib.hid (HSA.out.below (HB0.out.trans (HB2.out.mono (by simp))))
  have HC2 := Lib.hid (HSB.out.below (HB0.out.trans (HB2.out.mono (by simp))))
  have HFJ := Lib.hid (show ∀ k, k < n + m → Fits (joinZ n (joinZ 0 (fun _ => 0) a) b k) from fun k hk => by
    unfold joinZ
    by_cases h : k < n
    · rw [if_pos h, if_neg (by omega)]; exact HFA.out _ (by omega)
    · rw [if_neg h]; exact HFB.out _ (by omega))
  go_wp2_with fail
  refine (sum_two a ad n cap _ (by omega) HA2.out HFA.out).mono ?_
  rintro e w3 ⟨rfl, hb3⟩
  have HC3 := Lib.hid (HC2.out.below hb3)
  have HS3 := Lib.hid (HS2.out.below hb3)
  have HB3 := Lib.hid (HB2.out.trans (hb3.mono (by have := HB2.out.size; simpa using this)))
  clear hb3
  go_wp2_with fail
  refine (sum_two b bd m cbp _ (by omega) HC3.out HFB.out).mono ?_
  rintro e w4 ⟨rfl, hb4⟩
  have HS4 := Lib.hid (HS3.out.below hb4)
  have HB4 := Lib.hid (HB3.out.trans (hb4.mono (by have := HB3.out.size; simpa using this)))
  clear hb4
  go_wp2_with fail
  refine (sum_two _ ad2 (n + m) cap2 _ (by omega) HS4.out HFJ.out).mono ?_
  rintro e w5 ⟨rfl, hb5⟩
  rw [sm_joins]
  have HB5 := Lib.hid (HB4.out.trans (hb5.mono (by have := HB4.out.size; simpa using this)))
  clear hb5 HS2 HS3 HS4 HC2 HC3 HA2 HA1 HC1 HB2 HB3 HB4 HA0 HC0 HNA HNB HFJ hz1
  have hs5 : w.heap.size + 1 ≤ w5.heap.size := by have := HB5.out.size; simpa using this
  have HB := Lib.hid (HB0.out.trans (HB5.out.mono (by omega)))
  have HT5 := Lib.hid (HT.out.below HB5.out (by omega))
  clear HT HB0 HSA HSB HFA HFB HB5
  by_cases hA : Fits (sm a n)
  · by_cases hC : Fits (sm b m)
    · have e1 : (ee (sm a n) == 0) = true := by rw [ee_fits hA]; rfl
      have e2 : (ee (sm b m) == 0) = true := by rw [ee_fits hC]; rfl
      have NA := Lib.hid (nn_fits hA)
      have NC := Lib.hid (nn_fits hC)
      go_wp2_with fail
      rw [NA.out, NC.out]
      refine (add_two (sm a n) (sm b m) _ hA hC).mono ?_
      rintro e w6 ⟨rfl, hb6⟩
      have HB6 := Lib.hid (HB.out.trans (hb6.mono HB.out.size))
      have HT6 := Lib.hid (HT5.out.below hb6 HT5.out.lt)
      clear hb6 HB HT5
      have k0 := HT6.out.cell (k := 0) (by omega)
      have k1 := HT6.out.cell (k := 1) (by omega)
      have k2 := HT6.out.cell (k := 2) (by omega)
      rw [show tri x y z 0 = x from rfl] at k0
      rw [show tri x y z 1 = y from rfl] at k1
      rw [show tri x y z 2 = z from rfl] at k2
      go_wp2_with fail
      refine (mul_two x z _ hx hz).mono ?_
      rintro e w' ⟨rfl, rfl⟩
      go_wp2_with fail
      refine (mul_two y z _ hy hz).mono ?_
      rintro e w' ⟨rfl, rfl⟩
      go_wp2_with fail
      refine (add_two x y _ hx hy).mono ?_
      rintro e w9 ⟨rfl, hb9⟩
      have HB9 := Lib.hid (HB6.out.trans (hb9.mono HB6.out.size))
      have HT9 := Lib.hid (HT6.out.below hb9 HT6.out.lt)
      clear hb9 k0 k1 k2
      have k2 := HT9.out.cell (k := 2) (by omega)
      rw [show tri x y z 2 = z from rfl] at k2
      by_cases h1 : Fits (x * z)
      · have c1 : (ee (x * z) != 0) = false := by rw [ee_fits h1]; rfl
        by_cases h2 : Fits (y * z)
        · have c2 : (ee (y * z) != 0) = false := by rw [ee_fits h2]; rfl
          by_cases h3 : Fits (x + y)
          · have c3 : (ee (x + y) != 0) = false := by rw [ee_fits h3]; rfl
            have N1 := Lib.hid (nn_fits h1)
            have N2 := Lib.hid (nn_fits h2)
            have N3 := Lib.hid (nn_fits h3)
            go_wp2_with fail
            rw [N3.out]
            refine (mul_two (x + y) z _ h3 hz).mono ?_
            rintro e w' ⟨rfl, rfl⟩
            go_wp2_with fail
            rw [N1.out, N2.out]
            refine (add_two (x * z) (y * z) _ h1 h2).mono ?_
            rintro e w8 ⟨rfl, hb8⟩
            rw [← Int.add_mul]
            have HB8 := Lib.hid (HB9.out.trans (hb8.mono HB9.out.size))
            clear hb8
            go_wp2_with fail
            refine (awake_any _).mono ?_
            rintro e w' ⟨rfl, rfl⟩
            go_wp2_with fail
            go_ret
            exact ⟨rfl, HB8.out⟩
          · have c3 : (ee (x + y) != 0) = true := by rw [ee_not h3]; rfl
            go_wp2_with fail
            refine (awake_any _).mono ?_
            rintro e w' ⟨rfl, rfl⟩
            go_wp2_with fail
            go_ret
            exact ⟨rfl, HB9.out⟩
        · have c2 : (ee (y * z) != 0) = true := by rw [ee_not h2]; rfl
          go_wp2_with fail
          refine (awake_any _).mono ?_
          rintro e w' ⟨rfl, rfl⟩
          go_wp2_with fail
          go_ret
          exact ⟨rfl, HB9.out⟩
      · have c1 : (ee (x * z) != 0) = true := by rw [ee_not h1]; rfl
        go_wp2_with fail
        refine (awake_any _).mono ?_
        rintro e w' ⟨rfl, rfl⟩
        go_wp2_with fail
        go_ret
        exact ⟨rfl, HB9.out⟩
    · have e1 : (ee (sm a n) == 0) = true := by rw [ee_fits hA]; rfl
      have e2 : (ee (sm b m) == 0) = false := by rw [ee_not hC]; rfl
      have k0 := HT5.out.cell (k := 0) (by omega)
      have k1 := HT5.out.cell (k := 1) (by omega)
      have k2 := HT5.out.cell (k := 2) (by omega)
      rw [show tri x y z 0 = x from rfl] at k0
      rw [show tri x y z 1 = y from rfl] at k1
      rw [show tri x y z 2 = z from rfl] at k2
      go_wp2_with fail
      refine (mul_two x z _ hx hz).mono ?_
      rintro e w' ⟨rfl, rfl⟩
      go_wp2_with fail
      refine (mul_two y z _ hy hz).mono ?_
      rintro e w' ⟨rfl, rfl⟩
      go_wp2_with fail
      refine (add_two x y _ hx hy).mono ?_
      rintro e w9 ⟨rfl, hb9⟩
      have HB9 := Lib.hid (HB.out.trans (hb9.mono HB.out.size))
      have HT9 := Lib.hid (HT5.out.below hb9 HT5.out.lt)
      clear hb9 k0 k1 k2
      have k2 := HT9.out.cell (k := 2) (by omega)
      rw [show tri x y z 2 = z from rfl] at k2
      by_cases h1 : Fits (x * z)
      · have c1 : (ee (x * z) != 0) = false := by rw [ee_fits h1]; rfl
        by_cases h2 : Fits (y * z)
        · have c2 : (ee (y * z) != 0) = false := by rw [ee_fits h2]; rfl
          by_cases h3 : Fits (x + y)
          · have c3 : (ee (x + y) != 0) = false := by rw [ee_fits h3]; rfl
            have N1 := Lib.hid (nn_fits h1)
            have N2 := Lib.hid (nn_fits h2)
            have N3 := Lib.hid (nn_fits h3)
            go_wp2_with fail
            rw [N3.out]
            refine (mul_two (x + y) z _ h3 hz).mono ?_
            rintro e w' ⟨rfl, rfl⟩
            go_wp2_with fail
            rw [N1.out, N2.out]
            refine (add_two (x * z) (y * z) _ h1 h2).mono ?_
            rintro e w8 ⟨rfl, hb8⟩
            rw [← Int.add_mul]
            have HB8 := Lib.hid (HB9.out.trans (hb8.mono HB9.out.size))
            clear hb8
            go_wp2_with fail
            refine (awake_any _).mono ?_
            rintro e w' ⟨rfl, rfl⟩
            go_wp2_with fail
            go_ret
            exact ⟨rfl, HB8.out⟩
          · have c3 : (ee (x + y) != 0) = true := by rw [ee_not h3]; rfl
            go_wp2_with fail
            refine (awake_any _).mono ?_
            rintro e w' ⟨rfl, rfl⟩
            go_wp2_with fail
            go_ret
            exact ⟨rfl, HB9.out⟩
        · have c2 : (ee (y * z) != 0) = true := by rw [ee_not h2]; rfl
          go_wp2_with fail
          refine (awake_any _).mono ?_
          rintro e w' ⟨rfl, rfl⟩
          go_wp2_with fail
          go_ret
          exact ⟨rfl, HB9.out⟩
      · have c1 : (ee (x * z) != 0) = true := by rw [ee_not h1]; rfl
        go_wp2_with fail
        refine (awake_any _).mono ?_
        rintro e w' ⟨rfl, rfl⟩
        go_wp2_with fail
        go_ret
        exact ⟨rfl, HB9.out⟩
  · have e1 : (ee (sm a n) == 0) = false := by rw [ee_not hA]; rfl
    have k0 := HT5.out.cell (k := 0) (by omega)
    have k1 := HT5.out.cell (k := 1) (by omega)
    have k2 := HT5.out.cell (k := 2) (by omega)
    rw [show tri x y z 0 = x from rfl] at k0
    rw [show tri x y z 1 = y from rfl] at k1
    rw [show tri x y z 2 = z from rfl] at k2
    go_wp2_with fail
    refine (mul_two x z _ hx hz).mono ?_
    rintro e w' ⟨rfl, rfl⟩
    go_wp2_with fail
    refine (mul_two y z _ hy hz).mono ?_
    rintro e w' ⟨rfl, rfl⟩
    go_wp2_with fail
    refine (add_two x y _ hx hy).mono ?_
    rintro e w9 ⟨rfl, hb9⟩
    have HB9 := Lib.hid (HB.out.trans (hb9.mono HB.out.size))
    have HT9 := Lib.hid (HT5.out.below hb9 HT5.out.lt)
    clear hb9 k0 k1 k2
    have k2 := HT9.out.cell (k := 2) (by omega)
    rw [show tri x y z 2 = z from rfl] at k2
    by_cases h1 : Fits (x * z)
    · have c1 : (ee (x * z) != 0) = false := by rw [ee_fits h1]; rfl
      by_cases h2 : Fits (y * z)
      · have c2 : (ee (y * z) != 0) = false := by rw [ee_fits h2]; rfl
        by_cases h3 : Fits (x + y)
        · have c3 : (ee (x + y) != 0) = false := by rw [ee_fits h3]; rfl
          have N1 := Lib.hid (nn_fits h1)
          have N2 := Lib.hid (nn_fits h2)
          have N3 := Lib.hid (nn_fits h3)
          go_wp2_with fail
          rw [N3.out]
          refine (mul_two (x + y) z _ h3 hz).mono ?_
          rintro e w' ⟨rfl, rfl⟩
          go_wp2_with fail
          rw [N1.out, N2.out]
          refine (add_two (x * z) (y * z) _ h1 h2).mono ?_
          rintro e w8 ⟨rfl, hb8⟩
          rw [← Int.add_mul]
          have HB8 := Lib.hid (HB9.out.trans (hb8.mono HB9.out.size))
          clear hb8
          go_wp2_with fail
          refine (awake_any _).mono ?_
          rintro e w' ⟨rfl, rfl⟩
          go_wp2_with fail
          go_ret
          exact ⟨rfl, HB8.out⟩
        · have c3 : (ee (x + y) != 0) = true := by rw [ee_not h3]; rfl
          go_wp2_with fail
          refine (awake_any _).mono ?_
          rintro e w' ⟨rfl, rfl⟩
          go_wp2_with fail
          go_ret
          exact ⟨rfl, HB9.out⟩
      · have c2 : (ee (y * z) != 0) = true := by rw [ee_not h2]; rfl
        go_wp2_with fail
        refine (awake_any _).mono ?_
        rintro e w' ⟨rfl, rfl⟩
        go_wp2_with fail
        go_ret
        exact ⟨rfl, HB9.out⟩
    · have c1 : (ee (x * z) != 0) = true := by rw [ee_not h1]; rfl
      go_wp2_with fail
      refine (awake_any _).mono ?_
      rintro e w' ⟨rfl, rfl⟩
      go_wp2_with fail
      go_ret
      exact ⟨rfl, HB9.out⟩
end Go.Proofs.Ytnbgmnjmandolaa.numJoins
