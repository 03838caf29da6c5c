/-
  THE LAW LexerParts, walked.
-/
import Derived.Test.YtdneodlboggcnaaDoorLxLines
namespace Go.Proofs.YtdneodlboggcnaaDoor.lexerParts
open Go Go.RowKit
theorem texts_same {B B' : Nat} {a b : Value} {xs : List (List UInt8)} (w : World) (ha : SL B w a xs) (hb : SL B' w b xs) (hl : xs.length ≤ 100000) :
    Calls Tryd.prog 9 #[a, b] w fun e w' => e = .returned (.bool true) ∧ Below w.heap.size w w' := by
  have := texts_any w ha hb hl hl
  rwa [decide_eq_true rfl] at this
theorem endE_app (xs ys : List (Int × List (List UInt8) × Int)) (h : endE xs = 0) : endE (xs ++ ys) = endE ys := by
  unfold endE at *
  rw [List.map_append, List.getLastD_eq_getLast?, List.getLast?_append, List.getLastD_eq_getLast?]
  cases hy : (ys.map (·.2.2)).getLast? with
  | none =>
    rw [List.getLastD_eq_getLast?] at h
    simpa using h
  | some z => rfl
theorem endE_shift (d : Int) (xs : List (Int × List (List UInt8) × Int)) : endE (xs.map fun x => (x.1 + d, x.2)) = endE xs := by
  unfold endE
  rw [List.map_map]
  rfl
theorem its_words : ∀ (ps : List (List UInt8)) (k : Int) (z : Int × List (List UInt8) × Int), z ∈ its k ps → z.2.1.length ≤ 100000
  | [], k, z, h => by simp [its] at h
  | p :: ps, k, z, h => by
    unfold its at h
    split at h
    · rw [List.mem_singleton.1 h]; exact lexerWords.lexW_len p
    · split at h
      · exact its_words ps (k + 1) z h
      · rcases List.mem_cons.1 h with rfl | h
        · exact lexerWords.lexW_len p
        · exact its_words ps (k + 1) z h
theorem its_no : ∀ (ps : List (List UInt8)) (k : Int) (z : Int × List (List UInt8) × Int), z ∈ its k ps → k ≤ z.1 ∧ z.1 < k + ps.length
  | [], k, z, h => by simp [its] at h
  | p :: ps, k, z, h => by
    rw [List.length_cons]
    unfold its at h
    split at h
    · rw [List.mem_singleton.1 h]; simp only; omega
    · split at h
      · have := its_no ps (k + 1) z h; omega
      · rcases List.mem_cons.1 h with rfl | h
        · simp only; omega
        · have := its_no ps (k + 1) z h; omega
theorem get_left {zs xs : List LI} {T1 T2 : List (Int × List (List UInt8) × Int)} (hz : zs.map LI.st = T1 ++ T2) (hx : xs.map LI.st = T1) {i : Nat} {z x : LI} (hzi : zs[i]? = some z) (hxi : xs[i]? = some x) : z.k = x.k ∧ z.ws = x.ws := by
  have h1 : (zs.map LI.st)[i]? = some z.st := by rw [List.getElem?_map, hzi]; rfl
  have h2 : (xs.map LI.st)[i]? = some x.st := by rw [List.getElem?_map, hxi]; rfl
  rw [hz] at h1
  rw [hx] at h2
  rw [List.getElem?_append_left (List.getElem?_eq_some_iff.1 h2).1, h2] at h1
  have h3 : x.st = z.st := by simpa using h1
  exact ⟨(congrArg (·.1) h3).symm, (congrArg (·.2.1) h3).symm⟩
theorem get_right {zs ys : List LI} {T1 T2 : List (Int × List (List UInt8) × Int)} {d : Int} {n : Nat} (hz : zs.map LI.st = T1 ++ T2.map fun x => (x.1 + d, x.2)) (hn : T1.length = n) (hy : ys.map LI.st = T2) {j : Nat} {z y : LI} (hzi : zs[n + j]? = some z) (hyj : ys[j]? = some y) : z.k = y.k + d ∧ z.ws = y.ws := by
  have h1 : (zs.map LI.st)[n + j]? = some z.st := by rw [List.getElem?_map, hzi]; rfl
  have h2 : (ys.map LI.st)[j]? = some y.st := by rw [List.getElem?_map, hyj]; rfl
  rw [hy] at h2
  rw [hz, List.getElem?_append_right (by omega), hn, Nat.add_sub_cancel_left, List.getElem?_map, h2] at h1
  have h3 : (y.st.1 + d, y.st.2) = z.st := by simpa using h1
  exact ⟨(congrArg (·.1) h3).symm, (congrArg (·.2.1) h3).symm⟩
theorem row_at {w w' : World} {B : Nat} {ad : Option Addr} {us : List LI} (h : us = [] ∨ ∃ g, ad = some ⟨g, 0, none⟩ ∧ B ≤ g ∧ g < w.heap.size ∧ ∀ j x, us[j]? = some x → w.cell? ⟨g, 2 * j, none⟩ = some (.int .i64 x.k) ∧ w.cell? ⟨g, 2 * j + 1, none⟩ = some x.v) (hb : Below w.heap.size w w') {i : Nat} {x : LI} (hx : us[i]? = some x) :
    ∃ g, ad = some ⟨g, 0, none⟩ ∧ w'.cell? ⟨g, i * 2, none⟩ = some (.int .i64 x.k) ∧ w'.cell? ⟨g, i * 2 + 1, none⟩ = some x.v := by
  rcases h with h | ⟨g, h1, _, h3, h4⟩
  · rw [h] at hx; simp at hx
  · have := h4 i x hx
    rw [Nat.mul_comm] at this
    exact ⟨g, h1, (hb.cell (p := ⟨g, i * 2, none⟩) h3).trans this.1, (hb.cell (p := ⟨g, i * 2 + 1, none⟩) h3).trans this.2⟩
set_option maxRecDepth 100000 in
set_option maxHeartbeats 4000000 in
theorem walk (a b : List UInt8) (w : World) (hB : Big w) : Calls Tryd.prog 5 #[.string ⟨a.toArray⟩, .string ⟨b.toArray⟩] w (One w) := by
  have HG := Lib.hid hB
  have HBw := Lib.hid (Below.refl w.heap.size w)
  clear hB
  by_cases hl : a.length ≤ 200 ∧ b.length ≤ 200
  · have ha2 : (a.length : Int) ≤ 200 := by omega
    have hb2 : (b.length : Int) ≤ 200 := by omega
    have hab : (a ++ 10 :: b).length ≤ 401 := by simp; omega
    have ha3 : a.length ≤ 401 := by omega
    have hb3 : b.length ≤ 401 := by omega
    clear hl
    go_enter Tryd.func5, Tryd.ntmps5
    go_wp2_with fail
    rw [show ((⟨a.toArray⟩ : ByteArray) ++ ⟨#[10]⟩ ++ ⟨b.toArray⟩) = ⟨(a ++ 10 :: b).toArray⟩ by
      rw [show (⟨#[10]⟩ : ByteArray) = ⟨[10].toArray⟩ from rfl, ba_app, ba_app]
      simp]
    refine (told_any (a ++ 10 :: b) _ hab HG.out).mono ?_
    rintro e w1 ⟨zv, zs, rfl, hzs, hlz, hb1⟩
    have HZs := Lib.hid hzs
    have HLz1 := Lib.hid hlz
    have HB1 := Lib.hid hb1
    clear hzs hlz hb1
    obtain ⟨EZ, hEZ⟩ : ∃ E, endE (its 1 (prt (a ++ 10 :: b))) = E := ⟨_, rfl⟩
    have HEZ := Lib.hid hEZ
    rw [hEZ]
    clear hEZ
    go_wp2_with fail
    refine (told_any a _ ha3 (HG.out.below HB1.out)).mono ?_
    rintro e w2 ⟨xv, xs, rfl, hxs, hlx, hb2'⟩
    have HXs := Lib.hid hxs
    have HLx2 := Lib.hid hlx
    have HB2 := Lib.hid (HB1.out.trans (hb2'.mono HB1.out.size))
    have HLz2 := Lib.hid (HLz1.out.below hb2')
    clear hxs hlx hb2'
    obtain ⟨F, hF⟩ : ∃ E, endE (its 1 (prt a)) = E := ⟨_, rfl⟩
    have HF := Lib.hid hF
    rw [hF]
    clear hF
    go_wp2_with fail
    refine (told_any b _ hb3 (HG.out.below HB2.out)).mono ?_
    rintro e w3 ⟨yv, ys, rfl, hys, hly, hb3'⟩
    have HYs := Lib.hid hys
    have HLy := Lib.hid hly
    have HB3 := Lib.hid (HB2.out.trans (hb3'.mono HB2.out.size))
    have HLz := Lib.hid (HLz2.out.below hb3')
    have HLx := Lib.hid (HLx2.out.below hb3')
    clear hys hly hb3'
    obtain ⟨G, hG⟩ : ∃ E, endE (its 1 (prt b)) = E := ⟨_, rfl⟩
    have HGe := Lib.hid hG
    rw [hG]
    clear hG
    obtain ⟨⟨adz, capz, hvz, hrz⟩, _⟩ := HLz.out
    obtain ⟨⟨adx, capx, hvx, hrx⟩, _⟩ := HLx.out
    obtain ⟨⟨ady, capy, hvy, hry⟩, _⟩ := HLy.out
    obtain ⟨NZ, hNZ⟩ : ∃ N, zs.length = N := ⟨_, rfl⟩
    obtain ⟨NX, hNX⟩ : ∃ N, xs.length = N := ⟨_, rfl⟩
    obtain ⟨NY, hNY⟩ : ∃ N, ys.length = N := ⟨_, rfl⟩
    have HNZ := Lib.hid hNZ
    have HNX := Lib.hid hNX
    have HNY := Lib.hid hNY
    rw [hNZ] at hvz
    rw [hNX] at hvx
    rw [hNY] at hvy
    subst hvz hvx hvy
    have hbd : ∀ (l : List UInt8) (us : List LI), us.map LI.st = its 1 (prt l) → us.length ≤ l.length := fun l us h => by
      have h1 := its_len 1 (prt l)
      have h2 := prt_count l
      rw [← h, List.length_map] at h1
      omega
    have hz9 : (NZ : Int) ≤ 401 := by have := hbd _ _ HZs.out; omega
    have hx9 : (NX : Int) ≤ 200 := by have := hbd _ _ HXs.out; omega
    have hy9 : (NY : Int) ≤ 200 := by have := hbd _ _ HYs.out; omega
    have HRz := Lib.hid hrz
    have HRx := Lib.hid hrx
    have HRy := Lib.hid hry
    have HPt := Lib.hid (its_parts a b)
    clear hrz hrx hry hNZ hNX hNY hbd hab ha3 hb3
    go_wp2_with fail
    go_loopw [14, 15] (fun v14 v15 wr => ∃ i : Nat, v15 = .int .i64 i ∧ v14 = .int .i64 (1 + ((a.take i).filter (· == 10)).length) ∧ i ≤ a.length ∧ wr = w3) (fun _ v15 _ => ((a.length : Int) - intOf v15).toNat)
    case atStart => exact ⟨0, rfl, rfl, by omega, rfl⟩
    case round =>
      obtain ⟨i, rfl, rfl, hi', hw3⟩ := hrel
      obtain rfl : w3 = wr := hw3.symm
      clear hw3
      by_cases hi : i < a.length
      · obtain ⟨l, hl⟩ : ∃ l, a = l := ⟨_, rfl⟩
        have hfl : ((l.take i).filter (· == 10)).length ≤ i := Nat.le_trans (List.length_filter_le _ _) (by simp; omega)
        subst hl
        obtain ⟨y, ey⟩ : ∃ y, a.getD i 0 = y := ⟨_, rfl⟩
        have hy := byte_at a i hi
        rw [ey] at hy
        have hy1 : (y.toNat : Int) ≤ 255 := by have := y.toNat_lt; omega
        have hy0 : 0 ≤ (y.toNat : Int) := by omega
        have hi2 : (i : Int) < (a.length : Int) := by omega
        have HGt := Lib.hid (show a[i]? = some y by rw [← ey]; simp [List.getD, hi])
        clear ey
        by_cases h10 : y = 10
        · have HC := Lib.hid (show ((a.take (i + 1)).filter (· == 10)).length = ((a.take i).filter (· == 10)).length + 1 by
            rw [List.take_add_one, HGt.out, List.filter_append, h10]; simp)
          have q10 : ((y.toNat : Int) == 10) = true := by rw [h10]; rfl
          clear h10
          generalize ((a.take i).filter (· == 10)).length = c at *
          go_wp2_with fail
          go_roundw
          case rel => exact ⟨i + 1, rfl, by rw [HC.out]; push_cast; first | rfl | (congr 1; omega) | congr 1, by omega, trivial⟩
          case measure => simp [intOf]; omega
        · have HC := Lib.hid (show ((a.take (i + 1)).filter (· == 10)).length = ((a.take i).filter (· == 10)).length by
            rw [List.take_add_one, HGt.out, List.filter_append]; simp [h10])
          have q10 := byte_ne (y := y) (n := 10) (by omega) h10
          push_cast at q10
          clear h10
          go_wp2_with fail
          go_roundw
          case rel => exact ⟨i + 1, rfl, by rw [HC.out], by omega, trivial⟩
          case measure => simp [intOf]; omega
      · obtain rfl : i = a.length := by omega
        rw [List.take_length]
        obtain ⟨C, hC⟩ : ∃ C : Nat, (a.filter (· == 10)).length = C := ⟨_, rfl⟩
        have HC := Lib.hid hC
        rw [hC]
        have hC9 : (C : Int) ≤ 200 := by have := List.length_filter_le (· == 10) a; omega
        clear hC hi hi'
        by_cases hF : F = 0
        · subst hF
          have HT := Lib.hid (show its 1 (prt (a ++ 10 :: b)) = its 1 (prt a) ++ (its 1 (prt b)).map fun x => (x.1 + ((C + 1 : Nat) : Int), x.2) by
            rw [HPt.out, HF.out, HC.out]; simp)
          have hEG : EZ = G := by rw [← HEZ.out, HT.out, endE_app _ _ HF.out, endE_shift, HGe.out]
          have hNN : NZ = NX + NY := by
            have h1 : zs.length = (its 1 (prt (a ++ 10 :: b))).length := by rw [← HZs.out]; simp
            have h2 : xs.length = (its 1 (prt a)).length := by rw [← HXs.out]; simp
            have h3 : ys.length = (its 1 (prt b)).length := by rw [← HYs.out]; simp
            rw [HT.out, List.length_append, List.length_map] at h1
            have := HNZ.out; have := HNX.out; have := HNY.out
            omega
          subst hEG
          have hNNi : (NZ : Int) = (NX : Int) + (NY : Int) := by omega
          have hNN2 : ((NZ : Int) != (NX : Int) + (NY : Int)) = false := by rw [hNNi]; simp
          have HZT := Lib.hid (show zs.map LI.st = its 1 (prt a) ++ (its 1 (prt b)).map fun x => (x.1 + ((C + 1 : Nat) : Int), x.2) by rw [HZs.out, HT.out])
          go_wp2_with fail
          go_loopw [17] (fun v17 wr => ∃ i : Nat, v17 = .int .i64 i ∧ i ≤ NZ ∧ Below w3.heap.size w3 wr) (fun v17 _ => ((NZ : Int) - intOf v17).toNat)
          case atStart => exact ⟨0, rfl, by omega, Below.refl _ _⟩
          obtain ⟨i, rfl, hi', hBr⟩ := hrel
          have HBr := Lib.hid hBr
          clear hBr
          by_cases hi : i < NZ
          · have hi2 : (i : Int) < (NZ : Int) := by omega
            by_cases hix : i < NX
            · skip
              obtain ⟨z, hz⟩ : ∃ z, zs[i]? = some z := ⟨_, List.getElem?_eq_getElem (by rw [HNZ.out]; omega)⟩
              obtain ⟨x, hx⟩ : ∃ x, xs[i]? = some x := ⟨_, List.getElem?_eq_getElem (by rw [HNX.out]; omega)⟩
              obtain ⟨hk, hw⟩ := get_left HZT.out HXs.out hz hx
              obtain ⟨gz, rfl, kz, vz⟩ := row_at HRz.out HBr.out hz
              obtain ⟨gx, rfl, kx, vx⟩ := row_at HRx.out HBr.out hx
              have HSz := Lib.hid (show SL w.heap.size wr z.v x.ws by rw [← hw]; exact (HLz.out.2 z (List.mem_of_getElem? hz)).below HBr.out)
              have HSx := Lib.hid ((HLx.out.2 x (List.mem_of_getElem? hx)).below HBr.out)
              have HWl := Lib.hid (show x.ws.length ≤ 100000 from by
                have h1 : (its 1 (prt a))[i]? = some x.st := by rw [← HXs.out, List.getElem?_map, hx]; rfl
                exact its_words _ _ _ (List.mem_of_getElem? h1))
              rw [hk] at kz
              obtain ⟨xk, hxk⟩ : ∃ k, x.k = k := ⟨_, rfl⟩
              obtain ⟨zv, hzv⟩ : ∃ v, z.v = v := ⟨_, rfl⟩
              obtain ⟨yv, hyv⟩ : ∃ v, x.v = v := ⟨_, rfl⟩
              rw [hxk] at kz kx
              rw [hzv] at vz HSz
              rw [hyv] at vx HSx
              have hix2 : (i : Int) < (NX : Int) := by omega
              clear hk hw hz hx hxk hzv hyv hix
              have hne := bw_ne wr
              have b1 := bw_cell kz
              have b2 := bw_cell kx
              have b3 := bw_cell vz
              have b4 := bw_cell vx
              go_wp2_with fail
              refine wp_region_bw (by kernel_rfl) (by kernel_rfl) ?_
              repeat (go_big_quiet_step (first | rfl | exact calls_bw (texts_same _ (HSz.out.below (Subtype.property _)) (HSx.out.below (Subtype.property _)) HWl.out)))
              refine wpQuiet_nil ?_
              rintro W9 ⟨v9, e9⟩
              have hb9 := v9.2
              rw [← e9] at hb9
              have HB9 := Lib.hid (HBr.out.trans (hb9.mono HBr.out.size))
              clear e9 v9 hb9 b1 b2 b3 b4 hne kz kx vz vx
              go_wp2_with fail
              go_roundw
              case rel => exact ⟨i + 1, by push_cast; first | rfl | (congr 1; omega) | congr 1, by omega, HB9.out⟩
              case measure => simp [intOf]; omega
            · obtain ⟨j, rfl⟩ : ∃ j, i = NX + j := ⟨i - NX, by omega⟩
              obtain ⟨z, hz⟩ : ∃ z, zs[NX + j]? = some z := ⟨_, List.getElem?_eq_getElem (by rw [HNZ.out]; omega)⟩
              obtain ⟨x, hx⟩ : ∃ x, ys[j]? = some x := ⟨_, List.getElem?_eq_getElem (by rw [HNY.out]; omega)⟩
              obtain ⟨hk, hw⟩ := get_right HZT.out (n := NX) (by rw [← HXs.out, List.length_map, HNX.out]) HYs.out hz hx
              obtain ⟨gz, rfl, kz, vz⟩ := row_at HRz.out HBr.out hz
              obtain ⟨gx, rfl, kx, vx⟩ := row_at HRy.out HBr.out hx
              have HSz := Lib.hid (show SL w.heap.size wr z.v x.ws by rw [← hw]; exact (HLz.out.2 z (List.mem_of_getElem? hz)).below HBr.out)
              have HSx := Lib.hid ((HLy.out.2 x (List.mem_of_getElem? hx)).below HBr.out)
              have HWl := Lib.hid (show x.ws.length ≤ 100000 from by
                have h1 : (its 1 (prt b))[j]? = some x.st := by rw [← HYs.out, List.getElem?_map, hx]; rfl
                exact its_words _ _ _ (List.mem_of_getElem? h1))
              rw [hk] at kz
              obtain ⟨xk, hxk⟩ : ∃ k, x.k = k := ⟨_, rfl⟩
              obtain ⟨zv, hzv⟩ : ∃ v, z.v = v := ⟨_, rfl⟩
              obtain ⟨yv, hyv⟩ : ∃ v, x.v = v := ⟨_, rfl⟩
              rw [hxk] at kz kx
              rw [hzv] at vz HSz
              rw [hyv] at vx HSx
              have hjy : (j : Int) < (NY : Int) := by omega
              have hxi : (NX : Int) ≤ (NX : Int) + (j : Int) := by omega
              have hxb : ∃ B : Int, xk = B ∧ -1000000 ≤ xk ∧ xk ≤ 1000000 := ⟨xk, rfl, by
                have h1 : (its 1 (prt b))[j]? = some x.st := by rw [← HYs.out, List.getElem?_map, hx]; rfl
                have := its_no (prt b) 1 _ (List.mem_of_getElem? h1)
                have hp := prt_count b
                have e : x.st.1 = xk := hxk
                omega⟩
              obtain ⟨_, _, hxb1, hxb2⟩ := hxb
              have hwj : IntKind.i64.wrap ((NX : Int) + (j : Int) - (NX : Int)) = (j : Int) := by rw [show (NX : Int) + (j : Int) - (NX : Int) = j by omega]; exact IntWalk.i64_in _ ⟨by omega, by omega⟩
              have hwk : IntKind.i64.wrap (xk + (1 + (C : Int))) = xk + (1 + (C : Int)) := IntWalk.i64_in _ ⟨by omega, by omega⟩
              have hkk : xk + ((C + 1 : Nat) : Int) = xk + (1 + (C : Int)) := by push_cast; omega
              rw [hkk] at kz
              clear hk hw hz hx hxk hzv hyv hkk hix
              have hne := bw_ne wr
              have b1 := bw_cell kz
              have b2 := bw_cell kx
              have b3 := bw_cell vz
              have b4 := bw_cell vx
              go_wp2_with fail
              refine wp_region_bw (by kernel_rfl) (by kernel_rfl) ?_
              repeat (go_big_quiet_step (first | rfl | exact calls_bw (texts_same _ (HSz.out.below (Subtype.property _)) (HSx.out.below (Subtype.property _)) HWl.out)))
              refine wpQuiet_nil ?_
              rintro W9 ⟨v9, e9⟩
              have hb9 := v9.2
              rw [← e9] at hb9
              have HB9 := Lib.hid (HBr.out.trans (hb9.mono HBr.out.size))
              clear e9 v9 hb9 b1 b2 b3 b4 hne kz kx vz vx
              go_wp2_with fail
              go_roundw
              case rel => exact ⟨(NX + j) + 1, by push_cast; first | rfl | (congr 1; omega) | congr 1, by omega, HB9.out⟩
              case measure => simp [intOf]; omega
          · skip
            have hi2 : (NZ : Int) ≤ (i : Int) := by omega
            have HGb := Lib.hid (HG.out.below (HB3.out.trans (HBr.out.mono HB3.out.size)))
            go_wp2_with fail
            refine (awake_any _ HGb.out).mono ?_
            rintro e9 w4 ⟨rfl, hb4⟩
            have HB4 := Lib.hid ((HB3.out.trans (HBr.out.mono HB3.out.size)).trans (hb4.mono (HB3.out.trans (HBr.out.mono HB3.out.size)).size))
            clear hb4
            go_wp2_with fail
            go_ret
            exact ⟨rfl, HB4.out⟩
        · have hT : its 1 (prt (a ++ 10 :: b)) = its 1 (prt a) := by rw [HPt.out, HF.out, if_pos hF]
          have HZT := Lib.hid (show zs.map LI.st = its 1 (prt a) ++ [] by rw [HZs.out, hT, List.append_nil])
          have hEF : EZ = F := by rw [← HEZ.out, hT, HF.out]
          have hNN : NZ = NX := by
            have h1 : zs.length = (its 1 (prt (a ++ 10 :: b))).length := by rw [← HZs.out]; simp
            have h2 : xs.length = (its 1 (prt a)).length := by rw [← HXs.out]; simp
            rw [hT] at h1
            have := HNZ.out; have := HNX.out
            omega
          subst hEF hNN
          have hF0 : (EZ == 0) = false := beq_eq_false_iff_ne.2 hF
          have hF1 : (EZ != 0) = true := by rw [bne_iff_ne]; exact hF
          clear hF hT
          go_wp2_with fail
          go_loopw [17] (fun v17 wr => ∃ i : Nat, v17 = .int .i64 i ∧ i ≤ NZ ∧ Below w3.heap.size w3 wr) (fun v17 _ => ((NZ : Int) - intOf v17).toNat)
          case atStart => exact ⟨0, rfl, by omega, Below.refl _ _⟩
          obtain ⟨i, rfl, hi', hBr⟩ := hrel
          have HBr := Lib.hid hBr
          clear hBr
          by_cases hi : i < NZ
          · have hi2 : (i : Int) < (NZ : Int) := by omega
            have hix := hi
            obtain ⟨z, hz⟩ : ∃ z, zs[i]? = some z := ⟨_, List.getElem?_eq_getElem (by rw [HNZ.out]; omega)⟩
            obtain ⟨x, hx⟩ : ∃ x, xs[i]? = some x := ⟨_, List.getElem?_eq_getElem (by rw [HNX.out]; omega)⟩
            obtain ⟨hk, hw⟩ := get_left HZT.out HXs.out hz hx
            obtain ⟨gz, rfl, kz, vz⟩ := row_at HRz.out HBr.out hz
            obtain ⟨gx, rfl, kx, vx⟩ := row_at HRx.out HBr.out hx
            have HSz := Lib.hid (show SL w.heap.size wr z.v x.ws by rw [← hw]; exact (HLz.out.2 z (List.mem_of_getElem? hz)).below HBr.out)
            have HSx := Lib.hid ((HLx.out.2 x (List.mem_of_getElem? hx)).below HBr.out)
            have HWl := Lib.hid (show x.ws.length ≤ 100000 from by
              have h1 : (its 1 (prt a))[i]? = some x.st := by rw [← HXs.out, List.getElem?_map, hx]; rfl
              exact its_words _ _ _ (List.mem_of_getElem? h1))
            rw [hk] at kz
            obtain ⟨xk, hxk⟩ : ∃ k, x.k = k := ⟨_, rfl⟩
            obtain ⟨zv, hzv⟩ : ∃ v, z.v = v := ⟨_, rfl⟩
            obtain ⟨yv, hyv⟩ : ∃ v, x.v = v := ⟨_, rfl⟩
            rw [hxk] at kz kx
            rw [hzv] at vz HSz
            rw [hyv] at vx HSx
            have hix2 : (i : Int) < (NZ : Int) := by omega
            clear hk hw hz hx hxk hzv hyv hix
            have hne := bw_ne wr
            have b1 := bw_cell kz
            have b2 := bw_cell kx
            have b3 := bw_cell vz
            have b4 := bw_cell vx
            go_wp2_with fail
            refine wp_region_bw (by kernel_rfl) (by kernel_rfl) ?_
            repeat (go_big_quiet_step (first | rfl | exact calls_bw (texts_same _ (HSz.out.below (Subtype.property _)) (HSx.out.below (Subtype.property _)) HWl.out)))
            refine wpQuiet_nil ?_
            rintro W9 ⟨v9, e9⟩
            have hb9 := v9.2
            rw [← e9] at hb9
            have HB9 := Lib.hid (HBr.out.trans (hb9.mono HBr.out.size))
            clear e9 v9 hb9 b1 b2 b3 b4 hne kz kx vz vx
            go_wp2_with fail
            go_roundw
            case rel => exact ⟨i + 1, by push_cast; first | rfl | (congr 1; omega) | congr 1, by omega, HB9.out⟩
            case measure => simp [intOf]; omega
          · skip
            have hi2 : (NZ : Int) ≤ (i : Int) := by omega
            have HGb := Lib.hid (HG.out.below (HB3.out.trans (HBr.out.mono HB3.out.size)))
            go_wp2_with fail
            refine (awake_any _ HGb.out).mono ?_
            rintro e9 w4 ⟨rfl, hb4⟩
            have HB4 := Lib.hid ((HB3.out.trans (HBr.out.mono HB3.out.size)).trans (hb4.mono (HB3.out.trans (HBr.out.mono HB3.out.size)).size))
            clear hb4
            go_wp2_with fail
            go_ret
            exact ⟨rfl, HB4.out⟩
  · have HBr := Lib.hid (Below.refl w.heap.size w)
    by_cases h1 : a.length ≤ 200
    · have ha2 : (a.length : Int) ≤ 200 := by omega
      have hb2 : 200 < (b.length : Int) := by omega
      clear hl h1
      go_enter Tryd.func5, Tryd.ntmps5
      go_wp2_with fail
      refine (awake_any _ HG.out).mono ?_
      rintro e w4 ⟨rfl, hb4⟩
      go_wp2_with fail
      go_ret
      exact ⟨rfl, hb4⟩
    · have ha2 : 200 < (a.length : Int) := by omega
      clear hl h1
      go_enter Tryd.func5, Tryd.ntmps5
      go_wp2_with fail
      refine (awake_any _ HG.out).mono ?_
      rintro e w4 ⟨rfl, hb4⟩
      go_wp2_with fail
      go_ret
      exact ⟨rfl, hb4⟩
end Go.Proofs.YtdneodlboggcnaaDoor.lexerParts
