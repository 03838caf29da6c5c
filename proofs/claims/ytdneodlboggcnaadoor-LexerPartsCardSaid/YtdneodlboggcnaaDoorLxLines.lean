/-
  THE LAW LexerLines, walked.
-/
import Derived.Test.YtdneodlboggcnaaDoorTold
import Derived.Test.YtdneodlboggcnaaDoorRParts
import Derived.Test.YtdneodlboggcnaaDoorLxWords
namespace Go.Proofs.YtdneodlboggcnaaDoor
open Go Go.RowKit
theorem its_step {ps : List (List UInt8)} {i : Nat} {p : List UInt8} (hi : ps[i]? = some p) (h0 : endE (its 1 (ps.take i)) = 0) : its 1 (ps.take (i + 1)) = its 1 (ps.take i) ++ its (1 + i) [p] := by
  have hlt := (List.getElem?_eq_some_iff.1 hi).1
  rw [List.take_add_one, hi, Option.toList, its_app, h0]
  rw [if_neg (by simp), List.length_take, Nat.min_eq_left (by omega)]
theorem its_at {ps : List (List UInt8)} {i : Nat} {p : List UInt8} (hi : ps[i]? = some p) (h0 : endE (its 1 (ps.take i)) = 0) {z : Int × List (List UInt8) × Int} (hz : its (1 + i) [p] = [z]) : (its 1 ps)[(its 1 (ps.take i)).length]? = some z := by
  have h1 := its_step hi h0
  rw [hz] at h1
  have h2 : its 1 ps = if endE (its 1 (ps.take (i + 1))) ≠ 0 then its 1 (ps.take (i + 1)) else its 1 (ps.take (i + 1)) ++ its (1 + (ps.take (i + 1)).length) (ps.drop (i + 1)) := by
    conv => lhs; rw [← List.take_append_drop (i + 1) ps]
    rw [its_app]
  rw [h2, h1]
  split <;> simp
theorem its_stop {ps : List (List UInt8)} {i : Nat} (h0 : endE (its 1 (ps.take i)) ≠ 0) : its 1 ps = its 1 (ps.take i) := by
  conv => lhs; rw [← List.take_append_drop i ps]
  rw [its_app, if_pos h0]
theorem endE_snoc (xs : List (Int × List (List UInt8) × Int)) (z : Int × List (List UInt8) × Int) : endE (xs ++ [z]) = z.2.2 := by simp [endE]
theorem st_get {xs : List LI} {T : List (Int × List (List UInt8) × Int)} (h : xs.map LI.st = T) {n : Nat} {z : Int × List (List UInt8) × Int} (hz : T[n]? = some z) : ∃ x, xs[n]? = some x ∧ x.k = z.1 ∧ x.ws = z.2.1 ∧ x.e = z.2.2 := by
  rw [← h, List.getElem?_map] at hz
  obtain ⟨x, hx, rfl⟩ := Option.map_eq_some_iff.1 hz
  exact ⟨x, hx, rfl, rfl, rfl⟩
namespace lexerLines
set_option maxRecDepth 100000 in
set_option maxHeartbeats 4000000 in
theorem walk (l : List UInt8) (w : World) (hB : Big w) : Calls Tryd.prog 4 #[.string ⟨l.toArray⟩] w (One w) := by
  have HG := Lib.hid hB
  have HBw := Lib.hid (Below.refl w.heap.size w)
  clear hB
  by_cases hl : l.length ≤ 400
  · have hl2 : (l.length : Int) ≤ 400 := by omega
    have hl3 : l.length ≤ 401 := by omega
    have hl4 : l.length ≤ 1000 := by omega
    clear hl
    go_enter Tryd.func4, Tryd.ntmps4
    go_wp2_with fail
    refine (told_any l _ hl3 HG.out).mono ?_
    rintro e w1 ⟨v, xs, rfl, hxs, hls, hb1⟩
    have HXs := Lib.hid hxs
    have HLs := Lib.hid hls
    have HB1 := Lib.hid hb1
    clear hxs hls hb1
    go_wp2_with fail
    refine (rparts_any l _ hl4).mono ?_
    rintro e w2 ⟨pv, rfl, hsp, hb2⟩
    have HB2 := Lib.hid (HB1.out.trans (hb2.mono HB1.out.size))
    have HL2 := Lib.hid (HLs.out.below hb2)
    have HSp := Lib.hid hsp
    obtain ⟨ad, cap, rfl, _⟩ := hsp
    clear hb2
    obtain ⟨⟨ad0, cap0, hv, hrow⟩, _⟩ := HL2.out
    obtain ⟨ps, hps⟩ : ∃ ps, prt l = ps := ⟨_, rfl⟩
    have HPs := Lib.hid hps
    have hpn : ps.length ≤ 400 := by rw [← hps]; have := prt_count l; omega
    have hpw : ∀ p ∈ ps, p.length ≤ 1000 := fun p hp => by rw [← hps] at hp; have := prt_mem_len hp; omega
    rw [hps] at HXs HSp ⊢
    obtain ⟨N, hN⟩ : ∃ N, xs.length = N := ⟨_, rfl⟩
    have hNN := hN
    obtain ⟨M, hM⟩ : ∃ M, ps.length = M := ⟨_, rfl⟩
    obtain ⟨E, hE⟩ : ∃ E, endE (its 1 ps) = E := ⟨_, rfl⟩
    have HE := Lib.hid hE
    have HN := Lib.hid hN
    have HM := Lib.hid hM
    have HPw := Lib.hid hpw
    rw [hN] at hv
    rw [hM] at HSp ⊢
    rw [hE]
    subst hv
    have hMi : (M : Int) ≤ 400 := by omega
    have hNi : (N : Int) ≤ 400 := by
      have := its_len 1 ps
      have h2 : xs.length = (its 1 ps).length := by rw [← HXs.out]; simp
      omega
    have HRow := Lib.hid hrow
    clear hrow hps hpw hE hN hNN hM hpn
    go_wp2_with fail
    go_loopw [7, 8, 9] (fun v7 v8 v9 wr => ∃ (n i : Nat) (e : Int), v7 = .int .i64 n ∧ v8 = .int .i64 e ∧ v9 = .int .i64 i ∧ i ≤ M ∧ n = (its 1 (ps.take i)).length ∧ e = endE (its 1 (ps.take i)) ∧ Below w2.heap.size w2 wr) (fun _ _ v9 _ => ((M : Int) - intOf v9).toNat)
    case atStart => exact ⟨0, 0, 0, rfl, rfl, rfl, by omega, rfl, rfl, Below.refl _ _⟩
    case round =>
      obtain ⟨n, i, e, rfl, rfl, rfl, hi', hn, he, hBr⟩ := hrel
      have HNn := Lib.hid hn
      have HEe := Lib.hid he
      have HBr := Lib.hid hBr
      have hnN : n ≤ N := by
        have h1 := its_len 1 (ps.take i)
        have h2 : N = (its 1 ps).length := by rw [← HN.out, ← HXs.out]; simp
        have h3 : (its 1 (ps.take i)).length ≤ (its 1 ps).length := by
          have : its 1 ps = if endE (its 1 (ps.take i)) ≠ 0 then its 1 (ps.take i) else its 1 (ps.take i) ++ its (1 + (ps.take i).length) (ps.drop i) := by
            conv => lhs; rw [← List.take_append_drop i ps]
            rw [its_app]
          rw [this]
          split <;> simp
        omega
      have hnNi : (n : Int) ≤ (N : Int) := by omega
      clear hn he hBr
      by_cases hd : i = M ∨ e ≠ 0
      · have hT : its 1 (ps.take i) = its 1 ps := by
          rcases hd with hd | hd
          · rw [hd, ← HM.out, List.take_length]
          · exact (its_stop (by rw [← HEe.out]; exact hd)).symm
        have hnn : n = N := by rw [HNn.out, hT, ← HN.out, ← HXs.out]; simp
        have hee : e = E := by rw [HEe.out, hT, HE.out]
        subst hnn hee
        have HGb := Lib.hid (HG.out.below (HB2.out.trans (HBr.out.mono HB2.out.size)))
        have q1 : decide ((i : Int) < (M : Int)) = decide ((i : Int) < (M : Int)) := rfl
        by_cases him : i < M
        · have him2 : (i : Int) < (M : Int) := by omega
          have e0 : (e == 0) = false := beq_eq_false_iff_ne.2 (by rcases hd with hd | hd; omega; exact hd)
          clear hd hT q1
          go_wp2_with fail
          refine (awake_any _ HGb.out).mono ?_
          rintro e9 w4 ⟨rfl, hb4⟩
          have HB4 := Lib.hid ((HB2.out.trans (HBr.out.mono HB2.out.size)).trans (hb4.mono (HB2.out.trans (HBr.out.mono HB2.out.size)).size))
          clear hb4
          go_wp2_with fail
          go_ret
          exact ⟨rfl, HB4.out⟩
        · have him2 : (M : Int) ≤ (i : Int) := by omega
          clear hd hT q1
          go_wp2_with fail
          refine (awake_any _ HGb.out).mono ?_
          rintro e9 w4 ⟨rfl, hb4⟩
          have HB4 := Lib.hid ((HB2.out.trans (HBr.out.mono HB2.out.size)).trans (hb4.mono (HB2.out.trans (HBr.out.mono HB2.out.size)).size))
          clear hb4
          go_wp2_with fail
          go_ret
          exact ⟨rfl, HB4.out⟩
      · have hiM : i < M := by omega
        have he0 : e = 0 := Classical.byContradiction fun h => hd (.inr h)
        subst he0
        have hi2 : (i : Int) < (M : Int) := by omega
        have h0 := HEe.out.symm
        obtain ⟨p, hp⟩ : ∃ p, ps[i]? = some p := ⟨_, List.getElem?_eq_getElem (by rw [HM.out]; exact hiM)⟩
        have hpl := HPw.out p (List.mem_of_getElem? hp)
        obtain ⟨ad9, cap9, h9, hSpp⟩ := HSp.out.below HBr.out
        obtain ⟨g, hg⟩ : ∃ g, ad = some ⟨g, 0, none⟩ ∧ wr.cell? ⟨g, i, none⟩ = some (.string ⟨p.toArray⟩) := by
          rcases hSpp with hSpp | ⟨g, hg, _, _, ht⟩
          · rw [hSpp] at hp; simp at hp
          · simp only [Value.slice.injEq] at h9
            refine ⟨g, by rw [h9.1, hg], ?_⟩
            have := ht i (by rw [HM.out]; exact hiM)
            rw [show ps.getD i [] = p by simp [List.getD, hp]] at this
            exact this
        obtain ⟨rfl, cp⟩ := hg
        have HP := Lib.hid hp
        have H0 := Lib.hid h0
        clear hd h0 hp h9 hSpp
        go_wp2_with fail
        refine (rwords_any p _ hpl).mono ?_
        rintro e9 w3 ⟨rv, rfl, hrs, hb3⟩
        have HRs := Lib.hid hrs
        have HB3 := Lib.hid (HBr.out.trans (hb3.mono HBr.out.size))
        obtain ⟨adr, capr, rfl, _⟩ := hrs
        obtain ⟨E', hE'⟩ : ∃ E', (lexW p).1 = E' := ⟨_, rfl⟩
        obtain ⟨ws, hws⟩ : ∃ ws, (lexW p).2 = ws := ⟨_, rfl⟩
        obtain ⟨K, hK⟩ : ∃ K, ws.length = K := ⟨_, rfl⟩
        have HE' := Lib.hid hE'
        have HWs := Lib.hid hws
        have HKk := Lib.hid hK
        rw [hE', hws, hK]
        rw [hws, hK] at HRs
        clear hE' hws hK hb3 cp
        by_cases hsk : E' = 0 ∧ ws = []
        · obtain ⟨rfl, hw0⟩ := hsk
          have HSt := Lib.hid (show its 1 (ps.take (i + 1)) = its 1 (ps.take i) by rw [its_step HP.out H0.out, its_one_skip HE'.out (by rw [HWs.out, hw0]), List.append_nil])
          obtain rfl : K = 0 := by rw [← HKk.out, hw0]; rfl
          clear hw0
          go_wp2_with fail
          go_roundw
          case rel => exact ⟨n, i + 1, 0, rfl, rfl, rfl, by omega, by rw [HSt.out]; exact HNn.out, by rw [HSt.out]; exact HEe.out, HB3.out⟩
          case measure => simp [intOf]; omega
        · have hone : its (1 + i) [p] = [(1 + (i : Int), ws, E')] := by
            by_cases h1 : E' = 0
            · rw [its_one_ok (by rw [HE'.out, h1]) (by rw [HWs.out]; exact fun h => hsk ⟨h1, h⟩), HWs.out, h1]
            · rw [its_one_err (by rw [HE'.out]; exact h1), HWs.out, HE'.out]
          have hat := its_at HP.out H0.out hone
          rw [← HNn.out] at hat
          obtain ⟨x, hx, hxk, hxw, hxe⟩ := st_get HXs.out hat
          simp only at hxk hxw hxe
          have HSt := Lib.hid (show its 1 (ps.take (i + 1)) = its 1 (ps.take i) ++ [(1 + (i : Int), ws, E')] by rw [its_step HP.out H0.out, hone])
          have hnN2 : n < N := by rw [← HN.out]; exact (List.getElem?_eq_some_iff.1 hx).1
          have hnN3 : (n : Int) < (N : Int) := by omega
          obtain ⟨g0, hg0, hc0, hc1, hgl⟩ : ∃ g0, ad0 = some ⟨g0, 0, none⟩ ∧ w2.cell? ⟨g0, 2 * n, none⟩ = some (.int .i64 (1 + (i : Int))) ∧ w2.cell? ⟨g0, 2 * n + 1, none⟩ = some x.v ∧ g0 < w2.heap.size := by
            rcases HRow.out with h | ⟨g0, h1, _, h3, h4⟩
            · rw [h] at hx; simp at hx
            · have := h4 n x hx
              exact ⟨g0, h1, by rw [this.1, hxk], this.2, h3⟩
          subst hg0
          rw [Nat.mul_comm] at hc0 hc1
          have d0 := (HB3.out.cell (p := ⟨g0, n * 2, none⟩) hgl).trans hc0
          have d1 := (HB3.out.cell (p := ⟨g0, n * 2 + 1, none⟩) hgl).trans hc1
          have HSx := Lib.hid (show SL w.heap.size w3 x.v ws by rw [← hxw]; exact (HL2.out.2 x (List.mem_of_getElem? hx)).below HB3.out)
          have HWl := Lib.hid (show ws.length ≤ 100000 by rw [← HWs.out]; exact lexerWords.lexW_len p)
          obtain ⟨xv, hxv⟩ : ∃ xv, x.v = xv := ⟨_, rfl⟩
          rw [hxv] at d1 HSx
          have hkz : ¬ (E' = 0 ∧ K = 0) := fun h => hsk ⟨h.1, List.length_eq_zero_iff.1 (by rw [HKk.out]; exact h.2)⟩
          have HKz := Lib.hid hkz
          clear hone hat hx hxk hxw hxe hsk hc0 hc1 hxv hkz
          by_cases h1 : E' = 0
          · subst h1
            have hK0 : ((K : Int) == 0) = false := beq_eq_false_iff_ne.2 fun h => HKz.out ⟨rfl, by omega⟩
            go_wp2_with fail
            refine (texts_any _ HSx.out HRs.out HWl.out HWl.out).mono ?_
            rintro e8 w5 ⟨rfl, hb5⟩
            have HB5 := Lib.hid (HB3.out.trans (hb5.mono HB3.out.size))
            clear hb5
            rw [decide_eq_true rfl]
            go_wp2_with fail
            go_roundw
            case rel => exact ⟨n + 1, i + 1, _, rfl, rfl, rfl, by omega, by rw [HSt.out, List.length_append, ← HNn.out]; rfl, by rw [HSt.out, endE_snoc], HB5.out⟩
            case measure => simp [intOf]; omega
          · have q0 : (E' == 0) = false := beq_eq_false_iff_ne.2 h1
            clear h1
            go_wp2_with fail
            refine (texts_any _ HSx.out HRs.out HWl.out HWl.out).mono ?_
            rintro e8 w5 ⟨rfl, hb5⟩
            have HB5 := Lib.hid (HB3.out.trans (hb5.mono HB3.out.size))
            clear hb5
            rw [decide_eq_true rfl]
            go_wp2_with fail
            go_roundw
            case rel => exact ⟨n + 1, i + 1, _, rfl, rfl, rfl, by omega, by rw [HSt.out, List.length_append, ← HNn.out]; rfl, by rw [HSt.out, endE_snoc], HB5.out⟩
            case measure => simp [intOf]; omega
  · have hl2 : 400 < (⟨l.toArray⟩ : ByteArray).size := by show 400 < l.toArray.size; simp; omega
    have hl3 : 400 < (l.length : Int) := by omega
    clear hl
    go_enter Tryd.func4, Tryd.ntmps4
    go_wp2_with fail
    refine (awake_any _ HG.out).mono ?_
    rintro e w4 ⟨rfl, hb4⟩
    go_wp2_with fail
    go_ret
    exact ⟨rfl, hb4⟩
end lexerLines
end Go.Proofs.YtdneodlboggcnaaDoor
