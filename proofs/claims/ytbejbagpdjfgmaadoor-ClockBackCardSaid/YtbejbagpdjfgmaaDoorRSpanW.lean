/-
  THE WALK of the document's Span.
-/
import Derived.Test.YtbejbagpdjfgmaaDoorRParts
import Derived.WalkMore
import Derived.Deep.Cut
namespace Go.Proofs.YtbejbagpdjfgmaaDoor
open Go Go.RowKit
theorem nbl_mem {ps : List (List UInt8)} {k : Nat} (hk : k < ps.length) : (((k : Nat) : Int), nbV k (ps.getD k [])) ∈ nbl 0 ps := by
  have := nbl_get 0 ps k (ps.getD k []) (by simp [List.getD, hk])
  rw [Nat.zero_add] at this
  exact List.mem_of_getElem? this
theorem nbl_take {ps : List (List UInt8)} {k : Nat} (hk : k < ps.length) : (nbl 0 ps).take (k + 1) = (nbl 0 ps).take k ++ [(((k : Nat) : Int), nbV k (ps.getD k []))] := by
  have := nbl_get 0 ps k (ps.getD k []) (by simp [List.getD, hk])
  rw [Nat.zero_add] at this
  rw [List.take_add_one, this]
  rfl
/-- what the text is, ahead of its pieces -/
structure Cut (l p : List UInt8) (ng : Bool) : Prop where
  a : l ≠ [45]
  b : Lib.trimPrefix l [45] = p
  c : Lib.hasPrefix l [45] = ng
theorem Cut.bad {l p : List UInt8} {ng : Bool} (h : Cut l p ng) {x : Int × Int} (hx : x ∈ nbs p) (hn : ¬ okX x) : spI l = (0, 12) := by
  unfold spI
  rw [if_neg h.a, h.b, if_neg (fun q => hn (q x hx))]
theorem Cut.big {l p : List UInt8} {ng : Bool} (h : Cut l p ng) (hx : ∀ x ∈ nbs p, okX x) {S : Int} (hS : S = sumP (nbs p)) (hb : 604800 ≤ S) : spI l = (0, 10) := by
  unfold spI
  rw [if_neg h.a, h.b, if_pos hx, ← hS, if_pos hb]
theorem Cut.neg {l p : List UInt8} (h : Cut l p true) (hx : ∀ x ∈ nbs p, okX x) {S : Int} (hS : S = sumP (nbs p)) (hb : ¬ 604800 ≤ S) : spI l = (-S, 0) := by
  unfold spI
  rw [if_neg h.a, h.b, if_pos hx, ← hS, if_neg hb, if_pos h.c]
theorem Cut.pos {l p : List UInt8} (h : Cut l p false) (hx : ∀ x ∈ nbs p, okX x) {S : Int} (hS : S = sumP (nbs p)) (hb : ¬ 604800 ≤ S) : spI l = (S, 0) := by
  unfold spI
  rw [if_neg h.a, h.b, if_pos hx, ← hS, if_neg hb, if_neg (by rw [h.c]; decide)]
set_option maxRecDepth 100000 in
set_option maxHeartbeats 8000000 in
theorem rspan_pos (p : List UInt8) (w : World) (hl : p.length ≤ 1000) (h0 : 0 < p.length) (hb : p.getD 0 0 ≠ 45) :
    Calls Tryd.prog 22 #[.string ⟨p.toArray⟩] w fun e w' => e = .returned (.tuple #[.int .i64 (spI p).1, .int .i64 (spI p).2]) ∧ Below w.heap.size w w' := by
  have HPl := Lib.hid hl
  have hy := byte_at p 0 h0
  have hl1 : 0 < (p.length : Int) := by omega
  have hne : (p == [45]) = false := beq_eq_false_iff_ne.2 (by rintro rfl; exact hb rfl)
  obtain ⟨b, hbb⟩ : ∃ b, p.getD 0 0 = b := ⟨_, rfl⟩
  rw [hbb] at hy hb
  have hb2 : ((b.toNat : Int) == 45) = false := beq_eq_false_iff_ne.2 (fun e => hb (by
          have : b.toNat = 45 := by omega
          exact UInt8.toNat_inj.1 this))
  have hp0 : Lib.hasPrefix p [45] = false := by
    cases p with
    | nil => cases h0
    | cons x t =>
      obtain rfl : x = b := hbb
      show ((45 : UInt8) == x && ([] : List UInt8).isPrefixOf t) = false
      rw [beq_eq_false_iff_ne.2 (fun e => hb e.symm)]
      rfl
  have HCut := Lib.hid (show Cut p p false from ⟨beq_eq_false_iff_ne.1 hne, by unfold Lib.trimPrefix; rw [if_neg (by rw [hp0]; decide)], hp0⟩)
  obtain ⟨ps, hps⟩ : ∃ ps, pcs p = ps := ⟨_, rfl⟩
  have HPs := Lib.hid hps
  have HPn := Lib.hid (show 0 < ps.length by rw [← hps]; exact List.length_pos_iff.2 (pcs_ne p))
  have HPm := Lib.hid (show ps.length ≤ 1001 by rw [← hps]; have := pcs_count p; have := HPl.out; omega)
  have HAl := Lib.hid (show ∀ k, k < ps.length → (ps.getD k []).length ≤ 1000 by
    intro k hk
    have hm : ps.getD k [] ∈ pcs p := by
      rw [hps]
      simp [List.getD, hk]
    have := pcs_len hm
    have := HPl.out
    omega)
  clear hps
  clear hl hb hbb hp0
  go_enter Tryd.func22, Tryd.ntmps22
  go_wp2_with fail
  refine (rparts_any p _ HPl.out).mono ?_
  rintro e w1 ⟨g, cap, rfl, hg, hg2, hT, hb⟩
  have HTl := Lib.hid hT
  have HBw1 := Lib.hid hb
  have c0 := HTl.out 0 (by rw [HPs.out]; exact HPn.out)
  rw [HPs.out] at c0
  rw [HPs.out]
  have HQl := Lib.hid (show (ps.getD 0 []).length ≤ 1000 from HAl.out _ HPn.out)
  obtain ⟨q, hq⟩ : ∃ q, ps.getD 0 [] = q := ⟨_, rfl⟩
  rw [hq] at c0 HQl
  have HQ := Lib.hid hq
  have pn : 1 ≤ (ps.length : Int) := by have := HPn.out; omega
  have pn2 : (ps.length : Int) ≤ 2000 := by have := HPm.out; omega
  have ql : (q.length : Int) ≤ 1000 := by have := HQl.out; omega
  clear hT hb hq
  by_cases h3 : 3 < ps.length
  · have EV := Lib.hid (HCut.out.bad (x := ((3 : Nat), nbV 3 (ps.getD 3 []))) (by unfold nbs; rw [HPs.out]; exact nbl_mem h3) (fun x => by have h := x.2; simp only at h; omega))
    have h4 : 3 < (ps.length : Int) := by omega
    clear h3
    go_wp2_with fail
    go_ret2
    exact ⟨by first | (rw [EV.out]; done) | (rw [EV.out]; rfl), HBw1.out⟩
  · have h4 : (ps.length : Int) ≤ 3 := by omega
    clear h3
    by_cases hdg : q.length ≤ 3 ∧ DG q
    · have HB1 := Lib.hid (nb0_ok hdg.1 hdg.2)
      have q3 : (q.length : Int) ≤ 3 := by have := hdg.1; omega
      obtain ⟨R, hR⟩ : ∃ R, rdg q = R := ⟨_, rfl⟩
      rw [hR] at HB1
      have HR := Lib.hid hR
      have r0 : 0 ≤ R := HB1.out.2.1
      have r1 : R ≤ 999 := HB1.out.2.2
      have HS1 := Lib.hid (show 3600 * R = sumP ((nbl 0 ps).take 1) by
        rw [nbl_take (k := 0) HPn.out, HQ.out, HB1.out.1]
        show 3600 * R = 0 + R * 3600
        omega)
      have HO1 := Lib.hid (show ∀ x ∈ (nbl 0 ps).take 1, okX x by
        rw [nbl_take (k := 0) HPn.out, HQ.out, HB1.out.1]
        intro x hx
        obtain rfl : x = (((0 : Nat) : Int), R) := by simpa using hx
        exact ⟨HB1.out.2.1, by show ((0 : Nat) : Int) < 3; omega⟩)
      clear hdg hR
      go_wp2_with fail
      refine (rdig_any q _ HQl.out).mono ?_
      rintro e9 w9 ⟨rfl, rfl⟩
      rw [HR.out]
      go_wp2_with fail
      refine (rdig_any q _ HQl.out).mono ?_
      rintro e9 w9 ⟨rfl, rfl⟩
      rw [HR.out]
      go_wp2_with fail
      clear c0
      go_loopw [6, 7] (fun nv iv wr => ∃ (k : Nat) (S : Int), nv = .int .i64 S ∧ iv = .int .i64 k ∧ 1 ≤ k ∧ k ≤ ps.length ∧ (∀ x ∈ (nbl 0 ps).take k, okX x) ∧ S = sumP ((nbl 0 ps).take k) ∧ 0 ≤ S ∧ S ≤ 3600000 * (k : Int) ∧ wr = w1) (fun _ iv _ => ((ps.length : Int) - intOf iv).toNat)
      case atStart => exact ⟨1, 3600 * R, by first | trivial | rfl, by first | trivial | rfl, by omega, by omega, HO1.out, HS1.out, by omega, by omega, by first | trivial | rfl⟩
      case round =>
        obtain ⟨k, S, rfl, rfl, k1, k2, hok, hsm, s0, s1, rfl⟩ := hrel
        have HOk := Lib.hid hok
        have HSm := Lib.hid hsm
        clear hok hsm
        by_cases hk : k < ps.length
        · have hk12 : k = 1 ∨ k = 2 := by omega
          have hk2 : (k : Int) < (ps.length : Int) := by omega
          rcases hk12 with rfl | rfl
          ·
            have cy := HTl.out 1 (by rw [HPs.out]; omega)
            rw [HPs.out] at cy
            have HQl := Lib.hid (show (ps.getD 1 []).length ≤ 1000 from HAl.out _ (by omega))
            obtain ⟨y, hy⟩ : ∃ y, ps.getD 1 [] = y := ⟨_, rfl⟩
            rw [hy] at cy HQl
            have HY := Lib.hid hy
            have yl1 : (y.length : Int) ≤ 1000 := by have := HQl.out; omega
            clear hy
            by_cases hgd : y.length = 2 ∧ DG y ∧ rdg y ≤ 59
            · have HGd := Lib.hid hgd
              clear hgd
              have HS2 := Lib.hid (show S + rdg y * 60 = sumP ((nbl 0 ps).take (1 + 1)) by
                rw [nbl_take (by omega), sumP_snoc, ← HSm.out, HY.out, (nbk_ok (k := 1) (by omega) HGd.out.1 HGd.out.2.1 HGd.out.2.2).1]
                rfl)
              have HO2 := Lib.hid (show ∀ x ∈ (nbl 0 ps).take (1 + 1), okX x by
                rw [nbl_take (by omega), HY.out]
                intro x hx
                rcases List.mem_append.1 hx with hx | hx
                · exact HOk.out x hx
                · obtain rfl := List.mem_singleton.1 hx
                  exact ⟨by rw [(nbk_ok (k := 1) (by omega) HGd.out.1 HGd.out.2.1 HGd.out.2.2).1]; exact (nbk_ok (k := 1) (by omega) HGd.out.1 HGd.out.2.1 HGd.out.2.2).2, by simp⟩)
              obtain ⟨R, hR⟩ : ∃ R, rdg y = R := ⟨_, rfl⟩
              rw [hR] at HS2
              have HR := Lib.hid hR
              have r0 : 0 ≤ R := by rw [← hR]; exact (nbk_ok (k := 1) (by omega) HGd.out.1 HGd.out.2.1 HGd.out.2.2).2
              have r1 : R ≤ 59 := by rw [← hR]; exact HGd.out.2.2
              have yl : (y.length : Int) = 2 := by have := HGd.out.1; omega
              clear hR
              go_wp2_with fail
              refine (rdig_any y _ HQl.out).mono ?_
              rintro e9 w9 ⟨rfl, rfl⟩
              rw [HR.out]
              go_wp2_with fail
              go_roundw
              case rel => exact ⟨1 + 1, S + R * 60, by first | trivial | rfl | (congr 1; omega) | (simp; omega), by first | trivial | rfl, by omega, by omega, HO2.out, HS2.out, by omega, by omega, by first | trivial | rfl⟩
              case measure => first | (simp [intOf]; done) | (simp [intOf]; omega)
            · have HGd := Lib.hid hgd
              clear hgd
              have EV := Lib.hid (HCut.out.bad (x := (((1 : Nat) : Int), nbV 1 y)) (by unfold nbs; rw [HPs.out, ← HY.out]; exact nbl_mem (k := 1) (by omega)) (fun q => by have q2 := q.1; rw [nbk_no (k := 1) (by omega) HGd.out] at q2; revert q2; decide))
              obtain ⟨R, hR⟩ : ∃ R, rdg y = R := ⟨_, rfl⟩
              have HR := Lib.hid hR
              by_cases yl : (y.length : Int) = 2
              · by_cases r0 : R < 0
                · clear hR
                  go_wp2_with fail
                  refine (rdig_any y _ HQl.out).mono ?_
                  rintro e9 w9 ⟨rfl, rfl⟩
                  rw [HR.out]
                  go_wp2_with fail
                  go_ret2
                  exact ⟨by first | (rw [EV.out]; done) | (rw [EV.out]; rfl), HBw1.out⟩
                · have r1 : 59 < R := by
                    refine Classical.byContradiction fun hn => HGd.out ⟨by omega, Classical.byContradiction fun hd => ?_, by omega⟩
                    have := rdg_no hd
                    omega
                  clear hR
                  go_wp2_with fail
                  refine (rdig_any y _ HQl.out).mono ?_
                  rintro e9 w9 ⟨rfl, rfl⟩
                  rw [HR.out]
                  go_wp2_with fail
                  go_ret2
                  exact ⟨by first | (rw [EV.out]; done) | (rw [EV.out]; rfl), HBw1.out⟩
              · have yl2 : ((y.length : Int) != 2) = true := by rw [bne, beq_eq_false_iff_ne.2 yl]; rfl
                clear hR
                go_wp2_with fail
                refine (rdig_any y _ HQl.out).mono ?_
                rintro e9 w9 ⟨rfl, rfl⟩
                rw [HR.out]
                go_wp2_with fail
                go_ret2
                exact ⟨by first | (rw [EV.out]; done) | (rw [EV.out]; rfl), HBw1.out⟩
          ·
            have cy := HTl.out 2 (by rw [HPs.out]; omega)
            rw [HPs.out] at cy
            have HQl := Lib.hid (show (ps.getD 2 []).length ≤ 1000 from HAl.out _ (by omega))
            obtain ⟨y, hy⟩ : ∃ y, ps.getD 2 [] = y := ⟨_, rfl⟩
            rw [hy] at cy HQl
            have HY := Lib.hid hy
            have yl1 : (y.length : Int) ≤ 1000 := by have := HQl.out; omega
            clear hy
            by_cases hgd : y.length = 2 ∧ DG y ∧ rdg y ≤ 59
            · have HGd := Lib.hid hgd
              clear hgd
              have HS2 := Lib.hid (show S + rdg y * 1 = sumP ((nbl 0 ps).take (2 + 1)) by
                rw [nbl_take (by omega), sumP_snoc, ← HSm.out, HY.out, (nbk_ok (k := 2) (by omega) HGd.out.1 HGd.out.2.1 HGd.out.2.2).1]
                rfl)
              have HO2 := Lib.hid (show ∀ x ∈ (nbl 0 ps).take (2 + 1), okX x by
                rw [nbl_take (by omega), HY.out]
                intro x hx
                rcases List.mem_append.1 hx with hx | hx
                · exact HOk.out x hx
                · obtain rfl := List.mem_singleton.1 hx
                  exact ⟨by rw [(nbk_ok (k := 2) (by omega) HGd.out.1 HGd.out.2.1 HGd.out.2.2).1]; exact (nbk_ok (k := 2) (by omega) HGd.out.1 HGd.out.2.1 HGd.out.2.2).2, by simp⟩)
              obtain ⟨R, hR⟩ : ∃ R, rdg y = R := ⟨_, rfl⟩
              rw [hR] at HS2
              have HR := Lib.hid hR
              have r0 : 0 ≤ R := by rw [← hR]; exact (nbk_ok (k := 2) (by omega) HGd.out.1 HGd.out.2.1 HGd.out.2.2).2
              have r1 : R ≤ 59 := by rw [← hR]; exact HGd.out.2.2
              have yl : (y.length : Int) = 2 := by have := HGd.out.1; omega
              clear hR
              go_wp2_with fail
              refine (rdig_any y _ HQl.out).mono ?_
              rintro e9 w9 ⟨rfl, rfl⟩
              rw [HR.out]
              go_wp2_with fail
              go_roundw
              case rel => exact ⟨2 + 1, S + R * 1, by first | trivial | rfl | (congr 1; omega) | (simp; omega), by first | trivial | rfl, by omega, by omega, HO2.out, HS2.out, by omega, by omega, by first | trivial | rfl⟩
              case measure => first | (simp [intOf]; done) | (simp [intOf]; omega)
            · have HGd := Lib.hid hgd
              clear hgd
              have EV := Lib.hid (HCut.out.bad (x := (((2 : Nat) : Int), nbV 2 y)) (by unfold nbs; rw [HPs.out, ← HY.out]; exact nbl_mem (k := 2) (by omega)) (fun q => by have q2 := q.1; rw [nbk_no (k := 2) (by omega) HGd.out] at q2; revert q2; decide))
              obtain ⟨R, hR⟩ : ∃ R, rdg y = R := ⟨_, rfl⟩
              have HR := Lib.hid hR
              by_cases yl : (y.length : Int) = 2
              · by_cases r0 : R < 0
                · clear hR
                  go_wp2_with fail
                  refine (rdig_any y _ HQl.out).mono ?_
                  rintro e9 w9 ⟨rfl, rfl⟩
                  rw [HR.out]
                  go_wp2_with fail
                  go_ret2
                  exact ⟨by first | (rw [EV.out]; done) | (rw [EV.out]; rfl), HBw1.out⟩
                · have r1 : 59 < R := by
                    refine Classical.byContradiction fun hn => HGd.out ⟨by omega, Classical.byContradiction fun hd => ?_, by omega⟩
                    have := rdg_no hd
                    omega
                  clear hR
                  go_wp2_with fail
                  refine (rdig_any y _ HQl.out).mono ?_
                  rintro e9 w9 ⟨rfl, rfl⟩
                  rw [HR.out]
                  go_wp2_with fail
                  go_ret2
                  exact ⟨by first | (rw [EV.out]; done) | (rw [EV.out]; rfl), HBw1.out⟩
              · have yl2 : ((y.length : Int) != 2) = true := by rw [bne, beq_eq_false_iff_ne.2 yl]; rfl
                clear hR
                go_wp2_with fail
                refine (rdig_any y _ HQl.out).mono ?_
                rintro e9 w9 ⟨rfl, rfl⟩
                rw [HR.out]
                go_wp2_with fail
                go_ret2
                exact ⟨by first | (rw [EV.out]; done) | (rw [EV.out]; rfl), HBw1.out⟩
        · obtain rfl : k = ps.length := by omega
          rw [← nbl_len 0 ps, List.take_length] at HOk HSm
          rw [← HPs.out] at HOk HSm
          have s2 : S ≤ 10800000 := by omega
          clear hk
          by_cases hb : 604800 ≤ S
          ·
            have EV := Lib.hid (HCut.out.big HOk.out HSm.out hb)
            go_wp2_with fail
            go_ret2
            exact ⟨by first | (rw [EV.out]; done) | (rw [EV.out]; rfl), HBw1.out⟩
          · have hb2 : S < 604800 := by omega
            have EV := Lib.hid (HCut.out.pos HOk.out HSm.out hb)
            go_wp2_with fail
            go_ret2
            exact ⟨by first | (rw [EV.out]; done) | (rw [EV.out]; rfl), HBw1.out⟩
    · have EV := Lib.hid (HCut.out.bad (x := ((0 : Nat), nbV 0 q)) (by unfold nbs; rw [HPs.out, ← HQ.out]; exact nbl_mem HPn.out) (fun x => by have q2 := x.1; rw [nb0_no hdg] at q2; revert q2; decide))
      by_cases q3 : (q.length : Int) ≤ 3
      · have HR := Lib.hid (rdg_no (l := q) (fun hd => hdg ⟨by omega, hd⟩))
        clear hdg
        go_wp2_with fail
        refine (rdig_any q _ HQl.out).mono ?_
        rintro e9 w9 ⟨rfl, rfl⟩
        rw [HR.out]
        go_wp2_with fail
        go_ret2
        exact ⟨by first | (rw [EV.out]; done) | (rw [EV.out]; rfl), HBw1.out⟩
      · have q4 : 3 < (q.length : Int) := by omega
        clear hdg q3
        go_wp2_with fail
        go_ret2
        exact ⟨by first | (rw [EV.out]; done) | (rw [EV.out]; rfl), HBw1.out⟩
set_option maxRecDepth 100000 in
set_option maxHeartbeats 8000000 in
theorem rspan_neg (l p : List UInt8) (w : World) (hl : l.length ≤ 1000) (h0 : 1 < l.length) (hb : l.getD 0 0 = 45) (hp : l.drop 1 = p) :
    Calls Tryd.prog 22 #[.string ⟨l.toArray⟩] w fun e w' => e = .returned (.tuple #[.int .i64 (spI l).1, .int .i64 (spI l).2]) ∧ Below w.heap.size w w' := by
  have HPl := Lib.hid (show p.length ≤ 1000 by rw [← hp]; simp; omega)
  have hl0 : 0 < l.length := by omega
  have hy := byte_at l 0 hl0
  have hl1 : 1 < (l.length : Int) := by omega
  have hne : (l == [45]) = false := beq_eq_false_iff_ne.2 (by rintro rfl; exact absurd h0 (by decide))
  rw [hb] at hy
  have hp1 : Lib.hasPrefix l [45] = true := by
    cases l with
    | nil => cases h0
    | cons x t =>
      obtain rfl : x = 45 := hb
      rfl
  have HCut := Lib.hid (show Cut l p true from ⟨beq_eq_false_iff_ne.1 hne, by unfold Lib.trimPrefix; rw [if_pos hp1]; exact hp, hp1⟩)
  have XD := ba_drop l 1
  rw [hp] at XD
  obtain ⟨ps, hps⟩ : ∃ ps, pcs p = ps := ⟨_, rfl⟩
  have HPs := Lib.hid hps
  have HPn := Lib.hid (show 0 < ps.length by rw [← hps]; exact List.length_pos_iff.2 (pcs_ne p))
  have HPm := Lib.hid (show ps.length ≤ 1001 by rw [← hps]; have := pcs_count p; have := HPl.out; omega)
  have HAl := Lib.hid (show ∀ k, k < ps.length → (ps.getD k []).length ≤ 1000 by
    intro k hk
    have hm : ps.getD k [] ∈ pcs p := by
      rw [hps]
      simp [List.getD, hk]
    have := pcs_len hm
    have := HPl.out
    omega)
  clear hps
  clear hl hb hp hp1
  go_enter Tryd.func22, Tryd.ntmps22
  go_wp2_with fail
  refine (rparts_any p _ HPl.out).mono ?_
  rintro e w1 ⟨g, cap, rfl, hg, hg2, hT, hb⟩
  have HTl := Lib.hid hT
  have HBw1 := Lib.hid hb
  have c0 := HTl.out 0 (by rw [HPs.out]; exact HPn.out)
  rw [HPs.out] at c0
  rw [HPs.out]
  have HQl := Lib.hid (show (ps.getD 0 []).length ≤ 1000 from HAl.out _ HPn.out)
  obtain ⟨q, hq⟩ : ∃ q, ps.getD 0 [] = q := ⟨_, rfl⟩
  rw [hq] at c0 HQl
  have HQ := Lib.hid hq
  have pn : 1 ≤ (ps.length : Int) := by have := HPn.out; omega
  have pn2 : (ps.length : Int) ≤ 2000 := by have := HPm.out; omega
  have ql : (q.length : Int) ≤ 1000 := by have := HQl.out; omega
  clear hT hb hq
  by_cases h3 : 3 < ps.length
  · have EV := Lib.hid (HCut.out.bad (x := ((3 : Nat), nbV 3 (ps.getD 3 []))) (by unfold nbs; rw [HPs.out]; exact nbl_mem h3) (fun x => by have h := x.2; simp only at h; omega))
    have h4 : 3 < (ps.length : Int) := by omega
    clear h3
    go_wp2_with fail
    go_ret2
    exact ⟨by first | (rw [EV.out]; done) | (rw [EV.out]; rfl), HBw1.out⟩
  · have h4 : (ps.length : Int) ≤ 3 := by omega
    clear h3
    by_cases hdg : q.length ≤ 3 ∧ DG q
    · have HB1 := Lib.hid (nb0_ok hdg.1 hdg.2)
      have q3 : (q.length : Int) ≤ 3 := by have := hdg.1; omega
      obtain ⟨R, hR⟩ : ∃ R, rdg q = R := ⟨_, rfl⟩
      rw [hR] at HB1
      have HR := Lib.hid hR
      have r0 : 0 ≤ R := HB1.out.2.1
      have r1 : R ≤ 999 := HB1.out.2.2
      have HS1 := Lib.hid (show 3600 * R = sumP ((nbl 0 ps).take 1) by
        rw [nbl_take (k := 0) HPn.out, HQ.out, HB1.out.1]
        show 3600 * R = 0 + R * 3600
        omega)
      have HO1 := Lib.hid (show ∀ x ∈ (nbl 0 ps).take 1, okX x by
        rw [nbl_take (k := 0) HPn.out, HQ.out, HB1.out.1]
        intro x hx
        obtain rfl : x = (((0 : Nat) : Int), R) := by simpa using hx
        exact ⟨HB1.out.2.1, by show ((0 : Nat) : Int) < 3; omega⟩)
      clear hdg hR
      go_wp2_with fail
      refine (rdig_any q _ HQl.out).mono ?_
      rintro e9 w9 ⟨rfl, rfl⟩
      rw [HR.out]
      go_wp2_with fail
      refine (rdig_any q _ HQl.out).mono ?_
      rintro e9 w9 ⟨rfl, rfl⟩
      rw [HR.out]
      go_wp2_with fail
      clear c0
      go_loopw [6, 7] (fun nv iv wr => ∃ (k : Nat) (S : Int), nv = .int .i64 S ∧ iv = .int .i64 k ∧ 1 ≤ k ∧ k ≤ ps.length ∧ (∀ x ∈ (nbl 0 ps).take k, okX x) ∧ S = sumP ((nbl 0 ps).take k) ∧ 0 ≤ S ∧ S ≤ 3600000 * (k : Int) ∧ wr = w1) (fun _ iv _ => ((ps.length : Int) - intOf iv).toNat)
      case atStart => exact ⟨1, 3600 * R, by first | trivial | rfl, by first | trivial | rfl, by omega, by omega, HO1.out, HS1.out, by omega, by omega, by first | trivial | rfl⟩
      case round =>
        obtain ⟨k, S, rfl, rfl, k1, k2, hok, hsm, s0, s1, rfl⟩ := hrel
        have HOk := Lib.hid hok
        have HSm := Lib.hid hsm
        clear hok hsm
        by_cases hk : k < ps.length
        · have hk12 : k = 1 ∨ k = 2 := by omega
          have hk2 : (k : Int) < (ps.length : Int) := by omega
          rcases hk12 with rfl | rfl
          ·
            have cy := HTl.out 1 (by rw [HPs.out]; omega)
            rw [HPs.out] at cy
            have HQl := Lib.hid (show (ps.getD 1 []).length ≤ 1000 from HAl.out _ (by omega))
            obtain ⟨y, hy⟩ : ∃ y, ps.getD 1 [] = y := ⟨_, rfl⟩
            rw [hy] at cy HQl
            have HY := Lib.hid hy
            have yl1 : (y.length : Int) ≤ 1000 := by have := HQl.out; omega
            clear hy
            by_cases hgd : y.length = 2 ∧ DG y ∧ rdg y ≤ 59
            · have HGd := Lib.hid hgd
              clear hgd
              have HS2 := Lib.hid (show S + rdg y * 60 = sumP ((nbl 0 ps).take (1 + 1)) by
                rw [nbl_take (by omega), sumP_snoc, ← HSm.out, HY.out, (nbk_ok (k := 1) (by omega) HGd.out.1 HGd.out.2.1 HGd.out.2.2).1]
                rfl)
              have HO2 := Lib.hid (show ∀ x ∈ (nbl 0 ps).take (1 + 1), okX x by
                rw [nbl_take (by omega), HY.out]
                intro x hx
                rcases List.mem_append.1 hx with hx | hx
                · exact HOk.out x hx
                · obtain rfl := List.mem_singleton.1 hx
                  exact ⟨by rw [(nbk_ok (k := 1) (by omega) HGd.out.1 HGd.out.2.1 HGd.out.2.2).1]; exact (nbk_ok (k := 1) (by omega) HGd.out.1 HGd.out.2.1 HGd.out.2.2).2, by simp⟩)
              obtain ⟨R, hR⟩ : ∃ R, rdg y = R := ⟨_, rfl⟩
              rw [hR] at HS2
              have HR := Lib.hid hR
              have r0 : 0 ≤ R := by rw [← hR]; exact (nbk_ok (k := 1) (by omega) HGd.out.1 HGd.out.2.1 HGd.out.2.2).2
              have r1 : R ≤ 59 := by rw [← hR]; exact HGd.out.2.2
              have yl : (y.length : Int) = 2 := by have := HGd.out.1; omega
              clear hR
              go_wp2_with fail
              refine (rdig_any y _ HQl.out).mono ?_
              rintro e9 w9 ⟨rfl, rfl⟩
              rw [HR.out]
              go_wp2_with fail
              go_roundw
              case rel => exact ⟨1 + 1, S + R * 60, by first | trivial | rfl | (congr 1; omega) | (simp; omega), by first | trivial | rfl, by omega, by omega, HO2.out, HS2.out, by omega, by omega, by first | trivial | rfl⟩
              case measure => first | (simp [intOf]; done) | (simp [intOf]; omega)
            · have HGd := Lib.hid hgd
              clear hgd
              have EV := Lib.hid (HCut.out.bad (x := (((1 : Nat) : Int), nbV 1 y)) (by unfold nbs; rw [HPs.out, ← HY.out]; exact nbl_mem (k := 1) (by omega)) (fun q => by have q2 := q.1; rw [nbk_no (k := 1) (by omega) HGd.out] at q2; revert q2; decide))
              obtain ⟨R, hR⟩ : ∃ R, rdg y = R := ⟨_, rfl⟩
              have HR := Lib.hid hR
              by_cases yl : (y.length : Int) = 2
              · by_cases r0 : R < 0
                · clear hR
                  go_wp2_with fail
                  refine (rdig_any y _ HQl.out).mono ?_
                  rintro e9 w9 ⟨rfl, rfl⟩
                  rw [HR.out]
                  go_wp2_with fail
                  go_ret2
                  exact ⟨by first | (rw [EV.out]; done) | (rw [EV.out]; rfl), HBw1.out⟩
                · have r1 : 59 < R := by
                    refine Classical.byContradiction fun hn => HGd.out ⟨by omega, Classical.byContradiction fun hd => ?_, by omega⟩
                    have := rdg_no hd
                    omega
                  clear hR
                  go_wp2_with fail
                  refine (rdig_any y _ HQl.out).mono ?_
                  rintro e9 w9 ⟨rfl, rfl⟩
                  rw [HR.out]
                  go_wp2_with fail
                  go_ret2
                  exact ⟨by first | (rw [EV.out]; done) | (rw [EV.out]; rfl), HBw1.out⟩
              · have yl2 : ((y.length : Int) != 2) = true := by rw [bne, beq_eq_false_iff_ne.2 yl]; rfl
                clear hR
                go_wp2_with fail
                refine (rdig_any y _ HQl.out).mono ?_
                rintro e9 w9 ⟨rfl, rfl⟩
                rw [HR.out]
                go_wp2_with fail
                go_ret2
                exact ⟨by first | (rw [EV.out]; done) | (rw [EV.out]; rfl), HBw1.out⟩
          ·
            have cy := HTl.out 2 (by rw [HPs.out]; omega)
            rw [HPs.out] at cy
            have HQl := Lib.hid (show (ps.getD 2 []).length ≤ 1000 from HAl.out _ (by omega))
            obtain ⟨y, hy⟩ : ∃ y, ps.getD 2 [] = y := ⟨_, rfl⟩
            rw [hy] at cy HQl
            have HY := Lib.hid hy
            have yl1 : (y.length : Int) ≤ 1000 := by have := HQl.out; omega
            clear hy
            by_cases hgd : y.length = 2 ∧ DG y ∧ rdg y ≤ 59
            · have HGd := Lib.hid hgd
              clear hgd
              have HS2 := Lib.hid (show S + rdg y * 1 = sumP ((nbl 0 ps).take (2 + 1)) by
                rw [nbl_take (by omega), sumP_snoc, ← HSm.out, HY.out, (nbk_ok (k := 2) (by omega) HGd.out.1 HGd.out.2.1 HGd.out.2.2).1]
                rfl)
              have HO2 := Lib.hid (show ∀ x ∈ (nbl 0 ps).take (2 + 1), okX x by
                rw [nbl_take (by omega), HY.out]
                intro x hx
                rcases List.mem_append.1 hx with hx | hx
                · exact HOk.out x hx
                · obtain rfl := List.mem_singleton.1 hx
                  exact ⟨by rw [(nbk_ok (k := 2) (by omega) HGd.out.1 HGd.out.2.1 HGd.out.2.2).1]; exact (nbk_ok (k := 2) (by omega) HGd.out.1 HGd.out.2.1 HGd.out.2.2).2, by simp⟩)
              obtain ⟨R, hR⟩ : ∃ R, rdg y = R := ⟨_, rfl⟩
              rw [hR] at HS2
              have HR := Lib.hid hR
              have r0 : 0 ≤ R := by rw [← hR]; exact (nbk_ok (k := 2) (by omega) HGd.out.1 HGd.out.2.1 HGd.out.2.2).2
              have r1 : R ≤ 59 := by rw [← hR]; exact HGd.out.2.2
              have yl : (y.length : Int) = 2 := by have := HGd.out.1; omega
              clear hR
              go_wp2_with fail
              refine (rdig_any y _ HQl.out).mono ?_
              rintro e9 w9 ⟨rfl, rfl⟩
              rw [HR.out]
              go_wp2_with fail
              go_roundw
              case rel => exact ⟨2 + 1, S + R * 1, by first | trivial | rfl | (congr 1; omega) | (simp; omega), by first | trivial | rfl, by omega, by omega, HO2.out, HS2.out, by omega, by omega, by first | trivial | rfl⟩
              case measure => first | (simp [intOf]; done) | (simp [intOf]; omega)
            · have HGd := Lib.hid hgd
              clear hgd
              have EV := Lib.hid (HCut.out.bad (x := (((2 : Nat) : Int), nbV 2 y)) (by unfold nbs; rw [HPs.out, ← HY.out]; exact nbl_mem (k := 2) (by omega)) (fun q => by have q2 := q.1; rw [nbk_no (k := 2) (by omega) HGd.out] at q2; revert q2; decide))
              obtain ⟨R, hR⟩ : ∃ R, rdg y = R := ⟨_, rfl⟩
              have HR := Lib.hid hR
              by_cases yl : (y.length : Int) = 2
              · by_cases r0 : R < 0
                · clear hR
                  go_wp2_with fail
                  refine (rdig_any y _ HQl.out).mono ?_
                  rintro e9 w9 ⟨rfl, rfl⟩
                  rw [HR.out]
                  go_wp2_with fail
                  go_ret2
                  exact ⟨by first | (rw [EV.out]; done) | (rw [EV.out]; rfl), HBw1.out⟩
                · have r1 : 59 < R := by
                    refine Classical.byContradiction fun hn => HGd.out ⟨by omega, Classical.byContradiction fun hd => ?_, by omega⟩
                    have := rdg_no hd
                    omega
                  clear hR
                  go_wp2_with fail
                  refine (rdig_any y _ HQl.out).mono ?_
                  rintro e9 w9 ⟨rfl, rfl⟩
                  rw [HR.out]
                  go_wp2_with fail
                  go_ret2
                  exact ⟨by first | (rw [EV.out]; done) | (rw [EV.out]; rfl), HBw1.out⟩
              · have yl2 : ((y.length : Int) != 2) = true := by rw [bne, beq_eq_false_iff_ne.2 yl]; rfl
                clear hR
                go_wp2_with fail
                refine (rdig_any y _ HQl.out).mono ?_
                rintro e9 w9 ⟨rfl, rfl⟩
                rw [HR.out]
                go_wp2_with fail
                go_ret2
                exact ⟨by first | (rw [EV.out]; done) | (rw [EV.out]; rfl), HBw1.out⟩
        · obtain rfl : k = ps.length := by omega
          rw [← nbl_len 0 ps, List.take_length] at HOk HSm
          rw [← HPs.out] at HOk HSm
          have s2 : S ≤ 10800000 := by omega
          clear hk
          by_cases hb : 604800 ≤ S
          ·
            have EV := Lib.hid (HCut.out.big HOk.out HSm.out hb)
            go_wp2_with fail
            go_ret2
            exact ⟨by first | (rw [EV.out]; done) | (rw [EV.out]; rfl), HBw1.out⟩
          · have hb2 : S < 604800 := by omega
            have EV := Lib.hid (HCut.out.neg HOk.out HSm.out hb)
            go_wp2_with fail
            go_ret2
            exact ⟨by first | (rw [EV.out]; done) | (rw [EV.out]; rfl), HBw1.out⟩
    · have EV := Lib.hid (HCut.out.bad (x := ((0 : Nat), nbV 0 q)) (by unfold nbs; rw [HPs.out, ← HQ.out]; exact nbl_mem HPn.out) (fun x => by have q2 := x.1; rw [nb0_no hdg] at q2; revert q2; decide))
      by_cases q3 : (q.length : Int) ≤ 3
      · have HR := Lib.hid (rdg_no (l := q) (fun hd => hdg ⟨by omega, hd⟩))
        clear hdg
        go_wp2_with fail
        refine (rdig_any q _ HQl.out).mono ?_
        rintro e9 w9 ⟨rfl, rfl⟩
        rw [HR.out]
        go_wp2_with fail
        go_ret2
        exact ⟨by first | (rw [EV.out]; done) | (rw [EV.out]; rfl), HBw1.out⟩
      · have q4 : 3 < (q.length : Int) := by omega
        clear hdg q3
        go_wp2_with fail
        go_ret2
        exact ⟨by first | (rw [EV.out]; done) | (rw [EV.out]; rfl), HBw1.out⟩
set_option maxRecDepth 100000 in
set_option maxHeartbeats 2000000 in
theorem rspan_dash (w : World) :
    Calls Tryd.prog 22 #[.string ⟨#[45]⟩] w fun e w' => e = .returned (.tuple #[.int .i64 0, .int .i64 0]) ∧ Below w.heap.size w w' := by
  go_enter Tryd.func22, Tryd.ntmps22
  go_wp2_with fail
  go_ret2
  exact ⟨rfl, Below.refl _ _⟩
set_option maxRecDepth 100000 in
set_option maxHeartbeats 2000000 in
theorem rspan_nil (w : World) :
    Calls Tryd.prog 22 #[.string ⟨#[]⟩] w fun e w' => e = .returned (.tuple #[.int .i64 0, .int .i64 12]) ∧ Below w.heap.size w w' := by
  have HP := Lib.hid (rparts_any [] w (by decide))
  have HD := Lib.hid (fun w => rdig_any [] w (by decide))
  go_enter Tryd.func22, Tryd.ntmps22
  go_wp2_with fail
  refine HP.out.mono ?_
  rintro e w1 ⟨g, cap, rfl, hg, hg2, hT, hb⟩
  have HBw1 := Lib.hid hb
  have c0 : w1.cell? ⟨g, 0, none⟩ = some (.string ⟨#[]⟩) := hT 0 (by decide)
  rw [show (pcs []).length = 1 from rfl]
  clear hT hb
  go_wp2_with fail
  refine (HD.out _).mono ?_
  rintro e9 w9 ⟨rfl, rfl⟩
  rw [show rdg [] = -1 from by decide]
  go_wp2_with fail
  go_ret2
  exact ⟨rfl, HBw1.out⟩
theorem rspan_any (l : List UInt8) (w : World) (hl : l.length ≤ 1000) :
    Calls Tryd.prog 22 #[.string ⟨l.toArray⟩] w fun e w' => e = .returned (.tuple #[.int .i64 (spI l).1, .int .i64 (spI l).2]) ∧ Below w.heap.size w w' := by
  by_cases h1 : l = []
  · subst h1
    rw [show spI [] = (0, 12) from by decide +kernel]
    exact rspan_nil w
  · by_cases h2 : l = [45]
    · subst h2
      rw [show spI [45] = (0, 0) from rfl]
      exact rspan_dash w
    · have h0 := List.length_pos_iff.2 h1
      by_cases hb : l.getD 0 0 = 45
      · refine rspan_neg l _ w hl ?_ hb rfl
        refine Classical.byContradiction fun hn => h2 ?_
        match l, h0, hb, hn with
        | [x], _, hb, _ => rw [show x = 45 from hb]
        | _ :: _ :: _, _, _, hn => exact absurd (by simp) hn
      · exact rspan_pos l w hl h0 hb
end Go.Proofs.YtbejbagpdjfgmaaDoor
