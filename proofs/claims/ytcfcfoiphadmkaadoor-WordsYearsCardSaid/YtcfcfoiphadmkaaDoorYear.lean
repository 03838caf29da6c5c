/-
  THE WALK of words.Year at every word.
-/
import Derived.Test.YtcfcfoiphadmkaaDoorRNumber
import Derived.Test.YtcfcfoiphadmkaaDoorShelf2
import Derived.Lib.AppendIntMem
namespace Go.Proofs.YtcfcfoiphadmkaaDoor
open Go Go.RowKit

def IfcAt (w : World) (b : Nat) : Prop := ∃ ev, w.cell? ⟨b, 0, none⟩ = some ev ∧ (ev = .nilIface ∨ ∃ te pe, ev = .iface te pe)
/-- what Atoi and Itoa read -/
def Txt (w : World) : Prop := IfcAt w 2 ∧ IfcAt w 3 ∧ Lib.TabIs Tryd.prog w "internal/strconv.uint64pow10" .u64 Lib.pow10Tab
theorem IfcAt.below {w w' : World} {b : Nat} (h : IfcAt w b) (hb : Below w.heap.size w w') : IfcAt w' b := by
  obtain ⟨ev, h1, h2⟩ := h
  exact ⟨ev, (hb.cell (p := ⟨b, 0, none⟩) (block_lt_of_cell h1)).trans h1, h2⟩
theorem atoi_ok (l : List UInt8) (n : Int) (w : World) (hl : l.length ≤ 1000) (h : Lib.atoiAll l = .ok n) :
    Calls Tryd.prog 24 #[.string ⟨l.toArray⟩] w fun e w' => e = .returned (.tuple #[.int .i64 n, .nilIface]) ∧ Below w.heap.size w w' := by
  refine (Tryd.strconv_Atoi_ok ⟨l.toArray⟩ (by show l.toArray.size ≤ _; simp; omega) n (by simpa using h) w).mono ?_
  rintro e w' ⟨rfl, h1 | ⟨t, h1⟩⟩
  · exact ⟨rfl, by rw [h1]; exact Below.refl _ _⟩
  · exact ⟨rfl, by rw [h1]; exact Lib.bytesWorld_below _ _ _⟩
theorem atoi_bad (l : List UInt8) (w : World) (hl : l.length ≤ 1000) (h : ∀ n, Lib.atoiAll l ≠ .ok n) (hT : Txt w) :
    Calls Tryd.prog 24 #[.string ⟨l.toArray⟩] w fun e w' => ∃ (k : Int) (p : Addr), e = .returned (.tuple #[.int .i64 k, .iface 62 (.pointer (some p))]) ∧ Below w.heap.size w w' := by
  obtain ⟨⟨ev, s1, s2⟩, ⟨er, r1, r2⟩, _⟩ := hT
  match hA : Lib.atoiAll l with
  | .ok n => exact absurd hA (h n)
  | .«syntax» =>
    refine (Tryd.strconv_Atoi_syntax ⟨l.toArray⟩ (by show l.toArray.size ≤ _; simp; omega) (by simpa using hA) ev w s1 s2).mono ?_
    rintro e w' ⟨N, rfl, _, _, hb⟩
    exact ⟨_, _, rfl, hb⟩
  | .range =>
    refine (Tryd.strconv_Atoi_range ⟨l.toArray⟩ (by show l.toArray.size ≤ _; simp; omega) (by simpa using hA) er w r1 r2).mono ?_
    rintro e w' ⟨N, rfl, _, _, hb⟩
    exact ⟨_, _, rfl, hb⟩
theorem itoa_any (n : Int) (w : World) (h0 : -9223372036854775808 ≤ n) (h1 : n ≤ 9223372036854775807) (hT : Txt w) :
    Calls Tryd.prog 25 #[.int .i64 n] w fun e w' => e = .returned (.string ⟨(Lib.itoa n).toArray⟩) ∧ Below w.heap.size w w' := by
  refine (Tryd.strconv_Itoa n h0 h1 w hT.2.2).mono ?_
  rintro e w' ⟨rfl, k, os, rfl⟩
  exact ⟨rfl, Lib.below_grow w.heap.size w (Nat.le_refl _) k os⟩
theorem trimp_any (s p : List UInt8) (w : World) :
    Calls Tryd.prog 26 #[.string ⟨s.toArray⟩, .string ⟨p.toArray⟩] w fun e w' => e = .returned (.string ⟨(Lib.trimPrefix s p).toArray⟩) ∧ w = w' :=
  (Tryd.strings_TrimPrefix ⟨s.toArray⟩ ⟨p.toArray⟩ w).mono fun _ _ ⟨h1, h2⟩ => ⟨h1, h2.symm⟩
theorem Txt.below {w w' : World} (h : Txt w) (hb : Below w.heap.size w w') : Txt w' := ⟨h.1.below hb, h.2.1.below hb, Lib.tabBelow_of_tabIs h.2.2 w' hb⟩
/-- a year in digits -/
def yrV (l : List UInt8) : Value := match number l with
  | none => .tuple #[.int .i64 0, .int .i64 12]
  | some m => if m < 1 ∨ 4000 < m then .tuple #[.int .i64 0, .int .i64 10] else .tuple #[.int .i64 m, .int .i64 0]
theorem yrV_none {l : List UInt8} (h : number l = none) : yrV l = .tuple #[.int .i64 0, .int .i64 12] := by unfold yrV; rw [h]
theorem yrV_out {l : List UInt8} {m : Int} (h : number l = some m) (h2 : m < 1 ∨ 4000 < m) : yrV l = .tuple #[.int .i64 0, .int .i64 10] := by unfold yrV; rw [h]; exact if_pos h2
theorem yrV_in {l : List UInt8} {m : Int} (h : number l = some m) (h2 : ¬ (m < 1 ∨ 4000 < m)) : yrV l = .tuple #[.int .i64 m, .int .i64 0] := by unfold yrV; rw [h]; exact if_neg h2
set_option maxHeartbeats 2000000 in
theorem year_none (l : List UInt8) (n0 : Int) (w : World) (hl : l.length ≤ 1000) (hT : Txt w) (hf : fd (l.map low) onlysL = none) :
    Calls Tryd.prog 10 #[.string ⟨l.toArray⟩, .int .i64 n0] w fun e w' => e = .returned (yrV l) ∧ Below w.heap.size w w' := by
  by_cases hA : ∃ n, Lib.atoiAll l = .ok n
  · obtain ⟨n, hA⟩ := hA
    obtain ⟨h0, h1⟩ := Lib.atoiAll_bounds hA
    have HA := Lib.hid hA
    clear hA
    by_cases c1 : Lib.itoa n = l
    · by_cases c2 : 9 < (Lib.trimPrefix l [45]).length
      · have EV := Lib.hid (yrV_none (show number l = none by
          cases hN : number l with
          | none => rfl
          | some m =>
            have := (number_itoa hN).2.2.1
            omega))
        have C1 := Lib.hid c1
        have c3 : 9 < ((Lib.trimPrefix l [45]).length : Int) := by omega
        have TC := Lib.hid (fun w => trimp_any l [45] w)
        clear c1 c2
        generalize Lib.trimPrefix l [45] = S at *
        have HL := Lib.hid hl
        have HT := Lib.hid hT
        have HB0 := Lib.hid ((Below.refl w.heap.size w).alloc (Nat.le_refl _) onlyObj)
        have HM := Lib.hid (only_wl w)
        have E1 := Lib.hid (fdV_none hf)
        clear hl hf hT
        go_enter Tryd.func10, Tryd.ntmps10
        go_wp2_with fail
        refine (find_any l w.heap.size 0 2 onlysL _ HL.out (len_of (by decide)) (by decide) (by simp) HM.out).mono ?_
        rintro e w1 ⟨rfl, hb⟩
        have HBw1 := Lib.hid (HB0.out.trans (hb.mono HB0.out.size))
        clear hb
        rw [E1.out]
        go_wp2_with fail
        refine (atoi_ok l n _ HL.out HA.out).mono ?_
        rintro e w2 ⟨rfl, hb⟩
        have HBw2 := Lib.hid (HBw1.out.trans (hb.mono HBw1.out.size))
        clear hb
        go_wp2_with fail
        refine (itoa_any n _ h0 h1 (HT.out.below HBw2.out)).mono ?_
        rintro e w3 ⟨rfl, hb⟩
        have HBw3 := Lib.hid (HBw2.out.trans (hb.mono HBw2.out.size))
        clear hb
        rw [C1.out]
        go_wp2_with fail
        refine (TC.out _).mono ?_
        rintro e w' ⟨rfl, rfl⟩
        go_wp2_with fail
        go_ret2
        exact ⟨by rw [EV.out]; rfl, HBw3.out⟩
      · cases hN : number l with
        | none => exact absurd (number_of c1 (by omega)) (by rw [hN]; simp)
        | some m =>
          have hm := number_atoi hN
          rw [HA.out] at hm
          obtain rfl : n = m := by injection hm
          have C1 := Lib.hid c1
          have c3 : ((Lib.trimPrefix l [45]).length : Int) ≤ 9 := by omega
          have TC := Lib.hid (fun w => trimp_any l [45] w)
          clear c1 c2 hm
          generalize Lib.trimPrefix l [45] = S at *
          by_cases a1 : n < 1
          · have EV := Lib.hid (yrV_out hN (.inl a1))
            clear hN
            have HL := Lib.hid hl
            have HT := Lib.hid hT
            have HB0 := Lib.hid ((Below.refl w.heap.size w).alloc (Nat.le_refl _) onlyObj)
            have HM := Lib.hid (only_wl w)
            have E1 := Lib.hid (fdV_none hf)
            clear hl hf hT
            go_enter Tryd.func10, Tryd.ntmps10
            go_wp2_with fail
            refine (find_any l w.heap.size 0 2 onlysL _ HL.out (len_of (by decide)) (by decide) (by simp) HM.out).mono ?_
            rintro e w1 ⟨rfl, hb⟩
            have HBw1 := Lib.hid (HB0.out.trans (hb.mono HB0.out.size))
            clear hb
            rw [E1.out]
            go_wp2_with fail
            refine (atoi_ok l n _ HL.out HA.out).mono ?_
            rintro e w2 ⟨rfl, hb⟩
            have HBw2 := Lib.hid (HBw1.out.trans (hb.mono HBw1.out.size))
            clear hb
            go_wp2_with fail
            refine (itoa_any n _ h0 h1 (HT.out.below HBw2.out)).mono ?_
            rintro e w3 ⟨rfl, hb⟩
            have HBw3 := Lib.hid (HBw2.out.trans (hb.mono HBw2.out.size))
            clear hb
            rw [C1.out]
            go_wp2_with fail
            refine (TC.out _).mono ?_
            rintro e w' ⟨rfl, rfl⟩
            go_wp2_with fail
            go_ret2
            exact ⟨by rw [EV.out]; rfl, HBw3.out⟩
          · by_cases a2 : 4000 < n
            · have EV := Lib.hid (yrV_out hN (.inr a2))
              clear hN
              have HL := Lib.hid hl
              have HT := Lib.hid hT
              have HB0 := Lib.hid ((Below.refl w.heap.size w).alloc (Nat.le_refl _) onlyObj)
              have HM := Lib.hid (only_wl w)
              have E1 := Lib.hid (fdV_none hf)
              clear hl hf hT
              go_enter Tryd.func10, Tryd.ntmps10
              go_wp2_with fail
              refine (find_any l w.heap.size 0 2 onlysL _ HL.out (len_of (by decide)) (by decide) (by simp) HM.out).mono ?_
              rintro e w1 ⟨rfl, hb⟩
              have HBw1 := Lib.hid (HB0.out.trans (hb.mono HB0.out.size))
              clear hb
              rw [E1.out]
              go_wp2_with fail
              refine (atoi_ok l n _ HL.out HA.out).mono ?_
              rintro e w2 ⟨rfl, hb⟩
              have HBw2 := Lib.hid (HBw1.out.trans (hb.mono HBw1.out.size))
              clear hb
              go_wp2_with fail
              refine (itoa_any n _ h0 h1 (HT.out.below HBw2.out)).mono ?_
              rintro e w3 ⟨rfl, hb⟩
              have HBw3 := Lib.hid (HBw2.out.trans (hb.mono HBw2.out.size))
              clear hb
              rw [C1.out]
              go_wp2_with fail
              refine (TC.out _).mono ?_
              rintro e w' ⟨rfl, rfl⟩
              go_wp2_with fail
              go_ret2
              exact ⟨by rw [EV.out]; rfl, HBw3.out⟩
            · have EV := Lib.hid (yrV_in hN (by omega))
              clear hN
              have HL := Lib.hid hl
              have HT := Lib.hid hT
              have HB0 := Lib.hid ((Below.refl w.heap.size w).alloc (Nat.le_refl _) onlyObj)
              have HM := Lib.hid (only_wl w)
              have E1 := Lib.hid (fdV_none hf)
              clear hl hf hT
              go_enter Tryd.func10, Tryd.ntmps10
              go_wp2_with fail
              refine (find_any l w.heap.size 0 2 onlysL _ HL.out (len_of (by decide)) (by decide) (by simp) HM.out).mono ?_
              rintro e w1 ⟨rfl, hb⟩
              have HBw1 := Lib.hid (HB0.out.trans (hb.mono HB0.out.size))
              clear hb
              rw [E1.out]
              go_wp2_with fail
              refine (atoi_ok l n _ HL.out HA.out).mono ?_
              rintro e w2 ⟨rfl, hb⟩
              have HBw2 := Lib.hid (HBw1.out.trans (hb.mono HBw1.out.size))
              clear hb
              go_wp2_with fail
              refine (itoa_any n _ h0 h1 (HT.out.below HBw2.out)).mono ?_
              rintro e w3 ⟨rfl, hb⟩
              have HBw3 := Lib.hid (HBw2.out.trans (hb.mono HBw2.out.size))
              clear hb
              rw [C1.out]
              go_wp2_with fail
              refine (TC.out _).mono ?_
              rintro e w' ⟨rfl, rfl⟩
              go_wp2_with fail
              go_ret2
              exact ⟨by rw [EV.out]; rfl, HBw3.out⟩
    · have EV := Lib.hid (yrV_none (show number l = none by
        cases hN : number l with
        | none => rfl
        | some m =>
          have hm := number_atoi hN
          rw [HA.out] at hm
          obtain rfl : n = m := by injection hm
          exact absurd (number_itoa hN).1 c1))
      have q1 : (Lib.itoa n == l) = false := beq_eq_false_iff_ne.2 c1
      clear c1
      generalize hI : Lib.itoa n = I at *
      have HI := Lib.hid hI
      clear hI
      have HL := Lib.hid hl
      have HT := Lib.hid hT
      have HB0 := Lib.hid ((Below.refl w.heap.size w).alloc (Nat.le_refl _) onlyObj)
      have HM := Lib.hid (only_wl w)
      have E1 := Lib.hid (fdV_none hf)
      clear hl hf hT
      go_enter Tryd.func10, Tryd.ntmps10
      go_wp2_with fail
      refine (find_any l w.heap.size 0 2 onlysL _ HL.out (len_of (by decide)) (by decide) (by simp) HM.out).mono ?_
      rintro e w1 ⟨rfl, hb⟩
      have HBw1 := Lib.hid (HB0.out.trans (hb.mono HB0.out.size))
      clear hb
      rw [E1.out]
      go_wp2_with fail
      refine (atoi_ok l n _ HL.out HA.out).mono ?_
      rintro e w2 ⟨rfl, hb⟩
      have HBw2 := Lib.hid (HBw1.out.trans (hb.mono HBw1.out.size))
      clear hb
      go_wp2_with fail
      refine (itoa_any n _ h0 h1 (HT.out.below HBw2.out)).mono ?_
      rintro e w3 ⟨rfl, hb⟩
      have HBw3 := Lib.hid (HBw2.out.trans (hb.mono HBw2.out.size))
      clear hb
      rw [HI.out]
      go_wp2_with fail
      go_ret2
      exact ⟨by rw [EV.out]; rfl, HBw3.out⟩
  · have EV := Lib.hid (yrV_none (show number l = none by
      cases hN : number l with
      | none => rfl
      | some m => exact absurd ⟨m, number_atoi hN⟩ hA))
    have HA := Lib.hid (fun n h => hA ⟨n, h⟩)
    clear hA
    have HL := Lib.hid hl
    have HT := Lib.hid hT
    have HB0 := Lib.hid ((Below.refl w.heap.size w).alloc (Nat.le_refl _) onlyObj)
    have HM := Lib.hid (only_wl w)
    have E1 := Lib.hid (fdV_none hf)
    clear hl hf hT
    go_enter Tryd.func10, Tryd.ntmps10
    go_wp2_with fail
    refine (find_any l w.heap.size 0 2 onlysL _ HL.out (len_of (by decide)) (by decide) (by simp) HM.out).mono ?_
    rintro e w1 ⟨rfl, hb⟩
    have HBw1 := Lib.hid (HB0.out.trans (hb.mono HB0.out.size))
    clear hb
    rw [E1.out]
    go_wp2_with fail
    refine (atoi_bad l _ HL.out HA.out (HT.out.below HBw1.out)).mono ?_
    rintro e w3 ⟨k, p, rfl, hb⟩
    have HBw3 := Lib.hid (HBw1.out.trans (hb.mono HBw1.out.size))
    clear hb
    go_wp2_with fail
    go_ret2
    exact ⟨by rw [EV.out]; rfl, HBw3.out⟩
end Go.Proofs.YtcfcfoiphadmkaaDoor
