/-
  THE WALK of dayform.number.
-/
import Derived.Test.YtmkbfjklhejdnaaDoorSign
namespace Go.Proofs.YtmkbfjklhejdnaaDoor
open Go Go.RowKit CivM NumM

def IfcAt (w : World) (b : Nat) : Prop := ∃ ev, w.cell? ⟨b, 0, none⟩ = some ev ∧ (ev = .nilIface ∨ ∃ te pe, ev = .iface te pe)
/-- what Atoi and Itoa read -/
def Txt (w : World) : Prop := IfcAt w 9 ∧ IfcAt w 10
theorem IfcAt.below {w w' : World} {b : Nat} (h : IfcAt w b) (hb : Below w.heap.size w w') : IfcAt w' b := by
  obtain ⟨ev, h1, h2⟩ := h
  exact ⟨ev, (hb.cell (p := ⟨b, 0, none⟩) (block_lt_of_cell h1)).trans h1, h2⟩
theorem Txt.below {w w' : World} (h : Txt w) (hb : Below w.heap.size w w') : Txt w' := ⟨h.1.below hb, h.2.below hb⟩
theorem atoi_ok (l : List UInt8) (n : Int) (w : World) (hl : l.length ≤ 1000) (h : Lib.atoiAll l = .ok n) :
    Calls Tryd.prog 45 #[.string ⟨l.toArray⟩] w fun e w' => e = .returned (.tuple #[.int .i64 n, .nilIface]) ∧ Below w.heap.size w w' := by
  refine (Tryd.strconv_Atoi_ok ⟨l.toArray⟩ (by show l.toArray.size ≤ _; simp; omega) n (by simpa using h) w).mono ?_
  rintro e w' ⟨rfl, h1 | ⟨t, h1⟩⟩
  · exact ⟨rfl, by rw [h1]; exact Below.refl _ _⟩
  · exact ⟨rfl, by rw [h1]; exact Lib.bytesWorld_below _ _ _⟩
theorem atoi_bad (l : List UInt8) (w : World) (hl : l.length ≤ 1000) (h : ∀ n, Lib.atoiAll l ≠ .ok n) (hT : Txt w) :
    Calls Tryd.prog 45 #[.string ⟨l.toArray⟩] w fun e w' => ∃ (k : Int) (p : Addr), e = .returned (.tuple #[.int .i64 k, .iface 102 (.pointer (some p))]) ∧ Below w.heap.size w w' := by
  obtain ⟨⟨ev, s1, s2⟩, ⟨er, r1, r2⟩⟩ := hT
  match hA : Lib.atoiAll l with
  | .ok n => exact absurd hA (h n)
  | .«syntax» =>
    refine (Tryd.strconv_Atoi_syntax ⟨l.toArray⟩ (by show l.toArray.size ≤ _; simp; omega) (by simpa using hA) ev w s1 s2).mono ?_
    rintro e w' ⟨N, rfl, _, _, hb⟩
    exact ⟨_, _, rfl, hb⟩
  | .range =>
    refine (Tryd.strconv_Atoi_range ⟨l.toArray⟩ (by show l.toArray.size ≤ _; simp; omega) (by simpa using hA) er w r1 r2).mono ?_
    rintro e w' ⟨N, rfl, _, _, hb⟩
    exact ⟨_, _, rfl, hb⟩
theorem itoa_small (u : Nat) (hu : u < 100) (w : World) : Calls Tryd.prog 41 #[.int .i64 u] w fun e w' => e = .returned (.string ⟨(Lib.decDigits u).toArray⟩) ∧ w = w' :=
  (Tryd.strconv_Itoa_small u hu w).mono fun _ _ ⟨h1, h2⟩ => ⟨h1, h2.symm⟩
/-- the number that a text of one or two digits is -/
def nm (l : List UInt8) : Option Nat := if l.length ≤ 2 then (numT l).bind fun u => if u < 1 then none else some u else none
def nmV (l : List UInt8) : Value := match nm l with
  | none => .tuple #[.int .i64 0, .int .i64 12]
  | some u => if 31 < u then .tuple #[.int .i64 0, .int .i64 10] else .tuple #[.int .i64 u, .int .i64 0]
theorem nm_iff {l : List UInt8} {u : Nat} : nm l = some u ↔ l = Lib.decDigits u ∧ 1 ≤ u ∧ l.length ≤ 2 := by
  unfold nm
  constructor
  · intro h
    split at h
    · rename_i hl
      cases hT : numT l with
      | none => rw [hT] at h; cases h
      | some v =>
        rw [hT, Option.bind_some] at h
        split at h
        · cases h
        · cases h
          exact ⟨(numT_iff.1 hT).1.symm, by omega, hl⟩
    · cases h
  · rintro ⟨rfl, h1, h2⟩
    rw [if_pos h2, numT_iff.2 ⟨rfl, by omega⟩, Option.bind_some, if_neg (by omega)]
theorem nm_atoi {l : List UInt8} {u : Nat} (h : nm l = some u) : Lib.atoiAll l = .ok (u : Int) := by
  obtain ⟨h1, h2, h3⟩ := nm_iff.1 h
  have hT : numT l = some u := numT_iff.2 ⟨h1.symm, by omega⟩
  apply number_atoi
  unfold number
  rw [if_neg, hT]
  · rfl
  · intro h45
    rw [h1] at h45
    have : (45 : UInt8) ∈ Lib.decDigits u := by
      cases hd : Lib.decDigits u with
      | nil => rw [hd] at h45; cases h45
      | cons c s => rw [hd] at h45; have : c = 45 := by simpa using h45
                    rw [this]; simp
    have := dec_digit this
    have e : (45 : UInt8).toNat = 45 := rfl
    omega
theorem nm_lt {l : List UInt8} {u : Nat} (h : nm l = some u) : u < 100 := by
  obtain ⟨h1, h2, h3⟩ := nm_iff.1 h
  have := Lib.decFrom_lt _ 0 u (from_dec u)
  rw [← h1] at this
  have hp : 10 ^ l.length ≤ 10 ^ 2 := Nat.pow_le_pow_right (by decide) h3
  omega
theorem nmV_none {l : List UInt8} (h : nm l = none) : nmV l = .tuple #[.int .i64 0, .int .i64 12] := by unfold nmV; rw [h]
theorem nmV_far {l : List UInt8} {u : Nat} (h : nm l = some u) (h2 : 31 < u) : nmV l = .tuple #[.int .i64 0, .int .i64 10] := by unfold nmV; rw [h]; exact if_pos h2
theorem nmV_ok {l : List UInt8} {u : Nat} (h : nm l = some u) (h2 : u ≤ 31) : nmV l = .tuple #[.int .i64 u, .int .i64 0] := by unfold nmV; rw [h]; exact if_neg (by omega)
theorem dec2_bd {r : List UInt8} {m : Nat} (h : Lib.decFrom 0 r = some m) (hl : r.length ≤ 2) : m < 100 := by
  have := Lib.decFrom_lt _ 0 m h
  have hp : 10 ^ r.length ≤ 10 ^ 2 := Nat.pow_le_pow_right (by decide) hl
  omega
theorem atoi2_bd {l : List UInt8} {n : Int} (h : Lib.atoiAll l = .ok n) (hl : l.length ≤ 2) : n < 100 := by
  rw [Lib.atoiAll_short l (by omega)] at h
  cases ha : Lib.atoi l with
  | none => rw [ha] at h; cases h
  | some k =>
    rw [ha] at h
    obtain rfl : k = n := by injection h
    obtain ⟨b0, r, rfl, hc⟩ := Lib.atoi_cases ha
    simp only [List.length_cons] at hl
    rcases hc with ⟨_, m, _, hm, rfl⟩ | ⟨_, m, _, hm, rfl⟩ | ⟨_, _, m, hm, rfl⟩
    · have := dec2_bd hm (by omega); omega
    · have := dec2_bd hm (by omega); omega
    · have := dec2_bd hm (by simp only [List.length_cons]; omega); omega
set_option maxRecDepth 100000 in
set_option maxHeartbeats 2000000 in
theorem number_any (l : List UInt8) (w : World) (hl : l.length ≤ 1000) (hT : Txt w) :
    Calls Tryd.prog 24 #[.string ⟨l.toArray⟩] w fun e w' => e = .returned (nmV l) ∧ Below w.heap.size w w' := by
  by_cases hA : ∃ n, Lib.atoiAll l = .ok n
  · obtain ⟨n, hA⟩ := hA
    obtain ⟨h0, h1⟩ := Lib.atoiAll_bounds hA
    have HA := Lib.hid hA
    have HN := Lib.hid (show ∀ u, nm l = some u → n = (u : Int) from fun u hu => by
      have := nm_atoi hu
      rw [hA] at this
      injection this)
    by_cases c1 : n < 1
    · have EV := Lib.hid (nmV_none (l := l) (by
        cases h : nm l with
        | none => rfl
        | some u => have := HN.out u h; have := (nm_iff.1 h).2.1; omega))
      clear hA
      have HL := Lib.hid hl
      have HT := Lib.hid hT
      have HB0 := Lib.hid (Below.refl w.heap.size w)
      clear hl hT
      go_enter Tryd.func24, Tryd.ntmps24
      go_wp2_with fail
      refine (atoi_ok l n _ HL.out HA.out).mono ?_
      rintro e w2 ⟨rfl, hb⟩
      have HBw2 := Lib.hid (HB0.out.trans (hb.mono HB0.out.size))
      clear hb
      go_wp2_with fail
      go_ret2
      exact ⟨by rw [EV.out]; rfl, HBw2.out⟩
    · by_cases c2 : 2 < l.length
      · have c3 : 2 < (l.length : Int) := by omega
        have EV := Lib.hid (nmV_none (l := l) (by
          cases h : nm l with
          | none => rfl
          | some u => have := (nm_iff.1 h).2.2; omega))
        clear hA c2
        have HL := Lib.hid hl
        have HT := Lib.hid hT
        have HB0 := Lib.hid (Below.refl w.heap.size w)
        clear hl hT
        go_enter Tryd.func24, Tryd.ntmps24
        go_wp2_with fail
        refine (atoi_ok l n _ HL.out HA.out).mono ?_
        rintro e w2 ⟨rfl, hb⟩
        have HBw2 := Lib.hid (HB0.out.trans (hb.mono HB0.out.size))
        clear hb
        go_wp2_with fail
        go_ret2
        exact ⟨by rw [EV.out]; rfl, HBw2.out⟩
      · have c3 : (l.length : Int) ≤ 2 := by omega
        have c4 := atoi2_bd hA (by omega)
        obtain ⟨u, hu⟩ : ∃ u : Nat, n = (u : Int) := ⟨n.toNat, by omega⟩
        subst hu
        have hu1 : u < 100 := by omega
        have HU := Lib.hid hu1
        by_cases c5 : Lib.decDigits u = l
        · have hnm : nm l = some u := nm_iff.2 ⟨c5.symm, by omega, by omega⟩
          have C5 := Lib.hid c5
          clear c5 hA c2
          by_cases c6 : 31 < u
          · have EV := Lib.hid (nmV_far hnm c6)
            have c7 : 31 < (u : Int) := by omega
            clear hnm c6 hu1
            have HL := Lib.hid hl
            have HT := Lib.hid hT
            have HB0 := Lib.hid (Below.refl w.heap.size w)
            clear hl hT
            go_enter Tryd.func24, Tryd.ntmps24
            go_wp2_with fail
            refine (atoi_ok l u _ HL.out HA.out).mono ?_
            rintro e w2 ⟨rfl, hb⟩
            have HBw2 := Lib.hid (HB0.out.trans (hb.mono HB0.out.size))
            clear hb
            go_wp2_with fail
            refine (itoa_small u HU.out _).mono ?_
            rintro e w' ⟨rfl, rfl⟩
            rw [C5.out]
            go_wp2_with fail
            go_ret2
            exact ⟨by rw [EV.out]; rfl, HBw2.out⟩
          · have EV := Lib.hid (nmV_ok hnm (by omega))
            have c7 : (u : Int) ≤ 31 := by omega
            clear hnm c6 hu1
            have HL := Lib.hid hl
            have HT := Lib.hid hT
            have HB0 := Lib.hid (Below.refl w.heap.size w)
            clear hl hT
            go_enter Tryd.func24, Tryd.ntmps24
            go_wp2_with fail
            refine (atoi_ok l u _ HL.out HA.out).mono ?_
            rintro e w2 ⟨rfl, hb⟩
            have HBw2 := Lib.hid (HB0.out.trans (hb.mono HB0.out.size))
            clear hb
            go_wp2_with fail
            refine (itoa_small u HU.out _).mono ?_
            rintro e w' ⟨rfl, rfl⟩
            rw [C5.out]
            go_wp2_with fail
            go_ret2
            exact ⟨by rw [EV.out]; rfl, HBw2.out⟩
        · have EV := Lib.hid (nmV_none (l := l) (by
            cases h : nm l with
            | none => rfl
            | some v =>
              have h2 := HN.out v h
              obtain rfl : u = v := by omega
              exact absurd (nm_iff.1 h).1.symm c5))
          obtain ⟨T, hT2⟩ : ∃ T, Lib.decDigits u = T := ⟨_, rfl⟩
          rw [hT2] at c5
          have HT2 := Lib.hid hT2
          have c6 : (T == l) = false := beq_eq_false_iff_ne.2 c5
          clear hA c2 hu1 c5 hT2
          have HL := Lib.hid hl
          have HT := Lib.hid hT
          have HB0 := Lib.hid (Below.refl w.heap.size w)
          clear hl hT
          go_enter Tryd.func24, Tryd.ntmps24
          go_wp2_with fail
          refine (atoi_ok l u _ HL.out HA.out).mono ?_
          rintro e w2 ⟨rfl, hb⟩
          have HBw2 := Lib.hid (HB0.out.trans (hb.mono HB0.out.size))
          clear hb
          go_wp2_with fail
          refine (itoa_small u HU.out _).mono ?_
          rintro e w' ⟨rfl, rfl⟩
          rw [HT2.out]
          go_wp2_with fail
          go_ret2
          exact ⟨by rw [EV.out]; rfl, HBw2.out⟩
  · have EV := Lib.hid (nmV_none (l := l) (by
      cases h : nm l with
      | none => rfl
      | some u => exact absurd ⟨_, nm_atoi h⟩ hA))
    have HA := Lib.hid (show ∀ n, Lib.atoiAll l ≠ .ok n from fun n h => hA ⟨n, h⟩)
    clear hA
    have HL := Lib.hid hl
    have HT := Lib.hid hT
    have HB0 := Lib.hid (Below.refl w.heap.size w)
    clear hl hT
    go_enter Tryd.func24, Tryd.ntmps24
    go_wp2_with fail
    refine (atoi_bad l _ HL.out HA.out HT.out).mono ?_
    rintro e w2 ⟨k, p, rfl, hb⟩
    have HB2 := Lib.hid hb
    clear hb
    go_wp2_with fail
    go_ret2
    exact ⟨by rw [EV.out]; rfl, HB2.out⟩
end Go.Proofs.YtmkbfjklhejdnaaDoor
