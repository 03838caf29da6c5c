/-
  THE WALK of clock.digits.
-/
import Derived.Test.YtbejbagpdjfgmaaDoorSplit
import Derived.Shelf.Strings.SlTrimAscii
import Derived.Lib.AtoiTie
import Derived.Lib.AppendIntMem
namespace Go.Proofs.YtbejbagpdjfgmaaDoor
open Go Go.RowKit
abbrev LD : List UInt8 := [48, 49, 50, 51, 52, 53, 54, 55, 56, 57]
theorem trim_any (s : List UInt8) (w : World) (hs : s.length ≤ 1000) :
    Calls Tryd.prog 57 #[.string ⟨s.toArray⟩, .string ⟨LD.toArray⟩] w fun e w' => e = .returned (.string ⟨(Lib.trimS s LD).toArray⟩) ∧ Below w.heap.size w w' :=
  Any.strings_Trim_laid Tryd.lays160 (by kernel_rfl) ⟨s.toArray⟩ ⟨LD.toArray⟩ w (by show s.toArray.size ≤ _; simp; omega) (by show LD.toArray.size < _; decide) (Go.Proofs.ascii_of_all (by decide +kernel))
def IfcAt (w : World) (b : Nat) : Prop := ∃ ev, w.cell? ⟨b, 0, none⟩ = some ev ∧ (ev = .nilIface ∨ ∃ te pe, ev = .iface te pe)
/-- what Atoi reads -/
def Txt (w : World) : Prop := IfcAt w 6 ∧ IfcAt w 7
theorem IfcAt.below {w w' : World} {b : Nat} (h : IfcAt w b) (hb : Below w.heap.size w w') : IfcAt w' b := by
  obtain ⟨ev, h1, h2⟩ := h
  exact ⟨ev, (hb.cell (p := ⟨b, 0, none⟩) (block_lt_of_cell h1)).trans h1, h2⟩
theorem Txt.below {w w' : World} (h : Txt w) (hb : Below w.heap.size w w') : Txt w' := ⟨h.1.below hb, h.2.below hb⟩
theorem atoi_ok (l : List UInt8) (n : Int) (w : World) (hl : l.length ≤ 1000) (h : Lib.atoiAll l = .ok n) :
    Calls Tryd.prog 58 #[.string ⟨l.toArray⟩] w fun e w' => e = .returned (.tuple #[.int .i64 n, .nilIface]) ∧ Below w.heap.size w w' := by
  refine (Tryd.strconv_Atoi_ok ⟨l.toArray⟩ (by show l.toArray.size ≤ _; simp; omega) n (by simpa using h) w).mono ?_
  rintro e w' ⟨rfl, h1 | ⟨t, h1⟩⟩
  · exact ⟨rfl, by rw [h1]; exact Below.refl _ _⟩
  · exact ⟨rfl, by rw [h1]; exact Lib.bytesWorld_below _ _ _⟩
abbrev errT : Nat := 114
theorem atoi_bad (l : List UInt8) (w : World) (hl : l.length ≤ 1000) (h : ∀ n, Lib.atoiAll l ≠ .ok n) (hT : Txt w) :
    Calls Tryd.prog 58 #[.string ⟨l.toArray⟩] w fun e w' => ∃ (k : Int) (p : Addr), e = .returned (.tuple #[.int .i64 k, .iface 114 (.pointer (some p))]) ∧ Below w.heap.size w w' := by
  obtain ⟨⟨ev, s1, s2⟩, ⟨er, r1, r2⟩⟩ := hT
  match hA : Lib.atoiAll l with
  | .ok n => exact absurd hA (h n)
  | .«syntax» =>
    refine (Tryd.strconv_Atoi_syntax ⟨l.toArray⟩ (by show l.toArray.size ≤ _; simp; omega) (by simpa using hA) ev w s1 s2).mono ?_
    rintro e w' ⟨N, rfl, _, _, hb⟩
    exact ⟨_, _, rfl, hb⟩
  | .range =>
    refine (Tryd.strconv_Atoi_range ⟨l.toArray⟩ (by show l.toArray.size ≤ _; simp; omega) (by simpa using hA) er w r1 r2).mono ?_
    rintro e w' ⟨N, rfl, _, _, hb⟩
    exact ⟨_, _, rfl, hb⟩
/-- the number that digits are -/
def dgN (l : List UInt8) : Option Int := if l = [] ∨ Lib.trimS l LD ≠ [] then none else match Lib.atoiAll l with | .ok n => some n | _ => none
theorem empty_no {l : List UInt8} (h : l ≠ []) : (l == []) = false := beq_eq_false_iff_ne.2 h
set_option maxRecDepth 100000 in
set_option maxHeartbeats 2000000 in
theorem digits_ok (l : List UInt8) (n : Int) (w : World) (hl : l.length ≤ 1000) (h : dgN l = some n) :
    Calls Tryd.prog 50 #[.string ⟨l.toArray⟩] w fun e w' => e = .returned (.tuple #[.int .i64 n, .bool true]) ∧ Below w.heap.size w w' := by
  unfold dgN at h
  split at h
  · cases h
  · rename_i hc
    have h1 : l ≠ [] := fun e => hc (.inl e)
    have h2 : Lib.trimS l LD = [] := Decidable.byContradiction fun e => hc (.inr e)
    have h3 : Lib.atoiAll l = .ok n := by
      split at h
      · rename_i m hm
        cases h
        exact hm
      · cases h
    have HL := Lib.hid hl
    have H2 := Lib.hid h2
    have H3 := Lib.hid h3
    have HB0 := Lib.hid (Below.refl w.heap.size w)
    have e1 := empty_no h1
    have e2 : l.isEmpty = false := by cases l with | nil => exact absurd rfl h1 | cons _ _ => rfl
    clear h hc h1 h2 h3 hl
    go_enter Tryd.func50, Tryd.ntmps50
    go_wp2_with fail
    refine (trim_any l _ HL.out).mono ?_
    rintro e w1 ⟨rfl, hb⟩
    rw [H2.out]
    have HB1 := Lib.hid hb
    clear hb
    go_wp2_with fail
    refine (atoi_ok l n _ HL.out H3.out).mono ?_
    rintro e w2 ⟨rfl, hb⟩
    have HB2 := Lib.hid (HB1.out.trans (hb.mono HB1.out.size))
    clear hb
    go_wp2_with fail
    go_region
    go_wp2_with fail
    go_ret2
    exact ⟨rfl, HB2.out.drew⟩
set_option maxRecDepth 100000 in
set_option maxHeartbeats 2000000 in
theorem digits_no (l : List UInt8) (w : World) (hl : l.length ≤ 1000) (hT : Txt w) (h : dgN l = none) :
    Calls Tryd.prog 50 #[.string ⟨l.toArray⟩] w fun e w' => ∃ k, e = .returned (.tuple #[.int .i64 k, .bool false]) ∧ Below w.heap.size w w' := by
  have HL := Lib.hid hl
  have HT := Lib.hid hT
  have HB0 := Lib.hid (Below.refl w.heap.size w)
  clear hl hT
  by_cases h1 : l = []
  · subst h1
    clear h
    go_enter Tryd.func50, Tryd.ntmps50
    go_wp2_with fail
    go_ret2
    exact ⟨_, rfl, HB0.out⟩
  · have e1 := empty_no h1
    have e2 : l.isEmpty = false := by cases l with | nil => exact absurd rfl h1 | cons _ _ => rfl
    by_cases h2 : Lib.trimS l LD = []
    · have h3 : ∀ n, Lib.atoiAll l ≠ .ok n := by
        intro n hn
        unfold dgN at h
        rw [if_neg (by rintro (q | q); exact h1 q; exact q h2), hn] at h
        cases h
      have H2 := Lib.hid h2
      have H3 := Lib.hid h3
      clear h h1 h2 h3
      go_enter Tryd.func50, Tryd.ntmps50
      go_wp2_with fail
      refine (trim_any l _ HL.out).mono ?_
      rintro e w1 ⟨rfl, hb⟩
      rw [H2.out]
      have HB1 := Lib.hid hb
      clear hb
      go_wp2_with fail
      refine (atoi_bad l _ HL.out H3.out (HT.out.below HB1.out)).mono ?_
      rintro e w2 ⟨k, p, rfl, hb⟩
      have HB2 := Lib.hid (HB1.out.trans (hb.mono HB1.out.size))
      clear hb
      go_wp2_with fail
      go_region
      go_wp2_with fail
      go_ret2
      exact ⟨_, rfl, HB2.out.drew⟩
    · obtain ⟨T, hT⟩ : ∃ T, Lib.trimS l LD = T := ⟨_, rfl⟩
      rw [hT] at h2
      have H2 := Lib.hid hT
      have e3 := empty_no h2
      have e4 : T.isEmpty = false := by cases T with | nil => exact absurd rfl h2 | cons _ _ => rfl
      clear h h1 h2 hT
      go_enter Tryd.func50, Tryd.ntmps50
      go_wp2_with fail
      refine (trim_any l _ HL.out).mono ?_
      rintro e w1 ⟨rfl, hb⟩
      rw [H2.out]
      have HB1 := Lib.hid hb
      clear hb
      go_wp2_with fail
      go_ret2
      exact ⟨_, rfl, HB1.out⟩
end Go.Proofs.YtbejbagpdjfgmaaDoor
