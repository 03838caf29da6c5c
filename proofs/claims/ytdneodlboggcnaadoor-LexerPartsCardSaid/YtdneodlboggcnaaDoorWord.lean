/-
  THE WALKS of lexer.gap and lexer.word.
-/
import Derived.Test.YtdneodlboggcnaaDoorBuilder
import Derived.Test.YtdneodlboggcnaaDoorLexMath
import Derived.Test.YtdneodlboggcnaaDoorLines
import Derived.Scope
import Derived.WalkMore
import Derived.Deep.Cut
namespace Go.Proofs.YtdneodlboggcnaaDoor
open Go Go.RowKit
/-- up to a quote, and behind it -/
def qs : List UInt8 → Option (List UInt8 × List UInt8)
  | [] => none
  | c :: t => if c = 34 then some ([], t) else (qs t).map fun p => (c :: p.1, p.2)
theorem qs_index : ∀ (l : List UInt8), (Lib.index l [34] = -1 ∧ qs l = none) ∨ ∃ i : Nat, Lib.index l [34] = (i : Int) ∧ qs l = some (l.take i, l.drop (i + 1)) ∧ i < l.length
  | [] => .inl ⟨rfl, rfl⟩
  | b :: l => by
    have ih := qs_index l
    by_cases h : b = 34
    · subst h
      exact .inr ⟨0, by simp [Lib.index], by simp [qs], by simp⟩
    · have hb : ([34] : List UInt8).isPrefixOf (b :: l) = false := by
        simp [List.isPrefixOf]
        exact fun e => h e.symm
      have e : Lib.index (b :: l) [34] = if Lib.index l [34] == -1 then -1 else Lib.index l [34] + 1 := by
        conv => lhs; unfold Lib.index
        rw [hb]
        rfl
      have e2 : qs (b :: l) = (qs l).map fun p => (b :: p.1, p.2) := by
        conv => lhs; unfold qs
        rw [if_neg h]
      rcases ih with ⟨h1, h2⟩ | ⟨i, h1, h2, h3⟩
      · left
        rw [e, e2, h1, h2]
        exact ⟨rfl, rfl⟩
      · right
        refine ⟨i + 1, ?_, ?_, by simp; omega⟩
        · rw [e, h1]
          have : ((i : Int) == -1) = false := by rw [beq_eq_false_iff_ne]; omega
          rw [this]
          simp
        · rw [e2, h2]
          rfl
theorem cut_none {l : List UInt8} (h : qs l = none) : Lib.cut l [34] = (l, [], false) := by
  unfold Lib.cut
  rcases qs_index l with ⟨h1, h2⟩ | ⟨i, h1, h2, h3⟩
  · rw [h1, if_neg (by decide)]
  · rw [h] at h2; cases h2
theorem cut_some {l a b : List UInt8} (h : qs l = some (a, b)) : Lib.cut l [34] = (a, b, true) := by
  unfold Lib.cut
  rcases qs_index l with ⟨h1, h2⟩ | ⟨i, h1, h2, h3⟩
  · rw [h] at h2; cases h2
  · rw [h] at h2
    obtain ⟨rfl, rfl⟩ : a = l.take i ∧ b = l.drop (i + 1) := by simpa using h2
    rw [h1, if_pos (by omega)]
    simp
theorem qs_len {l a b : List UInt8} (h : qs l = some (a, b)) : a.length + b.length + 1 = l.length := by
  rcases qs_index l with ⟨h1, h2⟩ | ⟨i, h1, h2, h3⟩
  · rw [h] at h2; cases h2
  · rw [h] at h2
    obtain ⟨rfl, rfl⟩ : a = l.take i ∧ b = l.drop (i + 1) := by simpa using h2
    simp
    omega
theorem wd_qs : ∀ (a l : List UInt8), wd true a l = match qs l with | none => none | some (x, y) => wd false (a ++ x) y
  | a, [] => rfl
  | a, c :: t => by
    have ih := wd_qs (a ++ [c]) t
    have e : wd true a (c :: t) = if c = 34 then wd false a t else wd true (a ++ [c]) t := by
      conv => lhs; unfold wd
    have e2 : qs (c :: t) = if c = 34 then some ([], t) else (qs t).map fun p => (c :: p.1, p.2) := by
      conv => lhs; unfold qs
    rw [e, e2]
    by_cases h : c = 34
    · rw [if_pos h, if_pos h]
      simp
    · rw [if_neg h, if_neg h, ih]
      cases hq : qs t with
      | none => rfl
      | some p => simp
theorem wd_q {a l : List UInt8} : wd false a (34 :: l) = wd true a l := by
  conv => lhs; unfold wd
  simp [gp]
theorem wd_c {a l : List UInt8} {c : UInt8} (h1 : ¬ (gp c = true ∨ c = 35)) (h2 : c ≠ 34) : wd false a (c :: l) = wd false (a ++ [c]) l := by
  conv => lhs; unfold wd
  rw [if_neg h1, if_neg h2]
theorem wd_stop {a l : List UInt8} {c : UInt8} (h1 : gp c = true ∨ c = 35) : wd false a (c :: l) = some (a, c :: l) := by
  conv => lhs; unfold wd
  rw [if_pos h1]
/-- the cell of the library's variable holds some number -/
def Big (w : World) : Prop := ∃ m, w.cell? ⟨0, 0, none⟩ = some (.int .i64 m)
theorem Big.below {w w' : World} (h : Big w) (hb : Below w.heap.size w w') : Big w' := by
  obtain ⟨m, hm⟩ := h
  exact ⟨m, (hb.cell (block_lt_of_cell hm)).trans hm⟩
theorem gp_contains (c : UInt8) : ([32, 9] : List UInt8).contains c = gp c := by
  unfold gp
  rw [List.contains_cons, List.contains_cons]
  simp
theorem gap_any (c : UInt8) (w : World) : Calls Tryd.prog 29 #[.int .u8 c.toNat] w fun e w' => e = .returned (.bool (gp c)) ∧ w = w' := by
  have hc := Lib.contains_iff_indexByte [32, 9] c
  rw [gp_contains] at hc
  have HC := Lib.hid hc
  clear hc
  go_enter Tryd.func29, Tryd.ntmps29
  go_wp2_with fail
  refine (Tryd.strings_IndexByte ⟨#[32, 9]⟩ (c.toNat : Int) _).mono ?_
  rintro e w' ⟨rfl, rfl⟩
  rw [show Lib.indexByte (⟨#[32, 9]⟩ : ByteArray).data.toList ((c.toNat : Int).toNat.toUInt8) = Lib.indexByte [32, 9] c by simp]
  generalize Lib.indexByte [32, 9] c = ix at *
  go_wp2_with fail
  go_ret
  exact ⟨by rw [HC.out]; rfl, rfl⟩
theorem cut_any (l : List UInt8) (w : World) (hB : Big w) (hl : l.length ≤ 1000) : Calls Tryd.prog 30 #[.string ⟨l.toArray⟩, .string ⟨#[34]⟩] w fun e w' => e = .returned (.tuple #[.string ⟨(Lib.cut l [34]).1.toArray⟩, .string ⟨(Lib.cut l [34]).2.1.toArray⟩, .bool (Lib.cut l [34]).2.2]) ∧ Below w.heap.size w w' := by
  obtain ⟨m, hm⟩ := hB
  refine (Tryd.strings_Cut ⟨l.toArray⟩ ⟨#[34]⟩ m w (by show l.toArray.size < _; simp; omega) hm).mono ?_
  rintro e w' ⟨rfl, n, rfl⟩
  exact ⟨by simp, below_drewN (Below.refl _ _) n⟩
theorem byte0 {l t : List UInt8} {c : UInt8} (h : c :: t = l) (hl : 0 < (⟨l.toArray⟩ : ByteArray).size) : (⟨l.toArray⟩ : ByteArray)[0]'hl = c := by
  subst h
  rfl
theorem ba_drop1 {l t : List UInt8} {c : UInt8} (h : c :: t = l) : (⟨l.toArray⟩ : ByteArray).extract 1 l.length = ⟨t.toArray⟩ := by
  rw [ba_drop, ← h]
  rfl
theorem isb_below {B : Nat} {bs : List Value} {w w' : World} (h : Lib.IsBuilder BT UT B B bs w) (hb : Below w.heap.size w w') : Lib.IsBuilder BT UT B B bs w' := by
  have go : ∀ p, Lib.BuilderAt BT UT B B p bs w → Lib.BuilderAt BT UT B B p bs w' := fun p ⟨hB, v, hk, hown, hne⟩ =>
    ⟨hB, v, (hb.block B (Array.getElem?_eq_some_iff.1 hk).1).trans hk, hown.kept (row := none) ⟨hb.os, hb.tape, hb.output, hb.size, fun k hk _ => hb.block k hk⟩ (by cases hv : v.ownBlock <;> simp), hne⟩
  exact h.elim (fun h => .inl (go _ h)) (fun h => .inr (go _ h))
def strLen : Value → Nat | .string t => t.size | _ => 0
def wordV (s : List UInt8) : Value := match wd false [] s with
  | none => .tuple #[.string ⟨#[]⟩, .string ⟨#[]⟩, .bool false]
  | some (w, r) => .tuple #[.string ⟨w.toArray⟩, .string ⟨r.toArray⟩, .bool true]
set_option maxRecDepth 100000 in
set_option maxHeartbeats 2000000 in
theorem word_any (s : List UInt8) (w : World) (hB : Big w) (hs : s.length ≤ 1000) :
    Calls Tryd.prog 18 #[.string ⟨s.toArray⟩] w fun e w' => e = .returned (wordV s) ∧ Below w.heap.size w w' := by
  have HB := Lib.hid hB
  clear hB
  go_enter Tryd.func18, Tryd.ntmps18
  go_wp2_with fail
  try go_step3
  go_wp2_with fail
  go_step3
  go_wp2_with fail
  go_loopw [0] (fun v0 wr => ∃ a r : List UInt8, v0 = .string ⟨r.toArray⟩ ∧ Lib.IsBuilder BT UT w.heap.size w.heap.size (Lib.byteCells a) wr ∧ Below w.heap.size w wr ∧ wd false [] s = wd false a r ∧ a.length + r.length ≤ 1000) (fun v0 _ => strLen v0)
  case atStart => exact ⟨[], s, rfl, Lib.fresh_isBuilder BT UT w, (Below.refl _ _).alloc (Nat.le_refl _) _, rfl, by simpa using hs⟩
  case round =>
    obtain ⟨a, r, rfl, hI, hBl, hw, hlen⟩ := hrel
    have HI := Lib.hid hI
    have HBl := Lib.hid hBl
    have HW := Lib.hid hw
    have HLn := Lib.hid hlen
    have hsz := hBl.size
    clear hI hBl hw hlen
    cases r with
    | nil =>
      have hV := Lib.hid (show wordV s = .tuple #[.string ⟨a.toArray⟩, .string ⟨#[]⟩, .bool true] by unfold wordV; rw [HW.out]; rfl)
      go_wp2_with fail
      refine (Tryd.Builder_String_any w.heap.size w.heap.size a _ HI.out (by omega)).mono ?_
      rintro e w5 ⟨rfl, hb⟩
      have HB5 := Lib.hid (HBl.out.trans hb)
      clear hb
      go_wp2_with fail
      rw [Exit.noGoto_ret]
      go_ret3
      exact ⟨by rw [hV.out]; rfl, HB5.out⟩
    | cons c t =>
      obtain ⟨l, hl⟩ : ∃ l, c :: t = l := ⟨_, rfl⟩
      have hll : (l.length : Int) = (t.length : Int) + 1 := by rw [← hl]; simp
      have hy := fun q => byte0 hl q
      have hx := ba_drop1 hl
      have c1 : (c.toNat : Int) ≤ 255 := by have := c.toNat_lt; omega
      have c0 : 0 ≤ (c.toNat : Int) := by omega
      have HL := Lib.hid hl
      have hlen := HLn.out
      simp only [List.length_cons] at hlen
      have hn : (l == []) = false := by rw [← hl]; rfl
      rw [hl]
      clear hl
      by_cases hc : gp c = true ∨ c = 35
      · have hV := Lib.hid (show wordV s = .tuple #[.string ⟨a.toArray⟩, .string ⟨l.toArray⟩, .bool true] by unfold wordV; rw [HW.out, wd_stop hc, HL.out])
        go_wp2_with fail
        refine (gap_any c _).mono ?_
        rintro e w9 ⟨rfl, rfl⟩
        by_cases hg : gp c = true
        · rw [hg]
          clear hc hg
          go_wp2_with fail
          refine (Tryd.Builder_String_any w.heap.size w.heap.size a _ HI.out (by omega)).mono ?_
          rintro e w5 ⟨rfl, hb⟩
          have HB5 := Lib.hid (HBl.out.trans hb)
          clear hb
          go_wp2_with fail
          rw [Exit.noGoto_ret]
          go_ret3
          exact ⟨by rw [hV.out]; rfl, HB5.out⟩
        · have hg2 : gp c = false := by simpa using hg
          have h35 : c = 35 := by rcases hc with h | h; exact absurd h hg; exact h
          have q35 : ((c.toNat : Int) == 35) = true := by rw [h35]; rfl
          rw [hg2]
          clear hc hg hg2 h35
          go_wp2_with fail
          refine (Tryd.Builder_String_any w.heap.size w.heap.size a _ HI.out (by omega)).mono ?_
          rintro e w5 ⟨rfl, hb⟩
          have HB5 := Lib.hid (HBl.out.trans hb)
          clear hb
          go_wp2_with fail
          rw [Exit.noGoto_ret]
          go_ret3
          exact ⟨by rw [hV.out]; rfl, HB5.out⟩
      · have hg2 : gp c = false := by simpa using fun h => hc (.inl h)
        have h35 : c ≠ 35 := fun h => hc (.inr h)
        have q35 : ((c.toNat : Int) == 35) = false := by
          rw [beq_eq_false_iff_ne]
          intro h
          exact h35 (UInt8.toNat_inj.1 (by show c.toNat = 35; omega))
        have HC := Lib.hid hc
        clear hc h35
        go_wp2_with fail
        refine (gap_any c _).mono ?_
        rintro e w9 ⟨rfl, rfl⟩
        rw [hg2]
        clear hg2
        by_cases h34 : c = 34
        · have q34 : ((c.toNat : Int) == 34) = true := by rw [h34]; rfl
          have HW2 := Lib.hid (show wd false [] s = wd true a t by rw [HW.out, h34, wd_q])
          clear h34
          go_wp2_with fail
          refine (cut_any t _ (HB.out.below HBl.out) (by omega)).mono ?_
          rintro e W2 ⟨rfl, hb2⟩
          have HI2 := Lib.hid (isb_below HI.out hb2)
          have HB2 := Lib.hid (HBl.out.trans (hb2.mono (by omega)))
          have hsz2 := hb2.size
          clear hb2
          cases hq : qs t with
          | none =>
            have hV := Lib.hid (show wordV s = .tuple #[.string ⟨#[]⟩, .string ⟨#[]⟩, .bool false] by unfold wordV; rw [HW2.out, wd_qs, hq])
            rw [cut_none hq]
            clear hq
            go_wp2_with fail
            rw [Exit.noGoto_ret]
            go_ret3
            exact ⟨by rw [hV.out]; rfl, HB2.out⟩
          | some p =>
            obtain ⟨x, y⟩ := p
            have hxl := qs_len hq
            have HW3 := Lib.hid (show wd false [] s = wd false (a ++ x) y by rw [HW2.out, wd_qs, hq])
            rw [cut_some hq]
            clear hq
            have hxs : (⟨x.toArray⟩ : ByteArray).size = x.length := by show x.toArray.size = _; simp
            go_wp2_with fail
            refine (wstring w.heap.size w.heap.size _ ⟨x.toArray⟩ _ HI2.out (by rw [Lib.byteCells_length]; omega) (by omega)).mono ?_
            rintro e W3 ⟨rfl, h3, hb3⟩
            have HB3 := Lib.hid (HB2.out.trans hb3)
            have HI3 := Lib.hid h3
            clear hb3 h3
            go_wp2_with fail
            go_roundw
            case rel => exact ⟨a ++ x, y, rfl, .inr (by rw [show Lib.byteCells (a ++ x) = Lib.byteCells a ++ Lib.strCells ⟨x.toArray⟩ by simp [Lib.byteCells, Lib.strCells]]; exact HI3.out), HB3.out, HW3.out, by simp; omega⟩
            case measure => simp [strLen, ByteArray.size]; omega
        · have q34 : ((c.toNat : Int) == 34) = false := by
            rw [beq_eq_false_iff_ne]
            intro h
            exact h34 (UInt8.toNat_inj.1 (by show c.toNat = 34; omega))
          have HW2 := Lib.hid (show wd false [] s = wd false (a ++ [c]) t by rw [HW.out, wd_c HC.out h34])
          clear h34
          go_wp2_with fail
          refine (wbyte w.heap.size w.heap.size _ _ _ HI.out (by rw [Lib.byteCells_length]; omega) (by omega)).mono ?_
          rintro e W3 ⟨rfl, h3, hb3⟩
          have HB3 := Lib.hid (HBl.out.trans hb3)
          have HI3 := Lib.hid h3
          clear hb3 h3
          go_wp2_with fail
          go_roundw
          case rel => exact ⟨a ++ [c], t, rfl, .inr (by rw [show Lib.byteCells (a ++ [c]) = Lib.byteCells a ++ [.int .u8 c.toNat] by simp [Lib.byteCells]]; exact HI3.out), HB3.out, HW2.out, by simp; omega⟩
          case measure => simp [strLen, ByteArray.size]; omega
end Go.Proofs.YtdneodlboggcnaaDoor
