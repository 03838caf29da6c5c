/-
  THE WALKS of Show: the program's and the document's.
-/
import Derived.Test.YtakpbgjmblbaiaaDoorRKind
namespace AbbM
open Go
theorem kind_parts {l : List UInt8} {k : Int} {p : Nat} (h : kindOf l = (k, p)) (hk : 1 ≤ k) : ∃ c t, l = l.takeWhile ltr ++ c :: t ∧ (l.takeWhile ltr).all ltr = true ∧ p = (l.takeWhile ltr).length ∧ ((k = 3 ∧ c = 47) ∨ (k = 1 ∧ c = 37 ∧ t.head? = some 115) ∨ (k = 2 ∧ c = 37 ∧ t.head? = some 122)) := by
  by_cases h0 : l.length = 0 ∨ 64 < l.length
  · rw [kind_none l h0] at h; cases h; omega
  · rcases parts l with ⟨_, h2⟩ | ⟨c, t, hd, hc, hl, ha⟩
    · unfold kindOf at h; rw [if_neg h0, h2] at h; cases h; omega
    · rw [kind_split h0 hd] at h
      refine ⟨c, t, hl, ha, ?_⟩
      by_cases ht : t.all ltr = true
      · rw [if_pos ht] at h
        by_cases a : c = 47 ∧ l.takeWhile ltr ≠ [] ∧ t ≠ []
        · rw [if_pos a] at h; cases h; exact ⟨rfl, .inl ⟨rfl, a.1⟩⟩
        · rw [if_neg a] at h
          by_cases b : c = 37 ∧ t.head? = some 115
          · rw [if_pos b] at h; cases h; exact ⟨rfl, .inr (.inl ⟨rfl, b⟩)⟩
          · rw [if_neg b] at h
            by_cases d : c = 37 ∧ t.head? = some 122
            · rw [if_pos d] at h; cases h; exact ⟨rfl, .inr (.inr ⟨rfl, d⟩)⟩
            · rw [if_neg d] at h; cases h; omega
      · rw [if_neg ht] at h; cases h; omega
theorem ix_mark {l : List UInt8} {k : Int} {p : Nat} {y : UInt8} (h : kindOf l = (k, p)) (hy : y = 115 ∧ k = 1 ∨ y = 122 ∧ k = 2) : Lib.index l [37, y] = (p : Int) := by
  obtain ⟨c, t, hl, ha, rfl, hc⟩ := kind_parts h (by omega)
  have : c = 37 ∧ t.head? = some y := by
    rcases hy with ⟨rfl, rfl⟩ | ⟨rfl, rfl⟩
    · rcases hc with ⟨h, _⟩ | ⟨_, h2⟩ | ⟨h, _⟩
      · omega
      · exact h2
      · omega
    · rcases hc with ⟨h, _⟩ | ⟨h, _⟩ | ⟨_, h2⟩
      · omega
      · omega
      · exact h2
  obtain ⟨rfl, h2⟩ := this
  have := occ_here (a := l.takeWhile ltr) (c := 37) (t := t) (x := 37) (xs := [y]) ha (by decide) (by
    cases t with
    | nil => cases h2
    | cons z t => cases h2; simp)
  rwa [← hl] at this
theorem ix_slash {l : List UInt8} {p : Nat} (h : kindOf l = (3, p)) : Lib.index l [47] = (p : Int) := by
  obtain ⟨c, t, hl, ha, rfl, hc⟩ := kind_parts h (by decide)
  have : c = 47 := by
    rcases hc with ⟨_, h2⟩ | ⟨h, _⟩ | ⟨h, _⟩
    · exact h2
    · omega
    · omega
  subst this
  have := occ_here (a := l.takeWhile ltr) (c := 47) (t := t) (x := 47) (xs := []) ha (by decide) (by simp)
  rwa [← hl] at this
theorem rep_any {l sub new : List UInt8} {i : Nat} (hs : sub ≠ []) (h : Lib.index l sub = i) : Lib.replace l sub new 1 = l.take i ++ new ++ l.drop (i + sub.length) := by
  by_cases hne : sub = new
  · subst hne
    unfold Lib.replace
    rw [if_pos (by simp)]
    rcases Lib.index_spec l sub with ⟨h1, _⟩ | ⟨j, h1, h2, h3, _⟩
    · omega
    · obtain rfl : j = i := by omega
      unfold Lib.occAt at h3
      obtain ⟨r, hr⟩ := List.isPrefixOf_iff_prefix.1 h3
      have hd : l.drop (j + sub.length) = r := by rw [← List.drop_drop, ← hr, List.drop_left]
      rw [hd, List.append_assoc, hr, List.take_append_drop]
  · exact rep_one hs hne h
theorem cut_at {l : List UInt8} {i : Nat} (h : Lib.index l [47] = (i : Int)) : Lib.cut l [47] = (l.take i, l.drop (i + 1), true) := by
  unfold Lib.cut
  rw [if_pos (by omega), h]
  rfl
end AbbM
namespace Go.Proofs.YtakpbgjmblbaiaaDoor
open Go Go.RowKit AbbM
/-- what Show answers: the text, and the error -/
def showS (l : List UInt8) (off : Int) (dst : Bool) (t : List UInt8) : List UInt8 :=
  if (kindOf l).1 = 0 then l else if (kindOf l).1 = 1 then l.take (kindOf l).2 ++ (t ++ l.drop ((kindOf l).2 + 2))
  else if (kindOf l).1 = 2 then (if -360000 < off ∧ off < 360000 then l.take (kindOf l).2 ++ (offText off ++ l.drop ((kindOf l).2 + 2)) else [])
  else if (kindOf l).1 = 3 then (if dst = true then l.drop ((kindOf l).2 + 1) else l.take (kindOf l).2) else []
def showE (l : List UInt8) (off : Int) : Int :=
  if (kindOf l).1 = -1 then 12 else if (kindOf l).1 = 2 ∧ ¬ (-360000 < off ∧ off < 360000) then 10 else 0
def showV (l : List UInt8) (off : Int) (dst : Bool) (t : List UInt8) : Value := .tuple #[.string ⟨(showS l off dst t).toArray⟩, .int .i64 (showE l off)]
theorem kind_cases (l : List UInt8) : kindOf l = (-1, 0) ∨ kindOf l = (0, 0) ∨ (∃ p, kindOf l = (1, p)) ∨ (∃ p, kindOf l = (2, p)) ∨ (∃ p, kindOf l = (3, p)) := by
  unfold kindOf
  split
  · exact .inl rfl
  · split
    · exact .inr (.inl rfl)
    · split
      · split
        · exact .inr (.inr (.inr (.inr ⟨_, rfl⟩)))
        · split
          · exact .inr (.inr (.inl ⟨_, rfl⟩))
          · split
            · exact .inr (.inr (.inr (.inl ⟨_, rfl⟩)))
            · exact .inl rfl
      · exact .inl rfl
theorem cut_any (s sub : List UInt8) (w : World) (hB : Big w) (hs : s.length ≤ 1000) :
    Calls Tryd.prog 24 #[.string ⟨s.toArray⟩, .string ⟨sub.toArray⟩] w fun e w' => e = .returned (.tuple #[.string ⟨(Lib.cut s sub).1.toArray⟩, .string ⟨(Lib.cut s sub).2.1.toArray⟩, .bool (Lib.cut s sub).2.2]) ∧ Below w.heap.size w w' := by
  obtain ⟨m, hm⟩ := hB
  exact (Tryd.strings_Cut ⟨s.toArray⟩ ⟨sub.toArray⟩ m w (by show s.toArray.size < _; simp; omega) hm).mono fun e w' ⟨h1, n, h2⟩ => ⟨h1, h2 ▸ below_drewN (Below.refl _ _) n⟩
theorem off_len (off : Int) : (offText off).length ≤ 1000 := by
  unfold offText otext two
  split <;> (repeat' split) <;> simp
theorem show_any (l : List UInt8) (off : Int) (dst : Bool) (t : List UInt8) (w : World) (hB : Big w) (hl : l.length ≤ 1000) (ht : t.length ≤ 1000) :
    Calls Tryd.prog 13 #[.string ⟨l.toArray⟩, .int .i64 off, .bool dst, .string ⟨t.toArray⟩] w fun e w' => e = .returned (showV l off dst t) ∧ Below w.heap.size w w' := by
  rcases kind_cases l with hK | hK | ⟨p, hK⟩ | ⟨p, hK⟩ | ⟨p, hK⟩
  ·
    have EV := Lib.hid (show showV l off dst t = .tuple #[.string ⟨([] : List UInt8).toArray⟩, .int .i64 12] by unfold showV showS showE; rw [hK]; simp )
    have HBg := Lib.hid hB
    have HL := Lib.hid hl
    have HT := Lib.hid ht
    have HBw := Lib.hid (Below.refl w.heap.size w)
    have HK := Lib.hid hK
    clear hB hl ht hK
    go_enter Tryd.func13, Tryd.ntmps13
    go_wp2_with fail
    refine (kind_any l _ HBg.out HL.out).mono ?_
    rintro e w1 ⟨rfl, hb⟩
    have HBw1 := Lib.hid (HBw.out.trans (hb.mono HBw.out.size))
    clear hb
    rw [kret_no HK.out]
    go_wp2_with fail
    go_ret2
    exact ⟨by rw [EV.out]; rfl, HBw1.out⟩
  ·
    have EV := Lib.hid (show showV l off dst t = .tuple #[.string ⟨(l : List UInt8).toArray⟩, .int .i64 0] by unfold showV showS showE; rw [hK]; simp )
    have HBg := Lib.hid hB
    have HL := Lib.hid hl
    have HT := Lib.hid ht
    have HBw := Lib.hid (Below.refl w.heap.size w)
    have HK := Lib.hid hK
    clear hB hl ht hK
    go_enter Tryd.func13, Tryd.ntmps13
    go_wp2_with fail
    refine (kind_any l _ HBg.out HL.out).mono ?_
    rintro e w1 ⟨rfl, hb⟩
    have HBw1 := Lib.hid (HBw.out.trans (hb.mono HBw.out.size))
    clear hb
    rw [kret_ok HK.out (by decide)]
    go_wp2_with fail
    go_ret2
    exact ⟨by rw [EV.out]; rfl, HBw1.out⟩
  ·
    have EV := Lib.hid (show showV l off dst t = .tuple #[.string ⟨(l.take p ++ (t ++ l.drop (p + 2)) : List UInt8).toArray⟩, .int .i64 0] by unfold showV showS showE; rw [hK]; simp )
    have HBg := Lib.hid hB
    have HL := Lib.hid hl
    have HT := Lib.hid ht
    have HBw := Lib.hid (Below.refl w.heap.size w)
    have HK := Lib.hid hK
    clear hB hl ht hK
    go_enter Tryd.func13, Tryd.ntmps13
    go_wp2_with fail
    refine (kind_any l _ HBg.out HL.out).mono ?_
    rintro e w1 ⟨rfl, hb⟩
    have HBw1 := Lib.hid (HBw.out.trans (hb.mono HBw.out.size))
    clear hb
    rw [kret_ok HK.out (by decide)]
    go_wp2_with fail
    refine (replace_any l [37, 115] t _ (HBg.out.below HBw1.out) HL.out (by decide) HT.out).mono ?_
    rintro e w2 ⟨rfl, hb⟩
    have HBw2 := Lib.hid (HBw1.out.trans (hb.mono HBw1.out.size))
    clear hb
    rw [rep_any (by simp) (ix_mark HK.out (.inl ⟨rfl, rfl⟩))]
    go_wp2_with fail
    go_ret2
    exact ⟨by rw [EV.out]; rfl, HBw2.out⟩
  · by_cases ho : -360000 < off ∧ off < 360000
    ·
      have EV := Lib.hid (show showV l off dst t = .tuple #[.string ⟨(l.take p ++ (offText off ++ l.drop (p + 2)) : List UInt8).toArray⟩, .int .i64 0] by unfold showV showS showE; rw [hK]; simp [ho])
      have HBg := Lib.hid hB
      have HL := Lib.hid hl
      have HT := Lib.hid ht
      have HBw := Lib.hid (Below.refl w.heap.size w)
      have HK := Lib.hid hK
      clear hB hl ht hK
      go_enter Tryd.func13, Tryd.ntmps13
      go_wp2_with fail
      refine (kind_any l _ HBg.out HL.out).mono ?_
      rintro e w1 ⟨rfl, hb⟩
      have HBw1 := Lib.hid (HBw.out.trans (hb.mono HBw.out.size))
      clear hb
      obtain ⟨o1, o2⟩ := ho
      have OL := Lib.hid (off_len off)
      rw [kret_ok HK.out (by decide)]
      go_wp2_with fail
      refine (offset_ok off _ o1 o2).mono ?_
      rintro e w2 ⟨rfl, hb⟩
      have HBw2 := Lib.hid (HBw1.out.trans (hb.mono HBw1.out.size))
      clear hb
      go_wp2_with fail
      refine (replace_any l [37, 122] (offText off) _ (HBg.out.below HBw2.out) HL.out (by decide) OL.out).mono ?_
      rintro e w3 ⟨rfl, hb⟩
      have HBw3 := Lib.hid (HBw2.out.trans (hb.mono HBw2.out.size))
      clear hb
      rw [rep_any (by simp) (ix_mark HK.out (.inr ⟨rfl, rfl⟩))]
      go_wp2_with fail
      go_ret2
      exact ⟨by rw [EV.out]; rfl, HBw3.out⟩
    ·
      have EV := Lib.hid (show showV l off dst t = .tuple #[.string ⟨([] : List UInt8).toArray⟩, .int .i64 10] by unfold showV showS showE; rw [hK]; simp [ho])
      have HBg := Lib.hid hB
      have HL := Lib.hid hl
      have HT := Lib.hid ht
      have HBw := Lib.hid (Below.refl w.heap.size w)
      have HK := Lib.hid hK
      clear hB hl ht hK
      go_enter Tryd.func13, Tryd.ntmps13
      go_wp2_with fail
      refine (kind_any l _ HBg.out HL.out).mono ?_
      rintro e w1 ⟨rfl, hb⟩
      have HBw1 := Lib.hid (HBw.out.trans (hb.mono HBw.out.size))
      clear hb
      have HO := Lib.hid ho
      clear ho
      rw [kret_ok HK.out (by decide)]
      go_wp2_with fail
      refine (offset_no off _ HO.out).mono ?_
      rintro e w2 ⟨rfl, hb⟩
      have HBw2 := Lib.hid (HBw1.out.trans (hb.mono HBw1.out.size))
      clear hb
      go_wp2_with fail
      go_ret2
      exact ⟨by rw [EV.out]; rfl, HBw2.out⟩
  · cases dst with
    | true =>
      have EV := Lib.hid (show showV l off true t = .tuple #[.string ⟨(l.drop (p + 1) : List UInt8).toArray⟩, .int .i64 0] by unfold showV showS showE; rw [hK]; simp)
      have HBg := Lib.hid hB
      have HL := Lib.hid hl
      have HT := Lib.hid ht
      have HBw := Lib.hid (Below.refl w.heap.size w)
      have HK := Lib.hid hK
      clear hB hl ht hK
      go_enter Tryd.func13, Tryd.ntmps13
      go_wp2_with fail
      refine (kind_any l _ HBg.out HL.out).mono ?_
      rintro e w1 ⟨rfl, hb⟩
      have HBw1 := Lib.hid (HBw.out.trans (hb.mono HBw.out.size))
      clear hb
      rw [kret_ok HK.out (by decide)]
      go_wp2_with fail
      refine (cut_any l [47] _ (HBg.out.below HBw1.out) HL.out).mono ?_
      rintro e w2 ⟨rfl, hb⟩
      have HBw2 := Lib.hid (HBw1.out.trans (hb.mono HBw1.out.size))
      clear hb
      rw [cut_at (ix_slash HK.out)]
      go_wp2_with fail
      go_ret2
      exact ⟨by rw [EV.out]; rfl, HBw2.out⟩
    | false =>
      have EV := Lib.hid (show showV l off false t = .tuple #[.string ⟨(l.take p : List UInt8).toArray⟩, .int .i64 0] by unfold showV showS showE; rw [hK]; simp)
      have HBg := Lib.hid hB
      have HL := Lib.hid hl
      have HT := Lib.hid ht
      have HBw := Lib.hid (Below.refl w.heap.size w)
      have HK := Lib.hid hK
      clear hB hl ht hK
      go_enter Tryd.func13, Tryd.ntmps13
      go_wp2_with fail
      refine (kind_any l _ HBg.out HL.out).mono ?_
      rintro e w1 ⟨rfl, hb⟩
      have HBw1 := Lib.hid (HBw.out.trans (hb.mono HBw.out.size))
      clear hb
      rw [kret_ok HK.out (by decide)]
      go_wp2_with fail
      refine (cut_any l [47] _ (HBg.out.below HBw1.out) HL.out).mono ?_
      rintro e w2 ⟨rfl, hb⟩
      have HBw2 := Lib.hid (HBw1.out.trans (hb.mono HBw1.out.size))
      clear hb
      rw [cut_at (ix_slash HK.out)]
      go_wp2_with fail
      go_ret2
      exact ⟨by rw [EV.out]; rfl, HBw2.out⟩
end Go.Proofs.YtakpbgjmblbaiaaDoor
