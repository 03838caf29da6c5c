/-
  THE WALK of abbr.Kind.
-/
import Derived.Test.YtakpbgjmblbaiaaDoorOff
import Derived.Test.YtakpbgjmblbaiaaDoorAbbMath
import Derived.Test.YtakpbgjmblbaiaaDoorShelf
import Derived.Shelf.Strings.SlTrimAscii
namespace Go.Proofs.YtakpbgjmblbaiaaDoor
open Go Go.RowKit AbbM

/-- the cell of the library's variable holds some number -/
def Big (w : World) : Prop := ∃ m, w.cell? ⟨0, 0, none⟩ = some (.int .i64 m)
theorem Big.below {w w' : World} (h : Big w) (hb : Below w.heap.size w w') : Big w' := by
  obtain ⟨m, hm⟩ := h
  exact ⟨m, (hb.cell (block_lt_of_cell hm)).trans hm⟩
theorem contains_any (s sub : List UInt8) (w : World) (hB : Big w) (hs : s.length ≤ 1000) :
    Calls Tryd.prog 20 #[.string ⟨s.toArray⟩, .string ⟨sub.toArray⟩] w fun e w' => e = .returned (.bool (Lib.contains s sub)) ∧ w = w' := by
  obtain ⟨m, hm⟩ := hB
  exact (Tryd.strings_Contains ⟨s.toArray⟩ ⟨sub.toArray⟩ m w (by show s.toArray.size < _; simp; omega) hm).mono fun e w' ⟨h1, h2⟩ => ⟨h1, h2.symm⟩
theorem replace_any (s sub new : List UInt8) (w : World) (hB : Big w) (hs : s.length ≤ 1000) (h1 : 1 ≤ sub.length) (hn : new.length ≤ 1000) :
    Calls Tryd.prog 21 #[.string ⟨s.toArray⟩, .string ⟨sub.toArray⟩, .string ⟨new.toArray⟩, .int .i64 1] w fun e w' => e = .returned (.string ⟨(Lib.replace s sub new 1).toArray⟩) ∧ Below w.heap.size w w' := by
  obtain ⟨m, hm⟩ := hB
  refine Tryd.strings_Replace ⟨s.toArray⟩ ⟨sub.toArray⟩ ⟨new.toArray⟩ 1 m w (by show s.toArray.size < _; simp; omega) hm (by show 1 ≤ sub.toArray.size; simpa using h1) ?_
  have hc : Lib.countB ⟨s.toArray⟩ ⟨sub.toArray⟩ ≤ s.length + 1 := Lib.count_le s sub
  have : Lib.countB ⟨s.toArray⟩ ⟨sub.toArray⟩ * new.length ≤ 1001 * 1000 := Nat.mul_le_mul (by omega) hn
  show s.toArray.size + _ * new.toArray.size ≤ _
  simp only [List.size_toArray]
  omega
theorem trim_any (s : List UInt8) (w : World) (hs : s.length ≤ 1000000) :
    Calls Tryd.prog 22 #[.string ⟨s.toArray⟩, .string ⟨LT.toArray⟩] w fun e w' => e = .returned (.string ⟨(Lib.trimS s LT).toArray⟩) ∧ Below w.heap.size w w' :=
  Any.strings_Trim_laid Tryd.lays160 (by kernel_rfl) ⟨s.toArray⟩ ⟨LT.toArray⟩ w (by show s.toArray.size ≤ _; simp; omega) (by show LT.toArray.size < _; decide) (Go.Proofs.ascii_of_all (by decide +kernel))
/-- what abbr.Kind answers -/
def kret (l : List UInt8) : Value := .tuple (if (kindOf l).1 = -1 then #[.int .i64 0, .int .i64 12] else #[.int .i64 (kindOf l).1, .int .i64 0])
theorem kret_no {l : List UInt8} {n : Nat} (h : kindOf l = (-1, n)) : kret l = .tuple #[.int .i64 0, .int .i64 12] := by unfold kret; rw [h]; rfl
theorem kret_ok {l : List UInt8} {k : Int} {n : Nat} (h : kindOf l = (k, n)) (hk : 0 ≤ k) : kret l = .tuple #[.int .i64 k, .int .i64 0] := by unfold kret; rw [h, if_neg (by show ¬ k = -1; omega)]
theorem empty_no {l : List UInt8} (h : l ≠ []) : l.isEmpty = false := by cases l with | nil => exact absurd rfl h | cons _ _ => rfl
theorem rep_len {l sub : List UInt8} (h : l.length ≤ 1000) (hs : sub ≠ []) (hc : Lib.contains l sub = true) : (Lib.replace l sub [] 1).length ≤ 1000000 := by
  have h0 : 0 ≤ Lib.index l sub := of_decide_eq_true hc
  rcases Lib.index_spec l sub with ⟨h1, _⟩ | ⟨i, h1, h2, _, _⟩
  · omega
  · rw [rep_one hs hs h1]
    simp; omega
theorem slash_all {l : List UInt8} (hs : Lib.contains l [37, 115] = false) (hz : Lib.contains l [37, 122] = false) (hcon : Lib.contains l [47] = true) (lp : 0 < l.length) :
    ((l.head? = some 47 ∨ l.getLast? = some 47) → kindOf l = (-1, 0)) ∧ (l.head? ≠ some 47 → l.getLast? ≠ some 47 → ¬ 64 < l.length → (Lib.trimS (Lib.replace l [47] [] 1) LT = [] ∧ kindOf l = (3, (Lib.index l [47]).toNat)) ∨ (Lib.trimS (Lib.replace l [47] [] 1) LT ≠ [] ∧ kindOf l = (-1, 0))) := by
  constructor
  · intro h
    by_cases h64 : 64 < l.length
    · exact kind_none l (.inr h64)
    · rcases kind_slash hs hz hcon (by omega) with ⟨⟨a, b⟩, _⟩ | ⟨_, h2⟩
      · rcases h with h | h
        · exact absurd h a
        · exact absurd h b
      · exact h2
  · intro a b h64
    rcases kind_slash hs hz hcon (by omega) with ⟨_, h1, h2⟩ | ⟨h1, h2⟩
    · exact .inl ⟨h1, h2⟩
    · refine .inr ⟨?_, h2⟩
      rcases h1 with h | h | h
      · exact absurd h a
      · exact absurd h b
      · exact h
set_option maxHeartbeats 1000000 in
theorem kind_cons (c : UInt8) (t : List UInt8) (w : World) (hB : Big w) (hl : (c :: t).length ≤ 1000) :
    Calls Tryd.prog 11 #[.string ⟨(c :: t).toArray⟩] w fun e w' => e = .returned (kret (c :: t)) ∧ Below w.heap.size w w' := by
  have HBg := Lib.hid hB
  have HBw := Lib.hid (Below.refl w.heap.size w)
  have HL := Lib.hid hl
  clear hB hl
  have hne : (c :: t).isEmpty = false := rfl
  obtain ⟨l, el⟩ : ∃ l, l = c :: t := ⟨_, rfl⟩
  rw [← el] at HL hne ⊢
  have EL := Lib.hid el
  clear el
  go_enter Tryd.func11, Tryd.ntmps11
  go_wp2_with fail
  go_loopw [4, 5, 15] (fun v4 v5 v15 wr => ∃ k : Nat, v4 = .string ⟨l.toArray⟩ ∧ v5 = .int .i64 0 ∧ v15 = .int .i64 k ∧ k ≤ 3 ∧ (1 ≤ k → Lib.contains l [37, 115] = false) ∧ (2 ≤ k → Lib.contains l [37, 122] = false) ∧ (3 ≤ k → Lib.contains l [47] = false) ∧ wr.heap[w.heap.size]? = some (.cells #[.string ⟨#[37, 115]⟩, .int .i64 1, .string ⟨#[37, 122]⟩, .int .i64 2, .string ⟨#[47]⟩, .int .i64 3] 49 (0, 0)) ∧ Below w.heap.size w wr) (fun _ _ v15 _ => (3 - intOf v15).toNat)
  case atStart => exact ⟨0, rfl, rfl, rfl, by omega, by omega, by omega, by omega, heap_alloc_new w _, HBw.out.alloc (Nat.le_refl _) _⟩
  case round =>
    obtain ⟨k, rfl, rfl, rfl, k3, h1, h2, h3, hrow, hB⟩ := hrel
    have HR := Lib.hid hrow
    have HBr := Lib.hid hB
    have H1 := Lib.hid h1
    have H2 := Lib.hid h2
    have H3 := Lib.hid h3
    have d0 := cell_of_row wr w.heap.size 0 _ _ _ hrow
    have d1 := cell_of_row wr w.heap.size 1 _ _ _ hrow
    have d2 := cell_of_row wr w.heap.size 2 _ _ _ hrow
    have d3 := cell_of_row wr w.heap.size 3 _ _ _ hrow
    have d4 := cell_of_row wr w.heap.size 4 _ _ _ hrow
    have d5 := cell_of_row wr w.heap.size 5 _ _ _ hrow
    clear hrow hB h1 h2 h3
    match k, k3 with
    | 0, _ =>
      go_wp2_with fail
      have HBx := Lib.hid (HBr.out.alloc HBr.out.size (.cells #[.string ⟨#[37, 115]⟩, .int .i64 1] 49))
      have HGx := Lib.hid (HBg.out.below HBx.out)
      refine (contains_any l [37, 115] _ HGx.out HL.out).mono ?_
      rintro e w' ⟨rfl, rfl⟩
      cases hc : Lib.contains l [37, 115] with
      | true =>
        have HC := Lib.hid hc
        clear hc
        have nx : (wr.alloc (.cells #[.string ⟨#[37, 115]⟩, .int .i64 1] 49)).heap[wr.heap.size]? = some (.cells #[.string ⟨#[37, 115]⟩, .int .i64 1] 49 (0, 0)) := heap_alloc_new wr _
        have c0 := cell_of_row _ wr.heap.size 0 _ _ _ nx
        have c1 := cell_of_row _ wr.heap.size 1 _ _ _ nx
        generalize wr.alloc (.cells #[.string ⟨#[37, 115]⟩, .int .i64 1] 49) = wx at *
        go_wp2_with fail
        have ne := bw_ne wx
        have C0 := bw_cell c0
        have C1 := bw_cell c1
        clear c0 c1 d0 d1 d2 d3 d4 d5 nx
        refine wp_region_bw (by kernel_rfl) (by kernel_rfl) ?_
        repeat (go_big_quiet_step ((go_at_call 21; exact calls_bw (replace_any l [37, 115] [] _ (HGx.out.below (Subtype.property _)) HL.out (by decide) (by decide)))))
        refine wpQuiet_nil ?_
        intro w9 hw9
        obtain ⟨v, rfl⟩ := hw9
        have HBw9 := Lib.hid (HBx.out.trans (v.2.mono HBx.out.size))
        generalize v.1 = w9 at *
        clear C0 C1 ne v
        by_cases h64 : (l.length : Int) ≤ 64
        · rcases kind_mark 1 (.inl ⟨rfl, rfl⟩) HC.out (by rw [EL.out] at h64 ⊢; simp at h64 ⊢; omega) with ⟨hT, hK⟩ | ⟨hT, hK⟩
          · have ET := Lib.hid hT
            have EK := Lib.hid (kret_ok hK (by decide))
            clear hT hK
            go_wp2_with fail
            refine (trim_any _ _ (rep_len HL.out (by simp) HC.out)).mono ?_
            rintro e w10 ⟨rfl, hb⟩
            have HBw10 := Lib.hid (HBw9.out.trans (hb.mono HBw9.out.size))
            clear hb
            rw [ET.out]
            go_wp2_with fail
            go_ret2
            exact ⟨by rw [EK.out]; rfl, HBw10.out⟩
          · have ET := Lib.hid (empty_no hT)
            have EK := Lib.hid (kret_no hK)
            clear hT hK
            go_wp2_with fail
            refine (trim_any _ _ (rep_len HL.out (by simp) HC.out)).mono ?_
            rintro e w10 ⟨rfl, hb⟩
            have HBw10 := Lib.hid (HBw9.out.trans (hb.mono HBw9.out.size))
            clear hb
            have ET2 := ET.out
            generalize Lib.trimS _ LT = q at ET2 ⊢
            go_wp2_with fail
            go_ret2
            exact ⟨by rw [EK.out]; rfl, HBw10.out⟩
        · have h65 : 64 < (l.length : Int) := by omega
          have EK := Lib.hid (kret_no (kind_none l (.inr (by omega))))
          clear h64
          go_wp2_with fail
          go_ret2
          exact ⟨by rw [EK.out]; rfl, HBw9.out⟩
      | false =>
        have HC := Lib.hid hc
        clear hc
        go_wp2_with fail
        go_roundw
        case rel => exact ⟨1, rfl, rfl, rfl, by omega, fun _ => HC.out, by omega, by omega, (Below.heap_alloc wr _ _ (by have := block_lt_of_cell d0; exact this)).trans HR.out, HBx.out⟩
        case measure => simp [intOf]
    | 1, _ =>
      go_wp2_with fail
      have HBx := Lib.hid (HBr.out.alloc HBr.out.size (.cells #[.string ⟨#[37, 122]⟩, .int .i64 2] 49))
      have HGx := Lib.hid (HBg.out.below HBx.out)
      refine (contains_any l [37, 122] _ HGx.out HL.out).mono ?_
      rintro e w' ⟨rfl, rfl⟩
      cases hc : Lib.contains l [37, 122] with
      | true =>
        have HC := Lib.hid hc
        clear hc
        have nx : (wr.alloc (.cells #[.string ⟨#[37, 122]⟩, .int .i64 2] 49)).heap[wr.heap.size]? = some (.cells #[.string ⟨#[37, 122]⟩, .int .i64 2] 49 (0, 0)) := heap_alloc_new wr _
        have c0 := cell_of_row _ wr.heap.size 0 _ _ _ nx
        have c1 := cell_of_row _ wr.heap.size 1 _ _ _ nx
        generalize wr.alloc (.cells #[.string ⟨#[37, 122]⟩, .int .i64 2] 49) = wx at *
        go_wp2_with fail
        have ne := bw_ne wx
        have C0 := bw_cell c0
        have C1 := bw_cell c1
        clear c0 c1 d0 d1 d2 d3 d4 d5 nx
        refine wp_region_bw (by kernel_rfl) (by kernel_rfl) ?_
        repeat (go_big_quiet_step ((go_at_call 21; exact calls_bw (replace_any l [37, 122] [] _ (HGx.out.below (Subtype.property _)) HL.out (by decide) (by decide)))))
        refine wpQuiet_nil ?_
        intro w9 hw9
        obtain ⟨v, rfl⟩ := hw9
        have HBw9 := Lib.hid (HBx.out.trans (v.2.mono HBx.out.size))
        generalize v.1 = w9 at *
        clear C0 C1 ne v
        by_cases h64 : (l.length : Int) ≤ 64
        · rcases kind_mark 2 (.inr ⟨rfl, rfl⟩) HC.out (by rw [EL.out] at h64 ⊢; simp at h64 ⊢; omega) with ⟨hT, hK⟩ | ⟨hT, hK⟩
          · have ET := Lib.hid hT
            have EK := Lib.hid (kret_ok hK (by decide))
            clear hT hK
            go_wp2_with fail
            refine (trim_any _ _ (rep_len HL.out (by simp) HC.out)).mono ?_
            rintro e w10 ⟨rfl, hb⟩
            have HBw10 := Lib.hid (HBw9.out.trans (hb.mono HBw9.out.size))
            clear hb
            rw [ET.out]
            go_wp2_with fail
            go_ret2
            exact ⟨by rw [EK.out]; rfl, HBw10.out⟩
          · have ET := Lib.hid (empty_no hT)
            have EK := Lib.hid (kret_no hK)
            clear hT hK
            go_wp2_with fail
            refine (trim_any _ _ (rep_len HL.out (by simp) HC.out)).mono ?_
            rintro e w10 ⟨rfl, hb⟩
            have HBw10 := Lib.hid (HBw9.out.trans (hb.mono HBw9.out.size))
            clear hb
            have ET2 := ET.out
            generalize Lib.trimS _ LT = q at ET2 ⊢
            go_wp2_with fail
            go_ret2
            exact ⟨by rw [EK.out]; rfl, HBw10.out⟩
        · have h65 : 64 < (l.length : Int) := by omega
          have EK := Lib.hid (kret_no (kind_none l (.inr (by omega))))
          clear h64
          go_wp2_with fail
          go_ret2
          exact ⟨by rw [EK.out]; rfl, HBw9.out⟩
      | false =>
        have HC := Lib.hid hc
        clear hc
        go_wp2_with fail
        go_roundw
        case rel => exact ⟨2, rfl, rfl, rfl, by omega, fun _ => H1.out (by decide), fun _ => HC.out, by omega, (Below.heap_alloc wr _ _ (by have := block_lt_of_cell d0; exact this)).trans HR.out, HBx.out⟩
        case measure => simp [intOf]
    | 2, _ =>
      go_wp2_with fail
      have HBx := Lib.hid (HBr.out.alloc HBr.out.size (.cells #[.string ⟨#[47]⟩, .int .i64 3] 49))
      have HGx := Lib.hid (HBg.out.below HBx.out)
      refine (contains_any l [47] _ HGx.out HL.out).mono ?_
      rintro e w' ⟨rfl, rfl⟩
      cases hc : Lib.contains l [47] with
      | true =>
        have HC := Lib.hid hc
        clear hc
        have nx : (wr.alloc (.cells #[.string ⟨#[47]⟩, .int .i64 3] 49)).heap[wr.heap.size]? = some (.cells #[.string ⟨#[47]⟩, .int .i64 3] 49 (0, 0)) := heap_alloc_new wr _
        have c0 := cell_of_row _ wr.heap.size 0 _ _ _ nx
        have c1 := cell_of_row _ wr.heap.size 1 _ _ _ nx
        generalize wr.alloc (.cells #[.string ⟨#[47]⟩, .int .i64 3] 49) = wx at *
        go_wp2_with fail
        have ne := bw_ne wx
        have C0 := bw_cell c0
        have C1 := bw_cell c1
        clear c0 c1 d0 d1 d2 d3 d4 d5 nx
        refine wp_region_bw (by kernel_rfl) (by kernel_rfl) ?_
        repeat (go_big_quiet_step ((go_at_call 21; exact calls_bw (replace_any l [47] [] _ (HGx.out.below (Subtype.property _)) HL.out (by decide) (by decide)))))
        refine wpQuiet_nil ?_
        intro w9 hw9
        obtain ⟨v, rfl⟩ := hw9
        have HBw9 := Lib.hid (HBx.out.trans (v.2.mono HBx.out.size))
        generalize v.1 = w9 at *
        clear C0 C1 ne v
        have lp : 0 < l.length := by rw [EL.out]; simp
        have l3 := HL.out
        obtain ⟨x0, hx0⟩ : ∃ x0, (⟨l.toArray⟩ : ByteArray)[0]'(by show 0 < l.toArray.size; simpa using lp) = x0 := ⟨_, rfl⟩
        obtain ⟨xl, hxl⟩ : ∃ xl, (⟨l.toArray⟩ : ByteArray)[l.length - 1]'(by show _ < l.toArray.size; simp; omega) = xl := ⟨_, rfl⟩
        have Hh := Lib.hid (show l.head? = some x0 by rw [← hx0]; show _ = some (l[0]'lp); rw [List.head?_eq_getElem?]; exact List.getElem?_eq_getElem lp)
        have Ht := Lib.hid (show l.getLast? = some xl by rw [← hxl]; show _ = some (l[l.length - 1]'(by omega)); rw [List.getLast?_eq_getElem?]; exact List.getElem?_eq_getElem (by omega))
        have hK := slash_all (H1.out (by decide)) (H2.out (by decide)) HC.out lp
        rw [Hh.out, Ht.out] at hK
        have tn : ∀ x : UInt8, x ≠ 47 → ((x.toNat : Int) == 47) = false := fun x hx => by
          rw [beq_eq_false_iff_ne]
          intro h
          exact hx (UInt8.toNat_inj.1 (by show x.toNat = 47; omega))
        have tx := tn x0
        have ty := tn xl
        clear tn
        by_cases z0 : x0 = 47
        · have n0 : (x0.toNat : Int) = 47 := by rw [z0]; rfl
          have EK := Lib.hid (kret_no (hK.1 (.inl (by rw [z0]))))
          clear hK tx ty z0
          by_cases h64 : (l.length : Int) ≤ 64
          · go_wp2_with fail
            go_ret2
            exact ⟨by rw [EK.out]; rfl, HBw9.out⟩
          · have h65 : 64 < (l.length : Int) := by omega
            clear h64
            go_wp2_with fail
            go_ret2
            exact ⟨by rw [EK.out]; rfl, HBw9.out⟩
        · have n0 := tx z0
          by_cases z1 : xl = 47
          · have n1 : (xl.toNat : Int) = 47 := by rw [z1]; rfl
            have EK := Lib.hid (kret_no (hK.1 (.inr (by rw [z1]))))
            clear hK tx ty z0 z1
            by_cases h64 : (l.length : Int) ≤ 64
            · go_wp2_with fail
              go_ret2
              exact ⟨by rw [EK.out]; rfl, HBw9.out⟩
            · have h65 : 64 < (l.length : Int) := by omega
              clear h64
              go_wp2_with fail
              go_ret2
              exact ⟨by rw [EK.out]; rfl, HBw9.out⟩
          · have n1 := ty z1
            have hK2 := fun h => hK.2 (by simpa using z0) (by simpa using z1) h
            clear hK tx ty z0 z1
            by_cases h64 : (l.length : Int) ≤ 64
            · rcases hK2 (by omega) with ⟨hT, hK⟩ | ⟨hT, hK⟩
              · have ET := Lib.hid hT
                have EK := Lib.hid (kret_ok hK (by decide))
                clear hT hK
                go_wp2_with fail
                refine (trim_any _ _ (rep_len HL.out (by simp) HC.out)).mono ?_
                rintro e w10 ⟨rfl, hb⟩
                have HBw10 := Lib.hid (HBw9.out.trans (hb.mono HBw9.out.size))
                clear hb
                rw [ET.out]
                go_wp2_with fail
                go_ret2
                exact ⟨by rw [EK.out]; rfl, HBw10.out⟩
              · have ET := Lib.hid (empty_no hT)
                have EK := Lib.hid (kret_no hK)
                clear hT hK
                go_wp2_with fail
                refine (trim_any _ _ (rep_len HL.out (by simp) HC.out)).mono ?_
                rintro e w10 ⟨rfl, hb⟩
                have HBw10 := Lib.hid (HBw9.out.trans (hb.mono HBw9.out.size))
                clear hb
                have ET2 := ET.out
                generalize Lib.trimS _ LT = q at ET2 ⊢
                go_wp2_with fail
                go_ret2
                exact ⟨by rw [EK.out]; rfl, HBw10.out⟩
            · have h65 : 64 < (l.length : Int) := by omega
              have EK := Lib.hid (kret_no (kind_none l (.inr (by omega))))
              clear h64
              go_wp2_with fail
              go_ret2
              exact ⟨by rw [EK.out]; rfl, HBw9.out⟩
      | false =>
        have HC := Lib.hid hc
        clear hc
        go_wp2_with fail
        go_roundw
        case rel => exact ⟨3, rfl, rfl, rfl, by omega, fun _ => H1.out (by decide), fun _ => H2.out (by decide), fun _ => HC.out, (Below.heap_alloc wr _ _ (by have := block_lt_of_cell d0; exact this)).trans HR.out, HBx.out⟩
        case measure => simp [intOf]
    | 3, _ =>
      by_cases h64 : (l.length : Int) ≤ 64
      · rcases kind_plain (H1.out (by decide)) (H2.out (by decide)) (H3.out (by decide)) (by rw [EL.out] at h64 ⊢; simp at h64 ⊢; omega) with ⟨hT, hK⟩ | ⟨hT, hK⟩
        · have ET := Lib.hid hT
          have EK := Lib.hid (kret_ok hK (by decide))
          clear hT hK
          go_wp2_with fail
          refine (trim_any _ _ (by have := HL.out; omega)).mono ?_
          rintro e w10 ⟨rfl, hb⟩
          have HBw10 := Lib.hid (HBr.out.trans (hb.mono HBr.out.size))
          clear hb
          rw [ET.out]
          go_wp2_with fail
          go_ret2
          exact ⟨by rw [EK.out]; rfl, HBw10.out⟩
        · have ET := Lib.hid (empty_no hT)
          have EK := Lib.hid (kret_no hK)
          clear hT hK
          go_wp2_with fail
          refine (trim_any _ _ (by have := HL.out; omega)).mono ?_
          rintro e w10 ⟨rfl, hb⟩
          have HBw10 := Lib.hid (HBr.out.trans (hb.mono HBr.out.size))
          clear hb
          have ET2 := ET.out
          generalize Lib.trimS _ LT = q at ET2 ⊢
          go_wp2_with fail
          go_ret2
          exact ⟨by rw [EK.out]; rfl, HBw10.out⟩
      · have h65 : 64 < (l.length : Int) := by omega
        have EK := Lib.hid (kret_no (kind_none l (.inr (by omega))))
        clear h64
        go_wp2_with fail
        go_ret2
        exact ⟨by rw [EK.out]; rfl, HBr.out⟩
end Go.Proofs.YtakpbgjmblbaiaaDoor
