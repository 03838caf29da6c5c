/-
  THE WALK of strings.ContainsAny at any bytes.
-/
import Derived.Test.YtdneodlboggcnaaDoorNone
namespace Go.Proofs.YtdneodlboggcnaaDoor
open Go Go.RowKit
theorem nob_contains (c : UInt8) : ([0, 10, 13] : List UInt8).contains c = nob c := by
  unfold nob
  rw [List.contains_cons, List.contains_cons, List.contains_cons]
  simp [Bool.or_assoc]
theorem indexAny_nob : ∀ l : List UInt8, decide (0 ≤ Lib.indexAny l [0, 10, 13]) = l.any nob
  | [] => rfl
  | b :: l => by
    have ih := indexAny_nob l
    have hg := Lib.indexAny_ge [0, 10, 13] l
    unfold Lib.indexAny
    rw [nob_contains, List.any_cons, ← ih]
    cases hb : nob b with
    | true => simp
    | false =>
      simp only [Bool.false_eq_true, if_false, Bool.false_or]
      by_cases h1 : Lib.indexAny l [0, 10, 13] = -1
      · rw [h1]; simp
      · have h2 : (Lib.indexAny l [0, 10, 13] == -1) = false := beq_eq_false_iff_ne.2 h1
        rw [h2]
        simp only [Bool.false_eq_true, if_false]
        exact decide_eq_decide.2 (by omega)
theorem dec_cover (s : ByteArray) (pos : Nat) (h : pos < s.data.toList.length) (hx : 128 ≤ (s.data.toList.getD pos 0).toNat) (j : Nat) (hj : j < (Utf8.decode s pos).2) :
    pos + j < s.data.toList.length ∧ 128 ≤ (s.data.toList.getD (pos + j) 0).toNat := by
  rw [Lib.decode_N] at hj
  generalize h0 : (s.data.toList.getD pos 0).toNat = b0 at *
  generalize h1 : (s.data.toList.getD (pos + 1) 0).toNat = b1 at *
  generalize h2 : (s.data.toList.getD (pos + 2) 0).toNat = b2 at *
  generalize h3 : (s.data.toList.getD (pos + 3) 0).toNat = b3 at *
  unfold Lib.decodeN at hj
  have key : j = 0 ∨ (j = 1 ∧ 1 < s.data.toList.length - pos ∧ b1 / 64 = 2) ∨ (j = 2 ∧ 2 < s.data.toList.length - pos ∧ b2 / 64 = 2) ∨ (j = 3 ∧ 3 < s.data.toList.length - pos ∧ b3 / 64 = 2) := by
    repeat' split at hj
    all_goals (simp only at hj; omega)
  rcases key with rfl | ⟨rfl, a, b⟩ | ⟨rfl, a, b⟩ | ⟨rfl, a, b⟩
  · rw [Nat.add_zero, h0]; omega
  · rw [h1]; omega
  · rw [h2]; omega
  · rw [h3]; omega
set_option maxRecDepth 100000 in
set_option maxHeartbeats 2000000 in
theorem idxany_short (s : ByteArray) (w : World) (h8 : s.size ≤ 8) :
    Calls Tryd.prog 15 #[.string s, .string nobs] w fun e w' => e = .returned (.int .i64 (Lib.indexAny s.data.toList [0, 10, 13])) ∧ Below w.heap.size w w' := by
  have h8z : decide ((8 : Int) < (s.size : Int)) = false := decide_eq_false (by omega)
  have hemp : (nobs == (⟨#[]⟩ : ByteArray)) = false := by decide
  go_enter Tryd.func15, Tryd.ntmps15
  go_wp2_with fail
  refine (Tryd.strings_shouldUseASCIISet _ _).mono ?_
  rintro e w' ⟨rfl, hw⟩
  rw [hw, h8z]
  clear hw
  go_wp2_with fail
  go_loopw [9, 10] (fun _ _ wr => ∃ i : Nat, i ≤ s.size ∧ wr.heap[w.heap.size]? = some (.stringIter s i) ∧ Below w.heap.size w wr ∧ Lib.NoAny s.data.toList [0, 10, 13] i) (fun _ _ wr => s.size - wr.iterPos w.heap.size)
  case atStart => exact ⟨0, by omega, heap_alloc_new w _, (Below.refl _ _).alloc (Nat.le_refl _) _, Lib.NoAny.zero _ _⟩
  case round =>
    obtain ⟨i, hi, hit, hbl, hno⟩ := hrel
    have HN := Lib.hid hno
    have HB := Lib.hid hbl
    have HI := Lib.hid hit
    have hps : wr.iterPos w.heap.size = i := by unfold World.iterPos; rw [hit]
    have HPs := Lib.hid hps
    clear hno hbl hit hps
    by_cases hlt : i < s.size
    · obtain ⟨x, hx⟩ : ∃ x : UInt8, s[i]'hlt = x := ⟨_, rfl⟩
      have hxl : s.data.toList[i]? = some x := by rw [← hx]; exact Lib.data_getElem? s i hlt
      by_cases hx8 : x.toNat < 128
      · have hnx := fun ty => Lib.run_next_ascii_at (P := Tryd.prog) wr w.heap.size s i ty HI.out hlt (by rw [hx]; exact hx8)
        rw [hx] at hnx
        have hcon := Lib.contains_iff_indexByte [0, 10, 13] x
        have Hx := Lib.hid hxl
        have x1 : (x.toNat : Int) < 128 := by omega
        have x0 : 0 ≤ (x.toNat : Int) := by omega
        clear hxl hx
        cases hin : ([0, 10, 13] : List UInt8).contains x with
        | false =>
          rw [hin] at hcon
          have hlt0 : ¬ ((0 : Int) ≤ Lib.indexByte [0, 10, 13] x) := of_decide_eq_false hcon.symm
          have HIn := Lib.hid hin
          clear hcon hin
          go_wp2_with fail
          refine (Tryd.strings_IndexRune_ascii nobs _ _ (by omega) (by omega)).mono ?_
          rintro e w9 ⟨rfl, rfl⟩
          rw [show Lib.indexByte nobs.data.toList (((x.toNat : Int)).toNat.toUInt8) = Lib.indexByte [0, 10, 13] x by simp]
          generalize Lib.indexByte [0, 10, 13] x = ix at hlt0 ⊢
          go_wp2_with fail
          go_roundw
          case rel => exact ⟨i + 1, by omega, Lib.iterAt_heap _ _ _ _ _ HI.out, Lib.below_iterAt HB.out (Nat.le_refl _) _ _, HN.out.succ Hx.out HIn.out⟩
          case measure =>
            rw [HPs.out]
            show s.size - (wr.iterAt w.heap.size s (i + 1)).iterPos w.heap.size < s.size - i
            rw [show (wr.iterAt w.heap.size s (i + 1)).iterPos w.heap.size = i + 1 by unfold World.iterPos; rw [Lib.iterAt_heap _ _ _ _ _ HI.out]]
            omega
        | true =>
          rw [hin] at hcon
          have hge : (0 : Int) ≤ Lib.indexByte [0, 10, 13] x := of_decide_eq_true hcon.symm
          have HIn := Lib.hid hin
          clear hcon hin
          go_wp2_with fail
          refine (Tryd.strings_IndexRune_ascii nobs _ _ (by omega) (by omega)).mono ?_
          rintro e w9 ⟨rfl, rfl⟩
          rw [show Lib.indexByte nobs.data.toList (((x.toNat : Int)).toNat.toUInt8) = Lib.indexByte [0, 10, 13] x by simp]
          generalize Lib.indexByte [0, 10, 13] x = ix at hge ⊢
          go_wp2_with fail
          go_ret
          exact ⟨by rw [Lib.indexAny_hit HN.out Hx.out HIn.out]; rfl, Lib.below_iterAt HB.out (Nat.le_refl _) _ _⟩
      · have hnx := fun ty => Lib.run_next_any_at (P := Tryd.prog) wr w.heap.size s i ty HI.out hlt
        have hh := decode_high s i hlt (by rw [hx]; omega)
        have hle := decode_le s i
        have hlL : s.data.toList.length = s.size := (Lib.size_eq s).symm
        have hgd : s.data.toList.getD i 0 = x := by simp [List.getD, hxl]
        have HC := Lib.hid (dec_cover s i (by omega) (by rw [hgd]; omega))
        obtain ⟨R, hR⟩ : ∃ R, (Utf8.decode s i).1 = R := ⟨_, rfl⟩
        obtain ⟨m, hm⟩ : ∃ m, (Utf8.decode s i).2 = m := ⟨_, rfl⟩
        rw [hR] at hh hle
        rw [hm] at hh
        have HC2 := Lib.hid (show ∀ j, j < m → i + j < s.data.toList.length ∧ 128 ≤ (s.data.toList.getD (i + j) 0).toNat from fun j hj => HC.out j (by rw [hm]; exact hj))
        rw [hR, hm] at hnx
        have him : i + m ≤ s.size := by have := (HC2.out (m - 1) (by omega)).1; omega
        have HNx := Lib.hid (show Lib.NoAny s.data.toList [0, 10, 13] (i + m) from by
          intro j b hj hb
          by_cases hji : j < i
          · exact HN.out j b hji hb
          · have := (HC2.out (j - i) (by omega)).2
            rw [show i + (j - i) = j by omega] at this
            have e : s.data.toList.getD j 0 = b := by simp [List.getD, hb]
            rw [e] at this
            rw [nob_contains]
            unfold nob
            simp only [Bool.or_eq_false_iff, beq_eq_false_iff_ne]
            refine ⟨⟨?_, ?_⟩, ?_⟩ <;> (rintro rfl; revert this; decide))
        have R1 : 128 ≤ (R : Int) := by omega
        have R2 : (R : Int) ≤ 2147483647 := by omega
        have hm1 : 1 ≤ m := hh.2
        clear HC hR hm hh hle hgd hxl hx
        go_wp2_with fail
        refine (rune_high R _ R1 R2).mono ?_
        rintro e w9 ⟨rfl, hb9⟩
        have hsz9 : w.heap.size < (wr.iterAt w.heap.size s (i + m)).heap.size := by rw [Lib.iterAt_size]; exact (Array.getElem?_eq_some_iff.1 HI.out).1
        have h9 := (hb9.block w.heap.size hsz9).trans (Lib.iterAt_heap _ _ _ _ (i + m) HI.out)
        have HB9 := Lib.hid ((Lib.below_iterAt HB.out (Nat.le_refl _) s (i + m)).trans (hb9.mono (by omega)))
        have H9 := Lib.hid h9
        clear hb9 hsz9 h9
        go_wp2_with fail
        go_roundw
        case rel => exact ⟨i + m, him, H9.out, HB9.out, HNx.out⟩
        case measure =>
          rw [HPs.out]
          rw [show w9.iterPos w.heap.size = i + m by unfold World.iterPos; rw [H9.out]]
          omega
    · obtain rfl : i = s.size := by omega
      have hnx := fun ty => Lib.run_next_end_at (P := Tryd.prog) wr w.heap.size s s.size ty HI.out (by omega)
      go_wp2_with fail
      go_ret
      exact ⟨by rw [Lib.indexAny_none (by rw [← Lib.size_eq]; exact HN.out)]; rfl, HB.out⟩
theorem z256 : (Tryd.prog.info? 54).map (fun i => (i.zero, i.size)) = some (some (.agg (Array.replicate 256 (.bool false))), 256) := by kernel_rfl
theorem none_any (l : List UInt8) (w : World) (hl : l.length ≤ 1000) :
    Calls Tryd.prog 12 #[.string ⟨l.toArray⟩, .string nobs] w fun e w' => e = .returned (.bool (l.any nob)) ∧ Below w.heap.size w w' := by
  have hi : Calls Tryd.prog 15 #[.string ⟨l.toArray⟩, .string nobs] w fun e w' => e = .returned (.int .i64 (Lib.indexAny l [0, 10, 13])) ∧ Below w.heap.size w w' := by
    have hsz : (⟨l.toArray⟩ : ByteArray).size = l.length := by show l.toArray.size = _; simp
    by_cases h8 : l.length ≤ 8
    · exact idxany_short ⟨l.toArray⟩ w (by rw [hsz]; exact h8)
    · refine (Tryd.strings_IndexAny_long (zero_of_info z256).1 ⟨l.toArray⟩ nobs w (by decide) (by rw [hsz]; omega) (by rw [hsz]; omega) (by decide) (Go.Proofs.ascii_of_all (by decide +kernel))).mono ?_
      rintro e w' ⟨rfl, rfl⟩
      exact ⟨rfl, ((Below.refl _ _).alloc (Nat.le_refl _) _).alloc (by simp) _⟩
  have hN := indexAny_nob l
  generalize Lib.indexAny l [0, 10, 13] = ix at *
  have HN := Lib.hid hN
  clear hN
  go_enter Tryd.func12, Tryd.ntmps12
  go_wp2_with fail
  refine hi.mono ?_
  rintro e w' ⟨rfl, hb⟩
  go_wp2_with fail
  go_ret
  exact ⟨by rw [← HN.out]; rfl, hb⟩
end Go.Proofs.YtdneodlboggcnaaDoor
