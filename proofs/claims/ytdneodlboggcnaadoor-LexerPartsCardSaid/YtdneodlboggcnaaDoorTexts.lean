/-
  THE WALK of the laws' own Texts.
-/
import Derived.Test.YtdneodlboggcnaaDoorRWords
namespace Go.Proofs.YtdneodlboggcnaaDoor
open Go Go.RowKit
theorem take_snoc {xs : List (List UInt8)} {i : Nat} (h : i < xs.length) : xs.take (i + 1) = xs.take i ++ [xs.getD i []] := by
  rw [List.take_add_one]
  simp [List.getD, h]
set_option maxRecDepth 100000 in
set_option maxHeartbeats 4000000 in
theorem texts_any {B B' : Nat} {a b : Value} {xs ys : List (List UInt8)} (w : World) (ha : SL B w a xs) (hb : SL B' w b ys) (hl : xs.length ≤ 100000) (hl' : ys.length ≤ 100000) :
    Calls Tryd.prog 9 #[a, b] w fun e w' => e = .returned (.bool (decide (xs = ys))) ∧ Below w.heap.size w w' := by
  obtain ⟨ad, cap, rfl, ha⟩ := ha
  obtain ⟨ad', cap', rfl, hb⟩ := hb
  by_cases hlen : xs.length = ys.length
  · have ha' : xs = [] ∨ (∃ g g', ad = some ⟨g, 0, none⟩ ∧ ad' = some ⟨g', 0, none⟩ ∧ g < w.heap.size ∧ g' < w.heap.size ∧ TLs w g xs ∧ TLs w g' ys) := by
      rcases ha with ha | ⟨g, h1, h2, h3, h4⟩
      · exact .inl ha
      · rcases hb with hb | ⟨g', h1', h2', h3', h4'⟩
        · left
          rw [hb] at hlen
          exact List.length_eq_zero_iff.1 hlen
        · exact .inr ⟨g, g', h1, h1', h3, h3', h4, h4'⟩
    obtain ⟨n, hn⟩ : ∃ n, xs.length = n := ⟨_, rfl⟩
    rw [← hlen, hn]
    have hn2 : (n : Int) ≤ 100000 := by omega
    have HL := Lib.hid hlen
    have HN := Lib.hid hn
    clear hlen ha hb
    go_enter Tryd.func9, Tryd.ntmps9
    go_wp2_with fail
    go_loopw [5] (fun v5 wr => ∃ i : Nat, v5 = .int .i64 i ∧ i ≤ n ∧ xs.take i = ys.take i ∧ Below w.heap.size w wr) (fun v5 _ => ((n : Int) - intOf v5).toNat)
    case atStart => exact ⟨0, rfl, by omega, rfl, Below.refl _ _⟩
    case round =>
      obtain ⟨i, rfl, hi', htk, hB⟩ := hrel
      have HT := Lib.hid htk
      have HB := Lib.hid hB
      have hsz := hB.size
      clear htk hB
      by_cases hi : i < n
      · rcases ha' with h0 | ⟨g, g', rfl, rfl, hg, hg', ht, ht'⟩
        · rw [h0] at hn; simp at hn; omega
        · have hys : ys.length = n := by have := HL.out; omega
          have c1 := (HB.out.cell (p := ⟨g, i, none⟩) hg).trans (ht i (by omega))
          have c2 := (HB.out.cell (p := ⟨g', i, none⟩) hg').trans (ht' i (by omega : i < ys.length))
          obtain ⟨x, hx⟩ : ∃ x, xs.getD i [] = x := ⟨_, rfl⟩
          obtain ⟨y, hy⟩ : ∃ y, ys.getD i [] = y := ⟨_, rfl⟩
          have HX := Lib.hid hx
          have HY := Lib.hid hy
          rw [hx] at c1
          rw [hy] at c2
          have hi2 : (i : Int) < (n : Int) := by omega
          clear hx hy ht ht' hn hys
          by_cases he : x = y
          · have HNx := Lib.hid (show xs.take (i + 1) = ys.take (i + 1) by
              have := HL.out; have := HN.out
              rw [take_snoc (by omega), take_snoc (by omega), HT.out, HX.out, HY.out, he])
            have q1 : (x != y) = false := by rw [he]; simp
            have q2 : (x == y) = true := by rw [he]; simp
            clear he
            go_wp2_with fail
            go_region
            all_goals go_wp2_with fail
            all_goals go_roundw
            case rel => exact ⟨i + 1, rfl, by omega, HNx.out, HB.out.drew⟩
            case measure => simp [intOf]; omega
          · have EV : decide (xs = ys) = false := decide_eq_false (by rintro rfl; exact he (HX.out.symm.trans HY.out))
            have EV := Lib.hid EV
            have q1 : (x != y) = true := by rw [bne_iff_ne]; exact he
            have q2 : (x == y) = false := beq_eq_false_iff_ne.2 he
            clear he
            go_wp2_with fail
            go_region
            all_goals go_wp2_with fail
            all_goals go_ret
            all_goals exact ⟨by rw [EV.out]; rfl, HB.out.drew⟩
      · obtain rfl : i = n := by omega
        have EV := Lib.hid (show decide (xs = ys) = true by
          refine decide_eq_true ?_
          have := HT.out
          rwa [List.take_of_length_le (by omega), List.take_of_length_le (by have := HL.out; omega)] at this)
        clear ha' hi hn
        go_wp2_with fail
        go_ret
        exact ⟨by rw [EV.out]; rfl, HB.out⟩
  · have EV := Lib.hid (show decide (xs = ys) = false from decide_eq_false (by rintro rfl; exact hlen rfl))
    have q : ((xs.length : Int) != (ys.length : Int)) = true := by rw [bne_iff_ne]; omega
    clear hlen
    go_enter Tryd.func9, Tryd.ntmps9
    go_wp2_with fail
    go_ret
    exact ⟨by rw [EV.out]; rfl, Below.refl _ _⟩
end Go.Proofs.YtdneodlboggcnaaDoor
