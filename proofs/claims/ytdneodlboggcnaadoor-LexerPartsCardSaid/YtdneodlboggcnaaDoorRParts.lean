/-
  THE WALK of the document's Parts.
-/
import Derived.Test.YtdneodlboggcnaaDoorRWords
import Derived.Test.YtdneodlboggcnaaDoorLexLines
namespace Go.Proofs.YtdneodlboggcnaaDoor
open Go Go.RowKit
theorem drop_mid {l : List UInt8} {fr i : Nat} {y : UInt8} (hf : fr ≤ i) (hd : l.drop i = y :: l.drop (i + 1)) : l.drop fr = (l.take i).drop fr ++ y :: l.drop (i + 1) := by
  have hi : i ≤ l.length := by
    refine Nat.le_of_not_lt fun h => ?_
    rw [List.drop_eq_nil_of_le (by omega)] at hd
    cases hd
  have e : l = l.take i ++ l.drop i := (List.take_append_drop i l).symm
  calc l.drop fr = (l.take i ++ l.drop i).drop fr := by rw [← e]
    _ = (l.take i).drop fr ++ l.drop i := by rw [List.drop_append_of_le_length (by simp; omega)]
    _ = _ := by rw [hd]
set_option maxRecDepth 100000 in
set_option maxHeartbeats 4000000 in
theorem rparts_any (l : List UInt8) (w : World) (hl : l.length ≤ 1000) :
    Calls Tryd.prog 11 #[.string ⟨l.toArray⟩] w fun e w' => ∃ v, e = .returned v ∧ SL w.heap.size w' v (prt l) ∧ Below w.heap.size w w' := by
  have hl2 : (l.length : Int) ≤ 1000 := by omega
  have HB0 := Lib.hid (Below.refl w.heap.size w)
  go_enter Tryd.func11, Tryd.ntmps11
  go_wp2_with fail
  go_loopw [3, 4, 5] (fun v3 v4 v5 wr => ∃ (i fr : Nat) (done : List (List UInt8)), v4 = .int .i64 fr ∧ v5 = .int .i64 i ∧ OwnS wr w.heap.size v3 done ∧ i ≤ l.length ∧ fr ≤ i ∧ done.length ≤ i ∧ prt l = done ++ prt (l.drop fr) ∧ (∀ c ∈ (l.take i).drop fr, c ≠ 10) ∧ Below w.heap.size w wr) (fun _ _ v5 _ => ((l.length : Int) - intOf v5).toNat)
  case atStart => exact ⟨0, 0, [], rfl, rfl, World.ownsRow_nil _ _ _ _, by omega, by omega, by simp, rfl, (by intro c hc; simp at hc), HB0.out⟩
  case round =>
    obtain ⟨i, fr, done, rfl, rfl, hO, i1, f1, d1, hp, hq, hB⟩ := hrel
    have HO := Lib.hid hO
    have HP := Lib.hid hp
    have HQ := Lib.hid hq
    have HBr := Lib.hid hB
    clear hO hp hq hB
    have f2 : (fr : Int) ≤ (i : Int) := by omega
    by_cases hi : i < l.length
    · skip
      obtain ⟨y, ey⟩ : ∃ y, l.getD i 0 = y := ⟨_, rfl⟩
      have hy := byte_at l i hi
      rw [ey] at hy
      have hy1 : (y.toNat : Int) ≤ 255 := by have := y.toNat_lt; omega
      have hy0 : 0 ≤ (y.toNat : Int) := by omega
      have hi2 : (i : Int) < (l.length : Int) := by omega
      have HDr := Lib.hid (show l.drop i = y :: l.drop (i + 1) by rw [List.drop_eq_getElem_cons hi, ← ey]; simp [List.getD, hi])
      have HGt := Lib.hid (show l[i]? = some y by rw [← ey]; simp [List.getD, hi])
      clear ey
      by_cases hc : y = 10
      · have XE := ext_mid l fr i
        have HP2 := Lib.hid (show prt l = (done ++ [(l.take i).drop fr]) ++ prt (l.drop (i + 1)) by
          rw [HP.out, drop_mid f1 HDr.out, hc, prt_piece _ _ HQ.out]
          simp)
        have q10 : ((y.toNat : Int) == 10) = true := by rw [hc]; rfl
        clear hc
        have cn : (wr.alloc (.cells #[.string ⟨((l.take i).drop fr).toArray⟩] 9)).cell? ⟨wr.heap.size, 0, none⟩ = some (.string ⟨((l.take i).drop fr).toArray⟩) := World.cell?_alloc_mark wr _ _ _ 0
        go_wp2_with (at_builtin; go_loud (refine wpList_append_str rfl _ _ rfl w.heap.size _ done _ (by rfl) (World.ownsRow.alloc HO.out _) wr.heap.size 1 (by rfl) cn (by omega) (by simp only [World.size_alloc]; have := HBr.out.size; omega) ?_))
        intro v' w' hown' hb'
        have HO' := Lib.hid hown'
        have HB' := Lib.hid ((HBr.out.alloc HBr.out.size _).trans hb')
        clear hown' hb' cn
        go_wp2_with fail
        go_roundw
        case rel => exact ⟨i + 1, i + 1, _, rfl, rfl, HO'.out, by omega, by omega, by simp; omega, HP2.out, (by intro c hc; rw [List.drop_eq_nil_of_le (by simp; omega)] at hc; cases hc), HB'.out⟩
        case measure => simp [intOf]; omega
      · have q10 := byte_ne (y := y) (n := 10) (by omega) hc
        push_cast at q10
        have HQ2 := Lib.hid (show ∀ c ∈ (l.take (i + 1)).drop fr, c ≠ 10 by
          intro c hc2
          rw [List.take_add_one, HGt.out, List.drop_append_of_le_length (by simp; omega)] at hc2
          rcases List.mem_append.1 hc2 with hc2 | hc2
          · exact HQ.out c hc2
          · obtain rfl : c = y := by simpa using hc2
            exact hc)
        clear hc
        go_wp2_with fail
        go_roundw
        case rel => exact ⟨i + 1, fr, done, rfl, rfl, HO.out, by omega, by omega, by omega, HP.out, HQ2.out, HBr.out⟩
        case measure => simp [intOf]; omega
    · obtain rfl : i = l.length := by omega
      have hq := HQ.out
      rw [List.take_length] at hq
      by_cases hf : fr < l.length
      · have hf2 : (fr : Int) < (l.length : Int) := by omega
        have XE := ext_mid l fr l.length
        rw [List.take_length] at XE
        have HP2 := Lib.hid (show prt l = done ++ [l.drop fr] by
          rw [HP.out, prt_last _ hq, if_neg (by intro h; have := List.drop_eq_nil_iff.1 h; omega)])
        clear hq hf hi
        have cn : (wr.alloc (.cells #[.string ⟨(l.drop fr).toArray⟩] 9)).cell? ⟨wr.heap.size, 0, none⟩ = some (.string ⟨(l.drop fr).toArray⟩) := World.cell?_alloc_mark wr _ _ _ 0
        go_wp2_with (at_builtin; go_loud (refine wpList_append_str rfl _ _ rfl w.heap.size _ done _ (by rfl) (World.ownsRow.alloc HO.out _) wr.heap.size 1 (by rfl) cn (by omega) (by simp only [World.size_alloc]; have := HBr.out.size; omega) ?_))
        intro v' w' hown' hb'
        have HO' := Lib.hid hown'
        have HB' := Lib.hid ((HBr.out.alloc HBr.out.size _).trans hb')
        clear hown' hb' cn
        go_wp2_with fail
        go_ret
        exact ⟨_, rfl, by rw [HP2.out]; exact HO'.out.sl, HB'.out⟩
      · have HP2 := Lib.hid (show prt l = done by rw [HP.out, List.drop_eq_nil_of_le (by omega)]; simp [prt])
        have hf2 : (l.length : Int) ≤ (fr : Int) := by omega
        clear hq hf hi
        go_wp2_with fail
        go_ret
        exact ⟨_, rfl, by rw [HP2.out]; exact HO.out.sl, HBr.out⟩
end Go.Proofs.YtdneodlboggcnaaDoor
