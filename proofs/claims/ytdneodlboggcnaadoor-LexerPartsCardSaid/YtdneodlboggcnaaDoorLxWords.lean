/-
  THE LAW LexerWords, walked.
-/
import Derived.Test.YtdneodlboggcnaaDoorLexAwake
namespace Go.Proofs.YtdneodlboggcnaaDoor.lexerWords
open Go Go.RowKit
theorem lexW_len (l : List UInt8) : (lexW l).2.length ≤ 100000 := by
  by_cases ha : l.any nob = true
  · rw [lexW_any ha]; simp
  · have ha2 : l.any nob = false := by simpa using ha
    by_cases h2 : ∀ x ∈ wds l, x.2 = true
    · by_cases h3 : 32 < (wds l).length
      · rw [lexW_many ha2 h2 h3]; simp
      · rw [lexW_ok ha2 h2 (by omega)]; simp; omega
    · have : ∃ x ∈ wds l, x.2 = false := by
        refine Classical.byContradiction fun hn => h2 fun x hx => ?_
        cases hv : x.2 with
        | true => rfl
        | false => exact absurd ⟨x, hx, hv⟩ hn
      rw [lexW_open ha2 this]; simp
set_option maxRecDepth 100000 in
set_option maxHeartbeats 2000000 in
theorem walk (l : List UInt8) (w : World) (hB : Big w) : Calls Tryd.prog 3 #[.string ⟨l.toArray⟩] w (One w) := by
  have HG := Lib.hid hB
  have HBw := Lib.hid (Below.refl w.heap.size w)
  clear hB
  by_cases hl : l.length ≤ 300
  · have hl2 : (l.length : Int) ≤ 300 := by omega
    have HL := Lib.hid (lexW_len l)
    have hl3 : l.length ≤ 1000 := by omega
    clear hl
    go_enter Tryd.func3, Tryd.ntmps3
    go_wp2_with fail
    refine (lwords_any l _ hl3 HG.out).mono ?_
    rintro e w1 ⟨vw1, rfl, hsw1, hbw1⟩
    have HSw1 := Lib.hid hsw1
    have HBw1 := Lib.hid (HBw.out.trans (hbw1.mono HBw.out.size))
    have szw1 := hbw1.size
    clear hsw1
    clear hbw1
    go_wp2_with fail
    refine (rwords_any l _ hl3).mono ?_
    rintro e w2 ⟨vw2, rfl, hsw2, hbw2⟩
    have HSw2 := Lib.hid hsw2
    have HBw2 := Lib.hid (HBw1.out.trans (hbw2.mono HBw1.out.size))
    have szw2 := hbw2.size
    clear hsw2
    have HSw12 := Lib.hid (HSw1.out.below hbw2)
    clear hbw2
    obtain ⟨E, hE⟩ : ∃ E, (lexW l).1 = E := ⟨_, rfl⟩
    rw [hE]
    clear hE
    go_wp2_with fail
    refine (texts_any _ HSw12.out HSw2.out HL.out HL.out).mono ?_
    rintro e w3 ⟨rfl, hb3⟩
    have HB3 := Lib.hid (HBw2.out.trans (hb3.mono HBw2.out.size))
    clear hb3
    rw [decide_eq_true rfl]
    go_wp2_with fail
    refine (awake_any _ (HG.out.below HB3.out)).mono ?_
    rintro e w4 ⟨rfl, hb4⟩
    have HB4 := Lib.hid (HB3.out.trans (hb4.mono HB3.out.size))
    clear hb4
    go_wp2_with fail
    go_ret
    exact ⟨rfl, HB4.out⟩
  · have hl2 : 300 < (⟨l.toArray⟩ : ByteArray).size := by show 300 < l.toArray.size; simp; omega
    have hl3 : 300 < (l.length : Int) := by omega
    clear hl
    go_enter Tryd.func3, Tryd.ntmps3
    go_wp2_with fail
    refine (awake_any _ HG.out).mono ?_
    rintro e w4 ⟨rfl, hb4⟩
    go_wp2_with fail
    go_ret
    exact ⟨rfl, hb4⟩
end Go.Proofs.YtdneodlboggcnaaDoor.lexerWords
