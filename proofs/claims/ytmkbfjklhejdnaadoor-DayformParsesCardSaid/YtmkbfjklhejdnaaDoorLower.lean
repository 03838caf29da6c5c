/-
  THE WALK of words.lower: a text in small letters.
-/
import Derived.Test.YtmkbfjklhejdnaaDoorProg
import Derived.Test.YtmkbfjklhejdnaaDoorMem
import Derived.Test.YtmkbfjklhejdnaaDoorQuiet
import Derived.Below
import Derived.Handy
import Derived.RegionTactic
import Derived.ChangeAlike
import Derived.IntWalk
import Derived.Outline
import Derived.WalkLawsBesides
import Derived.Laws.IdiomStrings
import Derived.Deep.QuietTactic
import Derived.Deep.Cut
import Derived.BigQuiet
namespace Go.Proofs.YtmkbfjklhejdnaaDoor
open Go Go.RowKit

/-- a byte as a small letter -/
def lowN (n : Nat) : Nat := if 65 ≤ n ∧ n ≤ 90 then n + 32 else n
def low (b : UInt8) : UInt8 := UInt8.ofNat (lowN b.toNat)
theorem low_nat (b : UInt8) : (low b).toNat = lowN b.toNat := by
  have := b.toNat_lt
  unfold low lowN
  split <;> simp <;> omega
theorem small_any (n : Int) (w : World) (h0 : 0 ≤ n) (h1 : n < 128) :
    Calls Tryd.prog 84 #[.int .i32 n] w fun e w' => e = .returned (.int .i32 (lowN n.toNat)) ∧ w = w' := by
  by_cases a : 65 ≤ n ∧ n ≤ 90
  · have E := Lib.hid (show ((lowN n.toNat : Nat) : Int) = n + 32 by unfold lowN; rw [if_pos (by omega)]; omega)
    obtain ⟨a, b⟩ := a
    go_enter Tryd.func84, Tryd.ntmps84
    go_wp2_with fail
    go_ret
    exact ⟨by rw [E.out]; simp; try omega, rfl⟩
  · have E := Lib.hid (show ((lowN n.toNat : Nat) : Int) = n by unfold lowN; rw [if_neg (by omega)]; omega)
    by_cases b : n < 65
    · clear a
      go_enter Tryd.func84, Tryd.ntmps84
      go_wp2_with fail
      go_ret
      exact ⟨by first | (rw [E.out]; done) | (rw [E.out]; rfl), rfl⟩
    · have c : 90 < n := by omega
      clear a
      go_enter Tryd.func84, Tryd.ntmps84
      go_wp2_with fail
      go_ret
      exact ⟨by first | (rw [E.out]; done) | (rw [E.out]; rfl), rfl⟩
/-- n bytes lie in block B -/
def CB (w : World) (B : Nat) (f : Nat → UInt8) (n : Nat) : Prop := ∀ j, j < n → w.cell? ⟨B, j, none⟩ = some (.int .u8 (f j).toNat) ∧ w.frozen? ⟨B, j, none⟩ = false
theorem bytes_made (l : List UInt8) (w : World) : ∃ (w1 : World) (cap : Nat), (convert 9 68 (.string ⟨l.toArray⟩)).run Tryd.prog w = .ok (.slice (some ⟨w.heap.size, 0, none⟩) l.length cap) w1 ∧
    CB w1 w.heap.size (fun j => l.getD j 0) l.length ∧ l.length ≤ cap ∧ Below w.heap.size w w1 := by
  have h := run_bytes_of_string (P := Tryd.prog) w 9 68 5 ⟨l.toArray⟩ Tryd.underlying9 Tryd.underlying68 Tryd.underlying5
  have hz : (⟨l.toArray⟩ : ByteArray).size = l.length := by show l.toArray.size = _; simp
  rw [hz] at h
  refine ⟨_, _, h, ?_, ?_, ?_⟩
  · intro j hj
    have hc : (bytesRow ⟨l.toArray⟩ (grownCap w l.length 0 5))[j]? = some (.int .u8 (l.getD j 0).toNat) := by
      unfold bytesRow
      rw [Array.getElem?_append_left (by simp; omega)]
      simp [List.getD, hj]
    constructor
    · exact (World.cell?_alloc_mark w.drew _ _ _ j).trans hc
    · have hs : j < (bytesRow ⟨l.toArray⟩ (grownCap w l.length 0 5)).size := by
        refine Classical.byContradiction fun hn => ?_
        rw [Array.getElem?_eq_none (by omega)] at hc
        cases hc
      have hb : (w.drew.alloc (.cells (bytesRow ⟨l.toArray⟩ (grownCap w l.length 0 5)) 5 ((bytesRow ⟨l.toArray⟩ (grownCap w l.length 0 5)).size, (bytesRow ⟨l.toArray⟩ (grownCap w l.length 0 5)).size + 1))).heap[w.heap.size]? = some (.cells (bytesRow ⟨l.toArray⟩ (grownCap w l.length 0 5)) 5 ((bytesRow ⟨l.toArray⟩ (grownCap w l.length 0 5)).size, (bytesRow ⟨l.toArray⟩ (grownCap w l.length 0 5)).size + 1)) := by
        show (w.heap.push _)[w.heap.size]? = _
        simp
      simp only [World.frozen?, hb]
      simp
      omega
  · exact grownCap_ge _ _ _ _
  · exact (Below.refl _ _).drew.alloc (Nat.le_refl _) _
theorem CB.set {w : World} {B n i : Nat} {f : Nat → UInt8} (h : CB w B f n) (hi : i < n) (x : UInt8) : CB (w.setCell ⟨B, i, none⟩ (.int .u8 x.toNat)) B (fun j => if j = i then x else f j) n := by
  intro j hj
  obtain ⟨h1, h2⟩ := h j hj
  refine ⟨?_, by rw [World.frozen?_setCell]; exact h2⟩
  by_cases e : j = i
  · subst e
    simp only [if_pos]
    exact World.cell?_setCell_same _ _ _ h1
  · simp only [if_neg e]
    exact (World.cell?_setCell_other _ _ _ _ (by intro h; cases h; exact e rfl)).trans h1
theorem CB.congr {w : World} {B n : Nat} {f g : Nat → UInt8} (h : CB w B f n) (e : ∀ j, j < n → f j = g j) : CB w B g n := fun j hj => by rw [← e j hj]; exact h j hj
/-- the bytes when i of them are turned -/
def half (l : List UInt8) (i : Nat) : Nat → UInt8 := fun j => if j < i then low (l.getD j 0) else l.getD j 0
theorem half_string (l : List UInt8) (w : World) (B cap : Nat) (h : CB w B (half l l.length) l.length) :
    (convert 68 9 (.slice (some ⟨B, 0, none⟩) l.length cap)).run Tryd.prog w = .ok (.string ⟨(l.map low).toArray⟩) w := by
  have := run_convert_bytes_back (P := Tryd.prog) w 68 9 5 ⟨B, 0, none⟩ cap (l.map low) Tryd.underlying68 Tryd.underlying5 Tryd.underlying9 (fun j hj => by
    have hj' : j < l.length := by simpa using hj
    have e := (h j hj').1
    unfold half at e
    rw [if_pos hj'] at e
    have ea : (⟨B, 0, none⟩ : Addr).add j = ⟨B, j, none⟩ := by simp [Addr.add]; exact fun h => h.symm
    rw [ea, e]
    simp [List.getD, hj'])
  simpa using this
theorem lower_any (l : List UInt8) (w : World) (hl : l.length ≤ 1000) :
    Calls Tryd.prog 69 #[.string ⟨l.toArray⟩] w fun e w' => e = .returned (.string ⟨(l.map low).toArray⟩) ∧ Below w.heap.size w w' := by
  obtain ⟨w1, cap, RC, hC, hcap, hB⟩ := bytes_made l w
  have HC := Lib.hid hC
  have HB1 := Lib.hid hB
  clear hC hB
  go_enter Tryd.func69, Tryd.ntmps69
  go_wp2_with fail
  clear RC
  go_loopw [10] (fun v10 wr => ∃ i : Nat, v10 = .int .i64 i ∧ i ≤ l.length ∧ CB wr w.heap.size (half l i) l.length ∧ Below w.heap.size w wr) (fun v10 _ => ((l.length : Int) - intOf v10).toNat)
  case atStart => exact ⟨0, rfl, by omega, HC.out.congr (fun j hj => by unfold half; rw [if_neg (by omega)]), HB1.out⟩
  case round =>
    obtain ⟨i, rfl, i1, hC, hB⟩ := hrel
    have HCr := Lib.hid hC
    have HBr := Lib.hid hB
    clear hC hB
    by_cases hi : i < l.length
    · have hi2 : (i : Int) < (l.length : Int) := by omega
      obtain ⟨c0, f0⟩ := HCr.out i hi
      unfold half at c0
      rw [if_neg (by omega)] at c0
      obtain ⟨x, hx⟩ : ∃ x, l.getD i 0 = x := ⟨_, rfl⟩
      have HX := Lib.hid hx
      rw [hx] at c0
      have X1 : (x.toNat : Int) ≤ 255 := by have := x.toNat_lt; omega
      have X0 : 0 ≤ (x.toNat : Int) := by omega
      clear hx
      by_cases hs : (x.toNat : Int) < 128
      · have lb : lowN x.toNat ≤ 255 := by unfold lowN; split <;> omega
        go_wp2_with fail
        refine (small_any (x.toNat : Int) _ X0 hs).mono ?_
        rintro e w' ⟨rfl, rfl⟩
        rw [show ((x.toNat : Int)).toNat = x.toNat by omega]
        go_wp2_with fail
        go_roundw
        case rel =>
          refine ⟨i + 1, rfl, by omega, ?_, HBr.out.setCell (by simp) _⟩
          have := HCr.out.set hi (low x)
          rw [low_nat] at this
          refine this.congr (fun j hj => ?_)
          unfold half
          by_cases e : j = i
          · subst e; rw [if_pos rfl, if_pos (by omega), HX.out]
          · rw [if_neg e]
            by_cases q : j < i
            · rw [if_pos q, if_pos (by omega)]
            · rw [if_neg q, if_neg (by omega)]
        case measure => simp [intOf]; omega
      · go_wp2_with fail
        go_roundw
        case rel =>
          refine ⟨i + 1, rfl, by omega, HCr.out.congr (fun j hj => ?_), HBr.out⟩
          unfold half
          by_cases e : j = i
          · subst e; rw [if_neg (by omega), if_pos (by omega), HX.out]
            exact (UInt8.toNat_inj.1 (by rw [low_nat]; unfold lowN; rw [if_neg (by omega)])).symm
          · by_cases q : j < i
            · rw [if_pos q, if_pos (by omega)]
            · rw [if_neg q, if_neg (by omega)]
        case measure => simp [intOf]; omega
    · obtain rfl : i = l.length := by omega
      have RS := half_string l wr w.heap.size cap HCr.out
      go_wp2_with fail
      go_ret
      exact ⟨rfl, HBr.out⟩
end Go.Proofs.YtmkbfjklhejdnaaDoor
