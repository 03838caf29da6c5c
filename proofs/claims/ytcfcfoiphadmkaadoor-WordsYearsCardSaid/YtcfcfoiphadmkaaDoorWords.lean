/-
  THE WALKS of words.Month, Weekday, Kind; of Year where a word is one of the two; the chapter's examples.
-/
import Derived.Test.YtcfcfoiphadmkaaDoorFind
namespace Go.Proofs.YtcfcfoiphadmkaaDoor
open Go Go.RowKit

def monthsL : List (List UInt8) := [[74, 97, 110, 117, 97, 114, 121], [70, 101, 98, 114, 117, 97, 114, 121], [77, 97, 114, 99, 104], [65, 112, 114, 105, 108], [77, 97, 121], [74, 117, 110, 101], [74, 117, 108, 121], [65, 117, 103, 117, 115, 116], [83, 101, 112, 116, 101, 109, 98, 101, 114], [79, 99, 116, 111, 98, 101, 114], [78, 111, 118, 101, 109, 98, 101, 114], [68, 101, 99, 101, 109, 98, 101, 114]]
def weekdaysL : List (List UInt8) := [[83, 117, 110, 100, 97, 121], [77, 111, 110, 100, 97, 121], [84, 117, 101, 115, 100, 97, 121], [87, 101, 100, 110, 101, 115, 100, 97, 121], [84, 104, 117, 114, 115, 100, 97, 121], [70, 114, 105, 100, 97, 121], [83, 97, 116, 117, 114, 100, 97, 121]]
def kindsL : List (List UInt8) := [[114, 117, 108, 101], [122, 111, 110, 101], [108, 105, 110, 107]]
def onlysL : List (List UInt8) := [[111, 110, 108, 121], [109, 97, 120, 105, 109, 117, 109]]
/-- the table of the months -/
def Mon (w : World) : Prop := WL w 0 0 monthsL
def Wek (w : World) : Prop := WL w 1 0 weekdaysL
theorem WL.lt {w : World} {b off : Nat} {ws : List (List UInt8)} (h : WL w b off ws) (h0 : 0 < ws.length) : b < w.heap.size := block_lt_of_cell (h 0 h0)
theorem Mon.below {w w' : World} (h : Mon w) (hb : Below w.heap.size w w') : Mon w' := WL.below h hb (WL.lt h (by decide))
theorem Wek.below {w w' : World} (h : Wek w) (hb : Below w.heap.size w w') : Wek w' := WL.below h hb (WL.lt h (by decide))
/-- a word's place, so many more; none -/
def upV (k : Int) (s : List UInt8) (ws : List (List UInt8)) : Value := .tuple (match fd s ws with | some i => #[.int .i64 ((i : Int) + k), .int .i64 0] | none => #[.int .i64 0, .int .i64 13])
theorem fdV_some {s : List UInt8} {ws : List (List UInt8)} {i : Nat} (h : fd s ws = some i) : fdV s ws = .tuple #[.int .i64 i, .int .i64 0] := by unfold fdV; rw [h]
theorem fdV_none {s : List UInt8} {ws : List (List UInt8)} (h : fd s ws = none) : fdV s ws = .tuple #[.int .i64 0, .int .i64 13] := by unfold fdV; rw [h]
theorem upV_some {k : Int} {s : List UInt8} {ws : List (List UInt8)} {i : Nat} (h : fd s ws = some i) : upV k s ws = .tuple #[.int .i64 (i + k), .int .i64 0] := by unfold upV; rw [h]
theorem upV_none {k : Int} {s : List UInt8} {ws : List (List UInt8)} (h : fd s ws = none) : upV k s ws = .tuple #[.int .i64 0, .int .i64 13] := by unfold upV; rw [h]
theorem hits_lt (s : List UInt8) (ws : List (List UInt8)) : ∀ k, ∀ x ∈ hits s ws k, x.1 < k
  | 0, x, h => by cases h
  | k + 1, x, h => by
    rw [hits_succ, List.mem_append] at h
    rcases h with h | h
    · have := hits_lt s ws k x h; omega
    · unfold hitAt at h
      split at h
      · simp at h; rw [h]; simp
      · cases h
theorem fd_lt {s : List UInt8} {ws : List (List UInt8)} {i : Nat} (h : fd s ws = some i) : i < ws.length := by
  unfold fd at h
  split at h
  · rename_i x hx
    cases h
    exact hits_lt s ws _ x (List.mem_of_find?_eq_some hx)
  · split at h
    · rename_i x hx
      cases h
      exact hits_lt s ws _ x (by rw [hx]; simp)
    · cases h
theorem len_of {ws : List (List UInt8)} (h : ws.all (fun l => decide (l.length ≤ 1000)) = true) : ∀ j, j < ws.length → (ws.getD j []).length ≤ 1000 := by
  intro j hj
  have := List.all_eq_true.1 h (ws.getD j []) (by simp [List.getD, hj])
  exact of_decide_eq_true this
theorem month_any (l : List UInt8) (w : World) (hM : Mon w) (hl : l.length ≤ 1000) :
    Calls Tryd.prog 13 #[.string ⟨l.toArray⟩] w fun e w' => e = .returned (upV 1 (l.map low) monthsL) ∧ Below w.heap.size w w' := by
  have HM := Lib.hid hM
  have HL := Lib.hid hl
  have HB0 := Lib.hid (Below.refl w.heap.size w)
  clear hM hl
  cases hf : fd (l.map low) monthsL with
  | some i =>
    have i0 := fd_lt hf
    have i1 : (i : Int) < 12 := by
      have : (monthsL).length = 12 := by decide
      omega
    have E1 := Lib.hid (fdV_some hf)
    have E2 := Lib.hid (upV_some (k := 1) hf)
    clear hf i0
    go_enter Tryd.func13, Tryd.ntmps13
    go_wp2_with fail
    refine (find_any l 0 0 12 monthsL _ HL.out (len_of (by decide)) (by decide) (WL.lt HM.out (by decide)) HM.out).mono ?_
    rintro e w1 ⟨rfl, hb⟩
    have HBw1 := Lib.hid (HB0.out.trans (hb.mono HB0.out.size))
    clear hb
    rw [E1.out]
    go_wp2_with fail
    go_ret2
    exact ⟨by first | (rw [E2.out]; rfl) | (rw [E2.out, Int.add_comm]; rfl), HBw1.out⟩
  | none =>
    have E1 := Lib.hid (fdV_none hf)
    have E2 := Lib.hid (upV_none (k := 1) hf)
    clear hf
    go_enter Tryd.func13, Tryd.ntmps13
    go_wp2_with fail
    refine (find_any l 0 0 12 monthsL _ HL.out (len_of (by decide)) (by decide) (WL.lt HM.out (by decide)) HM.out).mono ?_
    rintro e w1 ⟨rfl, hb⟩
    have HBw1 := Lib.hid (HB0.out.trans (hb.mono HB0.out.size))
    clear hb
    rw [E1.out]
    go_wp2_with fail
    go_ret2
    exact ⟨by first | (rw [E2.out]; rfl) | (rw [E2.out, Int.add_comm]; rfl), HBw1.out⟩
theorem weekday_any (l : List UInt8) (w : World) (hM : Wek w) (hl : l.length ≤ 1000) :
    Calls Tryd.prog 16 #[.string ⟨l.toArray⟩] w fun e w' => e = .returned (fdV (l.map low) weekdaysL) ∧ Below w.heap.size w w' := by
  have HM := Lib.hid hM
  have HL := Lib.hid hl
  have HB0 := Lib.hid (Below.refl w.heap.size w)
  clear hM hl
  cases hf : fd (l.map low) weekdaysL with
  | some i =>
    have i0 := fd_lt hf
    have i1 : (i : Int) < 7 := by
      have : (weekdaysL).length = 7 := by decide
      omega
    have E1 := Lib.hid (fdV_some hf)
    have E2 := Lib.hid (fdV_some  hf)
    clear hf i0
    go_enter Tryd.func16, Tryd.ntmps16
    go_wp2_with fail
    refine (find_any l 1 0 7 weekdaysL _ HL.out (len_of (by decide)) (by decide) (WL.lt HM.out (by decide)) HM.out).mono ?_
    rintro e w1 ⟨rfl, hb⟩
    have HBw1 := Lib.hid (HB0.out.trans (hb.mono HB0.out.size))
    clear hb
    rw [E1.out]
    go_wp2_with fail
    go_ret2
    exact ⟨by first | (rw [E2.out]; rfl) | (rw [E2.out, Int.add_comm]; rfl), HBw1.out⟩
  | none =>
    have E1 := Lib.hid (fdV_none hf)
    have E2 := Lib.hid (fdV_none  hf)
    clear hf
    go_enter Tryd.func16, Tryd.ntmps16
    go_wp2_with fail
    refine (find_any l 1 0 7 weekdaysL _ HL.out (len_of (by decide)) (by decide) (WL.lt HM.out (by decide)) HM.out).mono ?_
    rintro e w1 ⟨rfl, hb⟩
    have HBw1 := Lib.hid (HB0.out.trans (hb.mono HB0.out.size))
    clear hb
    rw [E1.out]
    go_wp2_with fail
    go_ret2
    exact ⟨by first | (rw [E2.out]; rfl) | (rw [E2.out, Int.add_comm]; rfl), HBw1.out⟩
theorem kind_any (l : List UInt8) (w : World) (hl : l.length ≤ 1000) :
    Calls Tryd.prog 15 #[.string ⟨l.toArray⟩] w fun e w' => e = .returned (upV 1 (l.map low) kindsL) ∧ Below w.heap.size w w' := by
  have HL := Lib.hid hl
  have HB0 := Lib.hid ((Below.refl w.heap.size w).alloc (Nat.le_refl _) (.cells #[.string ⟨#[114, 117, 108, 101]⟩, .string ⟨#[122, 111, 110, 101]⟩, .string ⟨#[108, 105, 110, 107]⟩] 9))
  have HM : WL (w.alloc (.cells #[.string ⟨#[114, 117, 108, 101]⟩, .string ⟨#[122, 111, 110, 101]⟩, .string ⟨#[108, 105, 110, 107]⟩] 9)) w.heap.size 0 kindsL := fun j hj => by
    rw [Nat.zero_add]
    refine (World.cell?_alloc_mark w _ _ _ j).trans ?_
    match j, hj with
    | 0, _ => rfl
    | 1, _ => rfl
    | 2, _ => rfl
  have HM := Lib.hid HM
  clear hl
  cases hf : fd (l.map low) kindsL with
  | some i =>
    have i0 := fd_lt hf
    have i1 : (i : Int) < 3 := by
      have : (kindsL).length = 3 := by decide
      omega
    have E1 := Lib.hid (fdV_some hf)
    have E2 := Lib.hid (upV_some (k := 1) hf)
    clear hf i0
    go_enter Tryd.func15, Tryd.ntmps15
    go_wp2_with fail
    refine (find_any l w.heap.size 0 3 kindsL _ HL.out (len_of (by decide)) (by decide) (by simp) HM.out).mono ?_
    rintro e w1 ⟨rfl, hb⟩
    have HBw1 := Lib.hid (HB0.out.trans (hb.mono HB0.out.size))
    clear hb
    rw [E1.out]
    go_wp2_with fail
    go_ret2
    exact ⟨by first | (rw [E2.out]; rfl) | (rw [E2.out, Int.add_comm]; rfl), HBw1.out⟩
  | none =>
    have E1 := Lib.hid (fdV_none hf)
    have E2 := Lib.hid (upV_none (k := 1) hf)
    clear hf
    go_enter Tryd.func15, Tryd.ntmps15
    go_wp2_with fail
    refine (find_any l w.heap.size 0 3 kindsL _ HL.out (len_of (by decide)) (by decide) (by simp) HM.out).mono ?_
    rintro e w1 ⟨rfl, hb⟩
    have HBw1 := Lib.hid (HB0.out.trans (hb.mono HB0.out.size))
    clear hb
    rw [E1.out]
    go_wp2_with fail
    go_ret2
    exact ⟨by first | (rw [E2.out]; rfl) | (rw [E2.out, Int.add_comm]; rfl), HBw1.out⟩
end Go.Proofs.YtcfcfoiphadmkaaDoor
