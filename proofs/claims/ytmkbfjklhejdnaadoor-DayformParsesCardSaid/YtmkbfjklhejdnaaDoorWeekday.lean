/-
  THE WALKS of words.Weekday and WeekdayName.
-/
import Derived.Test.YtmkbfjklhejdnaaDoorFind
namespace Go.Proofs.YtmkbfjklhejdnaaDoor
open Go Go.RowKit

def weekdaysL : List (List UInt8) := [[83, 117, 110, 100, 97, 121], [77, 111, 110, 100, 97, 121], [84, 117, 101, 115, 100, 97, 121], [87, 101, 100, 110, 101, 115, 100, 97, 121], [84, 104, 117, 114, 115, 100, 97, 121], [70, 114, 105, 100, 97, 121], [83, 97, 116, 117, 114, 100, 97, 121]]
def Wek (w : World) : Prop := WL w 2 0 weekdaysL
theorem WL.lt {w : World} {b off : Nat} {ws : List (List UInt8)} (h : WL w b off ws) (h0 : 0 < ws.length) : b < w.heap.size := block_lt_of_cell (h 0 h0)
theorem Wek.below {w w' : World} (h : Wek w) (hb : Below w.heap.size w w') : Wek w' := WL.below h hb (WL.lt h (by decide))
/-- a word's place, so many more; none -/
def upV (k : Int) (s : List UInt8) (ws : List (List UInt8)) : Value := .tuple (match fd s ws with | some i => #[.int .i64 ((i : Int) + k), .int .i64 0] | none => #[.int .i64 0, .int .i64 13])
theorem fdV_some {s : List UInt8} {ws : List (List UInt8)} {i : Nat} (h : fd s ws = some i) : fdV s ws = .tuple #[.int .i64 i, .int .i64 0] := by unfold fdV; rw [h]
theorem fdV_none {s : List UInt8} {ws : List (List UInt8)} (h : fd s ws = none) : fdV s ws = .tuple #[.int .i64 0, .int .i64 13] := by unfold fdV; rw [h]
theorem upV_some {k : Int} {s : List UInt8} {ws : List (List UInt8)} {i : Nat} (h : fd s ws = some i) : upV k s ws = .tuple #[.int .i64 (i + k), .int .i64 0] := by unfold upV; rw [h]
theorem upV_none {k : Int} {s : List UInt8} {ws : List (List UInt8)} (h : fd s ws = none) : upV k s ws = .tuple #[.int .i64 0, .int .i64 13] := by unfold upV; rw [h]
theorem hits_lt (s : List UInt8) (ws : List (List UInt8)) : ∀ k, ∀ x ∈ hits s ws k, x.1 < k
  | 0, x, h => by cases h
  | k + 1, x, h => by
    rw [hits_succ, List.mem_append] at h
    rcases h with h | h
    · have := hits_lt s ws k x h; omega
    · unfold hitAt at h
      split at h
      · simp at h; rw [h]; simp
      · cases h
theorem fd_lt {s : List UInt8} {ws : List (List UInt8)} {i : Nat} (h : fd s ws = some i) : i < ws.length := by
  unfold fd at h
  split at h
  · rename_i x hx
    cases h
    exact hits_lt s ws _ x (List.mem_of_find?_eq_some hx)
  · split at h
    · rename_i x hx
      cases h
      exact hits_lt s ws _ x (by rw [hx]; simp)
    · cases h
theorem len_of {ws : List (List UInt8)} (h : ws.all (fun l => decide (l.length ≤ 1000)) = true) : ∀ j, j < ws.length → (ws.getD j []).length ≤ 1000 := by
  intro j hj
  have := List.all_eq_true.1 h (ws.getD j []) (by simp [List.getD, hj])
  exact of_decide_eq_true this
theorem wweekday_any (l : List UInt8) (w : World) (hM : Wek w) (hl : l.length ≤ 1000) :
    Calls Tryd.prog 23 #[.string ⟨l.toArray⟩] w fun e w' => e = .returned (fdV (l.map low) weekdaysL) ∧ Below w.heap.size w w' := by
  have HM := Lib.hid hM
  have HL := Lib.hid hl
  have HB0 := Lib.hid (Below.refl w.heap.size w)
  clear hM hl
  cases hf : fd (l.map low) weekdaysL with
  | some i =>
    have i0 := fd_lt hf
    have i1 : (i : Int) < 7 := by
      have : (weekdaysL).length = 7 := by decide
      omega
    have E1 := Lib.hid (fdV_some hf)
    have E2 := Lib.hid (fdV_some  hf)
    clear hf i0
    go_enter Tryd.func23, Tryd.ntmps23
    go_wp2_with fail
    refine (find_any l 2 0 7 weekdaysL _ HL.out (len_of (by decide)) (by decide) (WL.lt HM.out (by decide)) HM.out).mono ?_
    rintro e w1 ⟨rfl, hb⟩
    have HBw1 := Lib.hid (HB0.out.trans (hb.mono HB0.out.size))
    clear hb
    rw [E1.out]
    go_wp2_with fail
    go_ret2
    exact ⟨by first | (rw [E2.out]; rfl) | (rw [E2.out, Int.add_comm]; rfl), HBw1.out⟩
  | none =>
    have E1 := Lib.hid (fdV_none hf)
    have E2 := Lib.hid (fdV_none  hf)
    clear hf
    go_enter Tryd.func23, Tryd.ntmps23
    go_wp2_with fail
    refine (find_any l 2 0 7 weekdaysL _ HL.out (len_of (by decide)) (by decide) (WL.lt HM.out (by decide)) HM.out).mono ?_
    rintro e w1 ⟨rfl, hb⟩
    have HBw1 := Lib.hid (HB0.out.trans (hb.mono HB0.out.size))
    clear hb
    rw [E1.out]
    go_wp2_with fail
    go_ret2
    exact ⟨by first | (rw [E2.out]; rfl) | (rw [E2.out, Int.add_comm]; rfl), HBw1.out⟩
theorem ba_take (l : List UInt8) (p : Nat) : (⟨l.toArray⟩ : ByteArray).extract 0 p = ⟨(l.take p).toArray⟩ := by
  rw [ByteArray.extract_mk]
  rfl
theorem name_ok (b off cap : Nat) (ws : List (List UInt8)) (i : Nat) (w : World) (hc : WL w b off ws) (hi : i < ws.length) (h3 : 3 ≤ (ws.getD i []).length) :
    Calls Tryd.prog 54 #[.slice (some ⟨b, off, none⟩) ws.length cap, .int .i64 i] w fun e w' => e = .returned (.tuple #[.string ⟨((ws.getD i []).take 3).toArray⟩, .int .i64 0]) ∧ Below w.heap.size w w' := by
  have c0 := hc i hi
  have hi2 : (i : Int) < (ws.length : Int) := by omega
  have hi0 : 0 ≤ (i : Int) := by omega
  generalize ws.getD i [] = x at *
  have X := Lib.hid (ba_take x 3)
  go_enter Tryd.func54, Tryd.ntmps54
  go_wp2_with fail
  go_ret2
  exact ⟨by rw [← X.out]; rfl, Below.refl _ _⟩
theorem name_no (b off n cap : Nat) (i : Int) (w : World) (hi : ¬ (0 ≤ i ∧ i < n)) :
    Calls Tryd.prog 54 #[.slice (some ⟨b, off, none⟩) n cap, .int .i64 i] w fun e w' => e = .returned (.tuple #[.string ⟨#[]⟩, .int .i64 10]) ∧ Below w.heap.size w w' := by
  by_cases h : i < 0
  · clear hi
    go_enter Tryd.func54, Tryd.ntmps54
    go_wp2_with fail
    go_ret2
    exact ⟨rfl, Below.refl _ _⟩
  · have h2 : (n : Int) ≤ i := by omega
    clear hi
    go_enter Tryd.func54, Tryd.ntmps54
    go_wp2_with fail
    go_ret2
    exact ⟨rfl, Below.refl _ _⟩
theorem weekdays3 : ∀ i, i < 7 → 3 ≤ (weekdaysL.getD i []).length := by decide
theorem weekdayname_ok (i : Nat) (w : World) (hM : Wek w) (hi : i < 7) :
    Calls Tryd.prog 40 #[.int .i64 i] w fun e w' => e = .returned (.tuple #[.string ⟨((weekdaysL.getD i []).take 3).toArray⟩, .int .i64 0]) ∧ Below w.heap.size w w' := by
  have HM := Lib.hid hM
  have HB0 := Lib.hid (Below.refl w.heap.size w)
  clear hM
  go_enter Tryd.func40, Tryd.ntmps40
  go_wp2_with fail
  refine (name_ok 2 0 7 weekdaysL i _ HM.out hi (weekdays3 i hi)).mono ?_
  rintro e w1 ⟨rfl, hb⟩
  have HBw1 := Lib.hid (HB0.out.trans (hb.mono HB0.out.size))
  clear hb
  go_wp2_with fail
  go_ret2
  exact ⟨rfl, HBw1.out⟩
theorem weekdayname_no (n : Int) (w : World) (hn : ¬ (0 ≤ n ∧ n ≤ 6)) :
    Calls Tryd.prog 40 #[.int .i64 n] w fun e w' => e = .returned (.tuple #[.string ⟨#[]⟩, .int .i64 10]) ∧ Below w.heap.size w w' := by
  have HB0 := Lib.hid (Below.refl w.heap.size w)
  have HN := Lib.hid (show ¬ (0 ≤ n ∧ n < ((7 : Nat) : Int)) by omega)
  clear hn
  go_enter Tryd.func40, Tryd.ntmps40
  go_wp2_with fail
  refine (name_no 2 0 7 7 n _ HN.out).mono ?_
  rintro e w1 ⟨rfl, hb⟩
  have HBw1 := Lib.hid (HB0.out.trans (hb.mono HB0.out.size))
  clear hb
  go_wp2_with fail
  go_ret2
  exact ⟨rfl, HBw1.out⟩
theorem weekdays_back : ∀ i, i < 7 → fd (((weekdaysL.getD i []).take 3).map low) weekdaysL = some i := by decide +kernel
theorem weekdays_len : ∀ i, i < 7 → ((weekdaysL.getD i []).take 3).length = 3 := by decide
end Go.Proofs.YtmkbfjklhejdnaaDoor
