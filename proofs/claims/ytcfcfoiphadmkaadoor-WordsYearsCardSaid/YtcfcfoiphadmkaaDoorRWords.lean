/-
  THE WALKS of the document's lists of words; the law's word; what both answers say of one word.
-/
import Derived.Test.YtcfcfoiphadmkaaDoorRFind
namespace Go.Proofs.YtcfcfoiphadmkaaDoor
open Go Go.RowKit

def monthsS : List (List UInt8) := [[106, 97, 110, 117, 97, 114, 121], [102, 101, 98, 114, 117, 97, 114, 121], [109, 97, 114, 99, 104], [97, 112, 114, 105, 108], [109, 97, 121], [106, 117, 110, 101], [106, 117, 108, 121], [97, 117, 103, 117, 115, 116], [115, 101, 112, 116, 101, 109, 98, 101, 114], [111, 99, 116, 111, 98, 101, 114], [110, 111, 118, 101, 109, 98, 101, 114], [100, 101, 99, 101, 109, 98, 101, 114]]
def weekdaysS : List (List UInt8) := [[115, 117, 110, 100, 97, 121], [109, 111, 110, 100, 97, 121], [116, 117, 101, 115, 100, 97, 121], [119, 101, 100, 110, 101, 115, 100, 97, 121], [116, 104, 117, 114, 115, 100, 97, 121], [102, 114, 105, 100, 97, 121], [115, 97, 116, 117, 114, 100, 97, 121]]
abbrev monthsSObj : Obj := .cells #[.string ⟨#[106, 97, 110, 117, 97, 114, 121]⟩, .string ⟨#[102, 101, 98, 114, 117, 97, 114, 121]⟩, .string ⟨#[109, 97, 114, 99, 104]⟩, .string ⟨#[97, 112, 114, 105, 108]⟩, .string ⟨#[109, 97, 121]⟩, .string ⟨#[106, 117, 110, 101]⟩, .string ⟨#[106, 117, 108, 121]⟩, .string ⟨#[97, 117, 103, 117, 115, 116]⟩, .string ⟨#[115, 101, 112, 116, 101, 109, 98, 101, 114]⟩, .string ⟨#[111, 99, 116, 111, 98, 101, 114]⟩, .string ⟨#[110, 111, 118, 101, 109, 98, 101, 114]⟩, .string ⟨#[100, 101, 99, 101, 109, 98, 101, 114]⟩] 9
theorem Months_any (w : World) :
    Calls Tryd.prog 14 #[] w fun e w' => e = .returned (.slice (some ⟨w.heap.size, 0, none⟩) 12 12) ∧ w' = w.alloc monthsSObj := by
  go_enter Tryd.func14, Tryd.ntmps14
  go_wp2_with fail
  go_ret
  exact ⟨rfl, rfl⟩
theorem monthsS_wl (w : World) : WL (w.alloc monthsSObj) w.heap.size 0 monthsS := fun j hj => by
  rw [Nat.zero_add]
  refine (World.cell?_alloc_mark w _ _ _ j).trans ?_
  match j, hj with
  | 0, _ => rfl
  | 1, _ => rfl
  | 2, _ => rfl
  | 3, _ => rfl
  | 4, _ => rfl
  | 5, _ => rfl
  | 6, _ => rfl
  | 7, _ => rfl
  | 8, _ => rfl
  | 9, _ => rfl
  | 10, _ => rfl
  | 11, _ => rfl
abbrev weekdaysSObj : Obj := .cells #[.string ⟨#[115, 117, 110, 100, 97, 121]⟩, .string ⟨#[109, 111, 110, 100, 97, 121]⟩, .string ⟨#[116, 117, 101, 115, 100, 97, 121]⟩, .string ⟨#[119, 101, 100, 110, 101, 115, 100, 97, 121]⟩, .string ⟨#[116, 104, 117, 114, 115, 100, 97, 121]⟩, .string ⟨#[102, 114, 105, 100, 97, 121]⟩, .string ⟨#[115, 97, 116, 117, 114, 100, 97, 121]⟩] 9
theorem Weekdays_any (w : World) :
    Calls Tryd.prog 19 #[] w fun e w' => e = .returned (.slice (some ⟨w.heap.size, 0, none⟩) 7 7) ∧ w' = w.alloc weekdaysSObj := by
  go_enter Tryd.func19, Tryd.ntmps19
  go_wp2_with fail
  go_ret
  exact ⟨rfl, rfl⟩
theorem weekdaysS_wl (w : World) : WL (w.alloc weekdaysSObj) w.heap.size 0 weekdaysS := fun j hj => by
  rw [Nat.zero_add]
  refine (World.cell?_alloc_mark w _ _ _ j).trans ?_
  match j, hj with
  | 0, _ => rfl
  | 1, _ => rfl
  | 2, _ => rfl
  | 3, _ => rfl
  | 4, _ => rfl
  | 5, _ => rfl
  | 6, _ => rfl
abbrev kindsLObj : Obj := .cells #[.string ⟨#[114, 117, 108, 101]⟩, .string ⟨#[122, 111, 110, 101]⟩, .string ⟨#[108, 105, 110, 107]⟩] 9
theorem Kinds_any (w : World) :
    Calls Tryd.prog 18 #[] w fun e w' => e = .returned (.slice (some ⟨w.heap.size, 0, none⟩) 3 3) ∧ w' = w.alloc kindsLObj := by
  go_enter Tryd.func18, Tryd.ntmps18
  go_wp2_with fail
  go_ret
  exact ⟨rfl, rfl⟩
theorem kindsL_wl (w : World) : WL (w.alloc kindsLObj) w.heap.size 0 kindsL := fun j hj => by
  rw [Nat.zero_add]
  refine (World.cell?_alloc_mark w _ _ _ j).trans ?_
  match j, hj with
  | 0, _ => rfl
  | 1, _ => rfl
  | 2, _ => rfl

theorem hits_congr {s : List UInt8} {ws ws' : List (List UInt8)} (h : ∀ j, (ws'.getD j []).map low = (ws.getD j []).map low) : ∀ k, hits s ws' k = hits s ws k
  | 0 => rfl
  | k + 1 => by
    rw [hits_succ, hits_succ, hits_congr h k]
    unfold hitAt
    rw [h k]
theorem fd_congr {s : List UInt8} {ws ws' : List (List UInt8)} (hl : ws'.length = ws.length) (h : ∀ j, j < ws.length → (ws'.getD j []).map low = (ws.getD j []).map low) : fd s ws' = fd s ws := by
  unfold fd
  rw [hl, hits_congr (fun j => ?_)]
  by_cases hj : j < ws.length
  · exact h j hj
  · rw [show ws'.getD j [] = [] by simp [List.getD, List.getElem?_eq_none (show ws'.length ≤ j by omega)], show ws.getD j [] = [] by simp [List.getD, List.getElem?_eq_none (show ws.length ≤ j by omega)]]
theorem fd_months (s : List UInt8) : fd s monthsS = fd s monthsL := fd_congr rfl (by decide +kernel)
theorem fd_weekdays (s : List UInt8) : fd s weekdaysS = fd s weekdaysL := fd_congr rfl (by decide +kernel)
theorem small_of {ws : List (List UInt8)} (h : ws.all (fun l => decide (l.map low = l ∧ l ≠ [])) = true) : Small ws := by
  intro j hj
  have := List.all_eq_true.1 h (ws.getD j []) (by simp [List.getD, hj])
  exact of_decide_eq_true this
theorem monthsS_small : Small monthsS := small_of (by decide +kernel)
theorem weekdaysS_small : Small weekdaysS := small_of (by decide +kernel)
theorem kindsL_small : Small kindsL := small_of (by decide +kernel)
theorem onlysL_small : Small onlysL := small_of (by decide +kernel)
theorem fdV_up (s : List UInt8) (ws : List (List UInt8)) : fdV s ws = upV 0 s ws := by
  cases h : fd s ws with
  | some i => rw [fdV_some h, upV_some h, Int.add_zero]
  | none => rw [fdV_none h, upV_none h]
theorem word_up (k : Int) (s : List UInt8) (ws ws' : List (List UInt8)) (hk : 0 ≤ k ∧ k ≤ 1) (hn : ws.length ≤ 1000) (hf : fd s ws' = fd s ws) : ∃ a e : Int, upV k s ws = .tuple #[.int .i64 a, .int .i64 e] ∧ ∀ w, Calls Tryd.prog 17 #[.int .i64 a, .int .i64 e, .int .i64 (rfd s ws'), .int .i64 k] w fun e w' => e = .returned (.bool true) ∧ w = w' := by
  cases h : fd s ws with
  | some i =>
    refine ⟨i + k, 0, upV_some h, fun w => ?_⟩
    rw [show rfd s ws' = i by unfold rfd; rw [hf, h]]
    have := fd_lt h
    obtain ⟨k1, k2⟩ := hk
    clear h hf
    have q : ((i : Int) + k == (i : Int) + k) = true := beq_self_eq_true _
    go_enter Tryd.func17, Tryd.ntmps17
    go_wp2_with fail
    go_ret
    exact ⟨rfl, rfl⟩
  | none =>
    refine ⟨0, 13, upV_none h, fun w => ?_⟩
    rw [show rfd s ws' = -1 by unfold rfd; rw [hf, h]]
    clear h hf
    go_enter Tryd.func17, Tryd.ntmps17
    go_wp2_with fail
    go_ret
    exact ⟨rfl, rfl⟩
end Go.Proofs.YtcfcfoiphadmkaaDoor
