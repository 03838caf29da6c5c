/-
  THE WALK of the document's Show.
-/
import Derived.Test.YtakpbgjmblbaiaaDoorShow
namespace Go.Proofs.YtakpbgjmblbaiaaDoor
open Go Go.RowKit AbbM

def rshowV (l : List UInt8) (off : Int) (dst : Bool) (t : List UInt8) : Value := .tuple #[.string ⟨(showS l off dst t).toArray⟩, .bool (decide (showE l off = 0))]
theorem kind_room {l : List UInt8} {k : Int} {p : Nat} (h : kindOf l = (k, p)) (hk : 1 ≤ k) : p + 1 ≤ l.length ∧ (k ≠ 3 → p + 2 ≤ l.length) := by
  obtain ⟨c, t, hl, _, hp, hc⟩ := kind_parts h hk
  have e : l.length = p + 1 + t.length := by
    have := congrArg List.length hl
    rw [List.length_append, List.length_cons, ← hp] at this
    omega
  refine ⟨by omega, fun h3 => ?_⟩
  have : t ≠ [] := by
    rintro rfl
    rcases hc with ⟨h, _⟩ | ⟨_, _, h⟩ | ⟨_, _, h⟩
    · exact h3 h
    · cases h
    · cases h
  have := List.length_pos_iff.2 this
  omega
theorem ba_take (l : List UInt8) (p : Nat) : (⟨l.toArray⟩ : ByteArray).extract 0 p = ⟨(l.take p).toArray⟩ := by
  rw [ByteArray.extract_mk]
  rfl
theorem ba_drop (l : List UInt8) (p : Nat) : (⟨l.toArray⟩ : ByteArray).extract p l.length = ⟨(l.drop p).toArray⟩ := by
  rw [ByteArray.extract_mk]
  show ByteArray.mk (List.take (l.length - p) (List.drop p l)).toArray = _
  rw [List.take_of_length_le (by simp)]
theorem rshow_any (l : List UInt8) (off : Int) (dst : Bool) (t : List UInt8) (w : World) (hl : l.length ≤ 1000) (ht : t.length ≤ 1000) :
    Calls Tryd.prog 14 #[.string ⟨l.toArray⟩, .int .i64 off, .bool dst, .string ⟨t.toArray⟩] w fun e w' => e = .returned (rshowV l off dst t) ∧ Below w.heap.size w w' := by
  rcases kind_cases l with hK | hK | ⟨p, hK⟩ | ⟨p, hK⟩ | ⟨p, hK⟩
  ·
    have EV := Lib.hid (show rshowV l off dst t = .tuple #[.string ⟨([] : List UInt8).toArray⟩, .bool false] by unfold rshowV showS showE; rw [hK]; simp )
    have HL := Lib.hid hl
    have HBw := Lib.hid (Below.refl w.heap.size w)
    have EK := Lib.hid (rkret_eq hK)
    clear hl hK
    go_enter Tryd.func14, Tryd.ntmps14
    go_wp2_with fail
    refine (rkind_any l _ HL.out).mono ?_
    rintro e w' ⟨rfl, rfl⟩
    rw [EK.out]
    go_wp2_with fail
    go_ret2
    exact ⟨by rw [EV.out]; rfl, HBw.out⟩
  ·
    have EV := Lib.hid (show rshowV l off dst t = .tuple #[.string ⟨(l : List UInt8).toArray⟩, .bool true] by unfold rshowV showS showE; rw [hK]; simp )
    have HL := Lib.hid hl
    have HBw := Lib.hid (Below.refl w.heap.size w)
    have EK := Lib.hid (rkret_eq hK)
    clear hl hK
    go_enter Tryd.func14, Tryd.ntmps14
    go_wp2_with fail
    refine (rkind_any l _ HL.out).mono ?_
    rintro e w' ⟨rfl, rfl⟩
    rw [EK.out]
    go_wp2_with fail
    go_ret2
    exact ⟨by rw [EV.out]; rfl, HBw.out⟩
  · have hr := kind_room hK (by decide)
    have r1 := hr.2 (by decide)
    clear hr
    have EV := Lib.hid (show rshowV l off dst t = .tuple #[.string ⟨(l.take p ++ (t ++ l.drop (p + 2)) : List UInt8).toArray⟩, .bool true] by unfold rshowV showS showE; rw [hK]; simp )
    have HL := Lib.hid hl
    have HBw := Lib.hid (Below.refl w.heap.size w)
    have EK := Lib.hid (rkret_eq hK)
    clear hl hK
    go_enter Tryd.func14, Tryd.ntmps14
    go_wp2_with fail
    refine (rkind_any l _ HL.out).mono ?_
    rintro e w' ⟨rfl, rfl⟩
    rw [EK.out]
    go_wp2_with fail
    have l3 := HL.out
    have r0 : p ≤ l.length := by omega
    go_region
    go_wp2_with fail
    go_ret2
    exact ⟨by rw [EV.out]; simp [ba_take, ba_drop, ba_app], HBw.out.drew⟩
  · have hr := kind_room hK (by decide)
    have r1 := hr.2 (by decide)
    clear hr
    by_cases ho : -360000 < off ∧ off < 360000
    ·
      have EV := Lib.hid (show rshowV l off dst t = .tuple #[.string ⟨(l.take p ++ (offText off ++ l.drop (p + 2)) : List UInt8).toArray⟩, .bool true] by unfold rshowV showS showE; rw [hK]; simp [ho])
      have HL := Lib.hid hl
      have HBw := Lib.hid (Below.refl w.heap.size w)
      have EK := Lib.hid (rkret_eq hK)
      clear hl hK
      go_enter Tryd.func14, Tryd.ntmps14
      go_wp2_with fail
      refine (rkind_any l _ HL.out).mono ?_
      rintro e w' ⟨rfl, rfl⟩
      rw [EK.out]
      go_wp2_with fail
      have l3 := HL.out
      have r0 : p ≤ l.length := by omega
      have OL := off_len off
      have G1 := Lib.hid (fun w => roffset_ok off w ho.1 ho.2)
      obtain ⟨o1, o2⟩ := ho
      go_wp2_with fail
      have ne := bw_ne w
      refine wp_region_bw (by kernel_rfl) (by kernel_rfl) ?_
      repeat (go_big_quiet_step (exact calls_bw (G1.out _)))
      refine wpQuiet_nil ?_
      intro w9 hw9
      obtain ⟨v, rfl⟩ := hw9
      go_wp2_with fail
      go_ret2
      exact ⟨by rw [EV.out]; simp [ba_take, ba_drop, ba_app], v.2⟩
    · have HO := Lib.hid ho
      by_cases ho1 : off ≤ -360000
      ·
        have EV := Lib.hid (show rshowV l off dst t = .tuple #[.string ⟨([] : List UInt8).toArray⟩, .bool false] by unfold rshowV showS showE; rw [hK]; simp [ho])
        have HL := Lib.hid hl
        have HBw := Lib.hid (Below.refl w.heap.size w)
        have EK := Lib.hid (rkret_eq hK)
        clear hl hK
        go_enter Tryd.func14, Tryd.ntmps14
        go_wp2_with fail
        refine (rkind_any l _ HL.out).mono ?_
        rintro e w' ⟨rfl, rfl⟩
        rw [EK.out]
        go_wp2_with fail
        clear ho
        go_wp2_with fail
        go_ret2
        exact ⟨by rw [EV.out]; rfl, HBw.out⟩
      · have ho2 : 360000 ≤ off := by omega
        have EV := Lib.hid (show rshowV l off dst t = .tuple #[.string ⟨([] : List UInt8).toArray⟩, .bool false] by unfold rshowV showS showE; rw [hK]; simp [ho])
        have HL := Lib.hid hl
        have HBw := Lib.hid (Below.refl w.heap.size w)
        have EK := Lib.hid (rkret_eq hK)
        clear hl hK
        go_enter Tryd.func14, Tryd.ntmps14
        go_wp2_with fail
        refine (rkind_any l _ HL.out).mono ?_
        rintro e w' ⟨rfl, rfl⟩
        rw [EK.out]
        go_wp2_with fail
        clear ho
        go_wp2_with fail
        go_ret2
        exact ⟨by rw [EV.out]; rfl, HBw.out⟩
  · have hr := kind_room hK (by decide)
    have r1 := hr.1
    clear hr
    cases dst with
    | true =>
      have EV := Lib.hid (show rshowV l off true t = .tuple #[.string ⟨(l.drop (p + 1) : List UInt8).toArray⟩, .bool true] by unfold rshowV showS showE; rw [hK]; simp)
      have HL := Lib.hid hl
      have HBw := Lib.hid (Below.refl w.heap.size w)
      have EK := Lib.hid (rkret_eq hK)
      clear hK
      go_enter Tryd.func14, Tryd.ntmps14
      have l3 := hl
      have r0 : p ≤ l.length := by omega
      clear hl
      go_wp2_with fail
      refine (rkind_any l _ HL.out).mono ?_
      rintro e w' ⟨rfl, rfl⟩
      rw [EK.out]
      go_wp2_with fail
      go_ret2
      exact ⟨by rw [EV.out]; simp [ba_drop], HBw.out⟩
    | false =>
      have EV := Lib.hid (show rshowV l off false t = .tuple #[.string ⟨(l.take p : List UInt8).toArray⟩, .bool true] by unfold rshowV showS showE; rw [hK]; simp)
      have HL := Lib.hid hl
      have HBw := Lib.hid (Below.refl w.heap.size w)
      have EK := Lib.hid (rkret_eq hK)
      clear hK
      go_enter Tryd.func14, Tryd.ntmps14
      have l3 := hl
      have r0 : p ≤ l.length := by omega
      clear hl
      go_wp2_with fail
      refine (rkind_any l _ HL.out).mono ?_
      rintro e w' ⟨rfl, rfl⟩
      rw [EK.out]
      go_wp2_with fail
      go_ret2
      exact ⟨by rw [EV.out]; simp [ba_take], HBw.out⟩
end Go.Proofs.YtakpbgjmblbaiaaDoor
