/-
  THE WALK of dayform.Parse.
-/
import Derived.Test.YtmkbfjklhejdnaaDoorDayNum
namespace Go.Proofs.YtmkbfjklhejdnaaDoor
open Go Go.RowKit CivM NumM
theorem ba_drop (l : List UInt8) (p : Nat) : (⟨l.toArray⟩ : ByteArray).extract p l.length = ⟨(l.drop p).toArray⟩ := by
  rw [ByteArray.extract_mk]
  show ByteArray.mk (List.take (l.length - p) (List.drop p l)).toArray = _
  rw [List.take_of_length_le (by simp)]
abbrev dayV (k i u : Int) : Value := .tuple #[.agg #[.int .i64 k, .int .i64 i, .int .i64 u], .int .i64 0]
abbrev errV (e : Int) : Value := .tuple #[.agg #[.int .i64 0, .int .i64 0, .int .i64 0], .int .i64 e]
theorem szY : (Tryd.prog.info? 24).map (·.size) = some 3 := by kernel_rfl
theorem DyB.set0 {w : World} {B : Nat} {k y n : Int} (h : DyB w B k y n) (v : Int) : DyB (w.setCell ⟨B, 0, none⟩ (.int .i64 v)) B v y n := heap_setCell_same w B 0 _ _ _ h
theorem DyB.set1 {w : World} {B : Nat} {k y n : Int} (h : DyB w B k y n) (v : Int) : DyB (w.setCell ⟨B, 1, none⟩ (.int .i64 v)) B k v n := heap_setCell_same w B 1 _ _ _ h
theorem DyB.set2 {w : World} {B : Nat} {k y n : Int} (h : DyB w B k y n) (v : Int) : DyB (w.setCell ⟨B, 2, none⟩ (.int .i64 v)) B k y v := heap_setCell_same w B 2 _ _ _ h
theorem DyB.far {w : World} {B : Nat} {k y n : Int} (h : DyB w B k y n) {p : Addr} (hp : B ≠ p.block) (v : Value) : DyB (w.setCell p v) B k y n := (heap_setCell_other w p B v hp).trans h
theorem DyB.free {w : World} {B : Nat} {k y n : Int} (h : DyB w B k y n) (j : Nat) : w.frozen? ⟨B, j, none⟩ = false := frozen_of_row w B j _ _ h
/-- what Parse reads -/
structure PReads (w : World) : Prop where
  s : Sgn w
  b : Big w
  k : Wek w
  t : Txt w
theorem PReads.below {w w' : World} (h : PReads w) (hb : Below w.heap.size w w') : PReads w' := ⟨h.s.below hb, h.b.below hb, h.k.below hb, h.t.below hb⟩
set_option maxRecDepth 100000 in
set_option maxHeartbeats 2000000 in
theorem parse_sign_ok (l : List UInt8) (A i u : Nat) (kd : Int) (w : World) (hl : l.length ≤ 1000) (hP : PReads w) (hs : sg l = ((A : Int), kd)) (hk : kd = 2 ∨ kd = 3) (hA : A + 2 ≤ l.length)
    (hf : fd ((l.take A).map low) weekdaysL = some i) (hn : nm (l.drop (A + 2)) = some u) (hu : u ≤ 31) :
    Calls Tryd.prog 10 #[.string ⟨l.toArray⟩] w fun e w' => e = .returned (dayV kd i u) ∧ Below w.heap.size w w' := by
  have E1 := Lib.hid (fdV_some hf)
  have E2 := Lib.hid (nmV_ok hn hu)
  have HA := Lib.hid hA
  have XT := Lib.hid (ba_take l A)
  have XD := Lib.hid (ba_drop l (A + 2))
  have hA1 : (A : Int) + 2 ≤ (l.length : Int) := by omega
  have hA4 : (A : Int) ≤ 998 := by omega
  have hk1 : 2 ≤ kd := by omega
  have hk2 : kd ≤ 3 := by omega
  have HK := Lib.hid hk
  clear hf hn hu hA hk
  have HL := Lib.hid hl
  have HP := Lib.hid hP
  have HSg := Lib.hid hs
  clear hl hP hs
  go_enter Tryd.func10, Tryd.ntmps10
  go_wp2_with fail
  generalize hW0 : (w.alloc (.cells #[.int .i64 0, .int .i64 0, .int .i64 0] 24)).alloc (.cells #[.int .i64 0, .int .i64 0, .int .i64 0] 24) = W0
  have hB0 : Below w.heap.size w W0 := by
    rw [← hW0]
    exact ((Below.refl _ _).alloc (Nat.le_refl _) _).alloc (by simp only [World.size_alloc]; omega) _
  have kR : DyB W0 w.heap.size 0 0 0 := by
    rw [← hW0]
    exact (Below.heap_alloc _ _ _ (by simp only [World.size_alloc]; omega)).trans (DyB.new w 0 0 0)
  have kO : DyB W0 (w.heap.size + 1) 0 0 0 := by
    rw [← hW0]
    have := DyB.new (w.alloc (.cells #[.int .i64 0, .int .i64 0, .int .i64 0] 24)) 0 0 0
    simpa using this
  have s0 : W0.heap.size = w.heap.size + 2 := by rw [← hW0]; simp
  clear hW0
  have HB0 := Lib.hid hB0
  have HR0 := Lib.hid kR
  have HO0 := Lib.hid kO
  clear hB0 kR kO
  refine (sign_any l _ (HP.out.s.below HB0.out) (HP.out.b.below HB0.out) HL.out).mono ?_
  rintro e w9 ⟨rfl, rfl⟩
  rw [HSg.out]
  go_wp2_with fail
  rw [XT.out]
  refine (wweekday_any (l.take A) _ (HP.out.k.below HB0.out) (by have := HL.out; simp; omega)).mono ?_
  rintro e W1 ⟨rfl, hb⟩
  have HB1 := Lib.hid (HB0.out.trans (hb.mono (by (try simp only [World.size_setCell]); omega)))
  have HR1 := Lib.hid (DyB.below (HR0.out) hb (by (try simp only [World.size_setCell]); omega))
  have HO1 := Lib.hid (DyB.below (HO0.out) hb (by (try simp only [World.size_setCell]); omega))
  have s1 : w.heap.size + 2 ≤ W1.heap.size := by have := hb.size; (try simp only [World.size_setCell] at this); omega
  obtain ⟨r0, r1, r2⟩ := HR1.out.cells
  obtain ⟨o0, o1, o2⟩ := HO1.out.cells
  have fr0 := HR1.out.free 0
  have fr1 := HR1.out.free 1
  have fr2 := HR1.out.free 2
  have fo0 := HO1.out.free 0
  have fo1 := HO1.out.free 1
  have fo2 := HO1.out.free 2
  clear hb
  rw [E1.out]
  have S1 := Lib.hid (HP.out.s.below HB1.out)
  have ck : W1.cell? ⟨0, kd.toNat, none⟩ = some (.string ⟨#[if kd = 2 then 62 else 60, 61]⟩) := by
    rcases HK.out with h | h
    · rw [h]; exact S1.out.2.2.1
    · rw [h]; exact S1.out.2.2.2
  generalize (if kd = 2 then (62 : UInt8) else 60) = cc at ck
  have hg : 0 < w.heap.size := block_lt_of_cell HP.out.s.1
  go_wp2_with fail
  rw [XD.out]
  clear ck
  refine (number_any (l.drop (A + 2)) _ (by have := HL.out; simp; omega) (HP.out.below (HB1.out.setCell (by simp only; omega) _)).t).mono ?_
  rintro e W2 ⟨rfl, hb⟩
  clear r0 r1 r2 o0 o1 o2 fr0 fr1 fr2 fo0 fo1 fo2
  have HB2 := Lib.hid ((HB1.out.setCell (by simp only; omega) _).trans (hb.mono (by (try simp only [World.size_setCell]); omega)))
  have HR2 := Lib.hid (DyB.below (HR1.out.far (by simp only; omega) _) hb (by (try simp only [World.size_setCell]); omega))
  have HO2 := Lib.hid (DyB.below (HO1.out.set1 _) hb (by (try simp only [World.size_setCell]); omega))
  have s2 : w.heap.size + 2 ≤ W2.heap.size := by have := hb.size; (try simp only [World.size_setCell] at this); omega
  obtain ⟨r0, r1, r2⟩ := HR2.out.cells
  obtain ⟨o0, o1, o2⟩ := HO2.out.cells
  have fr0 := HR2.out.free 0
  have fr1 := HR2.out.free 1
  have fr2 := HR2.out.free 2
  have fo0 := HO2.out.free 0
  have fo1 := HO2.out.free 1
  have fo2 := HO2.out.free 2
  clear hb
  rw [E2.out]
  go_wp2_with fail
  refine ret_row_tmp (B := w.heap.size) _ rfl rfl rfl ((((HR2.out.far (by simp only; omega) _).far (by simp only; omega) _).set0 _).set1 _ |>.set2 _) Tryd.underlying24 rfl szY ⟨rfl, ?_⟩
  exact ((((HB2.out.setCell (by simp only; omega) _).setCell (by simp only; omega) _).setCell (by simp only; omega) _).setCell (by simp only; omega) _).setCell (by simp only; omega) _
/-- that a text's first four bytes are 'last', or not, in any case of its letters -/
def EqL (l : List UInt8) (b : Bool) : Prop := ∀ w : World, Calls Tryd.prog 25 #[.string ⟨(l.take 4).toArray⟩, .string ⟨#[108, 97, 115, 116]⟩] w fun e w' => e = .returned (.bool b) ∧ w = w'
set_option maxRecDepth 100000 in
set_option maxHeartbeats 2000000 in
theorem parse_last_ok (l : List UInt8) (i : Nat) (w : World) (hl : l.length ≤ 1000) (hP : PReads w) (hs : sg l = (-1, 0)) (h4 : 4 ≤ l.length) (hE : EqL l true) (hf : fd ((l.drop 4).map low) weekdaysL = some i) :
    Calls Tryd.prog 10 #[.string ⟨l.toArray⟩] w fun e w' => e = .returned (dayV 1 i 0) ∧ Below w.heap.size w w' := by
  have E1 := Lib.hid (fdV_some hf)
  have HE := Lib.hid hE
  have XT := Lib.hid (ba_take l 4)
  have XD := Lib.hid (ba_drop l 4)
  have h5 : 4 ≤ (l.length : Int) := by omega
  clear hf hE h4
  have HL := Lib.hid hl
  have HP := Lib.hid hP
  have HSg := Lib.hid hs
  clear hl hP hs
  go_enter Tryd.func10, Tryd.ntmps10
  go_wp2_with fail
  generalize hW0 : (w.alloc (.cells #[.int .i64 0, .int .i64 0, .int .i64 0] 24)).alloc (.cells #[.int .i64 0, .int .i64 0, .int .i64 0] 24) = W0
  have hB0 : Below w.heap.size w W0 := by
    rw [← hW0]
    exact ((Below.refl _ _).alloc (Nat.le_refl _) _).alloc (by simp only [World.size_alloc]; omega) _
  have kR : DyB W0 w.heap.size 0 0 0 := by
    rw [← hW0]
    exact (Below.heap_alloc _ _ _ (by simp only [World.size_alloc]; omega)).trans (DyB.new w 0 0 0)
  have kO : DyB W0 (w.heap.size + 1) 0 0 0 := by
    rw [← hW0]
    have := DyB.new (w.alloc (.cells #[.int .i64 0, .int .i64 0, .int .i64 0] 24)) 0 0 0
    simpa using this
  have s0 : W0.heap.size = w.heap.size + 2 := by rw [← hW0]; simp
  clear hW0
  have HB0 := Lib.hid hB0
  have HR0 := Lib.hid kR
  have HO0 := Lib.hid kO
  clear hB0 kR kO
  refine (sign_any l _ (HP.out.s.below HB0.out) (HP.out.b.below HB0.out) HL.out).mono ?_
  rintro e w9 ⟨rfl, rfl⟩
  rw [HSg.out]
  obtain ⟨o0, o1, o2⟩ := HO0.out.cells
  have fo0 := HO0.out.free 0
  go_wp2_with fail
  rw [XT.out]
  refine (HE.out _).mono ?_
  rintro e w9 ⟨rfl, rfl⟩
  go_wp2_with fail
  rw [XD.out]
  have HBS := Lib.hid (HB0.out.setCell (p := ⟨w.heap.size + 1, 0, none⟩) (by simp only; omega) (.int .i64 1))
  refine (wweekday_any (l.drop 4) _ (HP.out.k.below HBS.out) (by have := HL.out; simp; omega)).mono ?_
  rintro e W1 ⟨rfl, hb⟩
  clear o0 o1 o2 fo0
  have HB1 := Lib.hid (HBS.out.trans (hb.mono (by (try simp only [World.size_setCell]); omega)))
  have HR1 := Lib.hid (DyB.below (HR0.out.far (by simp only; omega) _) hb (by (try simp only [World.size_setCell]); omega))
  have HO1 := Lib.hid (DyB.below (HO0.out.set0 _) hb (by (try simp only [World.size_setCell]); omega))
  have s1 : w.heap.size + 2 ≤ W1.heap.size := by have := hb.size; (try simp only [World.size_setCell] at this); omega
  obtain ⟨r0, r1, r2⟩ := HR1.out.cells
  obtain ⟨o0, o1, o2⟩ := HO1.out.cells
  have fr0 := HR1.out.free 0
  have fr1 := HR1.out.free 1
  have fr2 := HR1.out.free 2
  have fo0 := HO1.out.free 0
  have fo1 := HO1.out.free 1
  have fo2 := HO1.out.free 2
  clear hb
  rw [E1.out]
  go_wp2_with fail
  refine ret_row_tmp (B := w.heap.size) _ rfl rfl rfl (((HR1.out.far (by simp only; omega) _).set0 _).set1 _ |>.set2 _) Tryd.underlying24 rfl szY ⟨rfl, ?_⟩
  exact (((HB1.out.setCell (by simp only; omega) _).setCell (by simp only; omega) _).setCell (by simp only; omega) _).setCell (by simp only; omega) _
set_option maxRecDepth 100000 in
set_option maxHeartbeats 2000000 in
theorem parse_num_ok (l : List UInt8) (u : Nat) (w : World) (hl : l.length ≤ 1000) (hP : PReads w) (hs : sg l = (-1, 0)) (h4 : l.length < 4) (hn : nm l = some u) (hu : u ≤ 31) :
    Calls Tryd.prog 10 #[.string ⟨l.toArray⟩] w fun e w' => e = .returned (dayV 0 0 u) ∧ Below w.heap.size w w' := by
  have E2 := Lib.hid (nmV_ok hn hu)
  have h5 : (l.length : Int) < 4 := by omega
  clear hn hu h4
  have HL := Lib.hid hl
  have HP := Lib.hid hP
  have HSg := Lib.hid hs
  clear hl hP hs
  go_enter Tryd.func10, Tryd.ntmps10
  go_wp2_with fail
  generalize hW0 : (w.alloc (.cells #[.int .i64 0, .int .i64 0, .int .i64 0] 24)).alloc (.cells #[.int .i64 0, .int .i64 0, .int .i64 0] 24) = W0
  have hB0 : Below w.heap.size w W0 := by
    rw [← hW0]
    exact ((Below.refl _ _).alloc (Nat.le_refl _) _).alloc (by simp only [World.size_alloc]; omega) _
  have kR : DyB W0 w.heap.size 0 0 0 := by
    rw [← hW0]
    exact (Below.heap_alloc _ _ _ (by simp only [World.size_alloc]; omega)).trans (DyB.new w 0 0 0)
  have kO : DyB W0 (w.heap.size + 1) 0 0 0 := by
    rw [← hW0]
    have := DyB.new (w.alloc (.cells #[.int .i64 0, .int .i64 0, .int .i64 0] 24)) 0 0 0
    simpa using this
  have s0 : W0.heap.size = w.heap.size + 2 := by rw [← hW0]; simp
  clear hW0
  have HB0 := Lib.hid hB0
  have HR0 := Lib.hid kR
  have HO0 := Lib.hid kO
  clear hB0 kR kO
  refine (sign_any l _ (HP.out.s.below HB0.out) (HP.out.b.below HB0.out) HL.out).mono ?_
  rintro e w9 ⟨rfl, rfl⟩
  rw [HSg.out]
  go_wp2_with fail
  refine (number_any l _ HL.out (HP.out.t.below HB0.out)).mono ?_
  rintro e W1 ⟨rfl, hb⟩
  have HB1 := Lib.hid (HB0.out.trans (hb.mono (by (try simp only [World.size_setCell]); omega)))
  have HR1 := Lib.hid (DyB.below (HR0.out) hb (by (try simp only [World.size_setCell]); omega))
  have HO1 := Lib.hid (DyB.below (HO0.out) hb (by (try simp only [World.size_setCell]); omega))
  have s1 : w.heap.size + 2 ≤ W1.heap.size := by have := hb.size; (try simp only [World.size_setCell] at this); omega
  obtain ⟨r0, r1, r2⟩ := HR1.out.cells
  obtain ⟨o0, o1, o2⟩ := HO1.out.cells
  have fr0 := HR1.out.free 0
  have fr1 := HR1.out.free 1
  have fr2 := HR1.out.free 2
  have fo0 := HO1.out.free 0
  have fo1 := HO1.out.free 1
  have fo2 := HO1.out.free 2
  clear hb
  rw [E2.out]
  go_wp2_with fail
  refine ret_row_tmp (B := w.heap.size) _ rfl rfl rfl (((HR1.out.far (by simp only; omega) _).set0 _).set1 _ |>.set2 _) Tryd.underlying24 rfl szY ⟨rfl, ?_⟩
  exact (((HB1.out.setCell (by simp only; omega) _).setCell (by simp only; omega) _).setCell (by simp only; omega) _).setCell (by simp only; omega) _
end Go.Proofs.YtmkbfjklhejdnaaDoor
