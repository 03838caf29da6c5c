/-
  WHAT dayform.Parse ANSWERS, at any text, in plain words; the walks of Parse at any text.
-/
import Derived.Test.YtmkbfjklhejdnaaDoorParse
namespace Go.Proofs.YtmkbfjklhejdnaaDoor
open Go Go.RowKit CivM NumM
def numE (l : List UInt8) : Int × Int := match nm l with | none => (0, 12) | some u => if 31 < u then (0, 10) else ((u : Int), 0)
theorem nmV_eq (l : List UInt8) : nmV l = .tuple #[.int .i64 (numE l).1, .int .i64 (numE l).2] := by
  unfold nmV numE
  cases nm l with
  | none => rfl
  | some u => by_cases h : 31 < u <;> simp [h]
def wkE (s : List UInt8) : Int × Int := match fd s weekdaysL with | some i => ((i : Int), 0) | none => (0, 13)
theorem wkV_eq (s : List UInt8) : fdV s weekdaysL = .tuple #[.int .i64 (wkE s).1, .int .i64 (wkE s).2] := by
  unfold fdV wkE
  cases fd s weekdaysL <;> rfl
/-- 'last', in any case of its letters -/
def lastB (l : List UInt8) : Prop := 4 ≤ l.length ∧ (l.take 4).map low = [108, 97, 115, 116]
instance (l : List UInt8) : Decidable (lastB l) := inferInstanceAs (Decidable (_ ∧ _))
/-- kind, week, number, error -/
structure Dp where
  k : Int
  i : Int
  u : Int
  e : Int
def dpS (kd : Int) (p q : Int × Int) : Dp := if p.2 = 0 then (if q.2 = 0 then ⟨kd, p.1, q.1, 0⟩ else ⟨0, 0, 0, q.2⟩) else ⟨0, 0, 0, p.2⟩
def dpL (p : Int × Int) : Dp := if p.2 = 0 then ⟨1, p.1, 0, 0⟩ else ⟨0, 0, 0, p.2⟩
def dpN (q : Int × Int) : Dp := if q.2 = 0 then ⟨0, 0, q.1, 0⟩ else ⟨0, 0, 0, q.2⟩
def dp (l : List UInt8) : Dp := if 0 ≤ (sg l).1 then dpS (sg l).2 (wkE ((l.take (sg l).1.toNat).map low)) (numE (l.drop ((sg l).1.toNat + 2))) else if lastB l then dpL (wkE ((l.drop 4).map low)) else dpN (numE l)
abbrev dpV (d : Dp) : Value := .tuple #[.agg #[.int .i64 d.k, .int .i64 d.i, .int .i64 d.u], .int .i64 d.e]
/-- Weekday answers this -/
def WIs (s : List UInt8) (i e : Int) : Prop := ∀ w, Wek w → Calls Tryd.prog 23 #[.string ⟨s.toArray⟩] w fun e' w' => e' = .returned (.tuple #[.int .i64 i, .int .i64 e]) ∧ Below w.heap.size w w'
def NIs (s : List UInt8) (u e : Int) : Prop := ∀ w, Txt w → Calls Tryd.prog 24 #[.string ⟨s.toArray⟩] w fun e' w' => e' = .returned (.tuple #[.int .i64 u, .int .i64 e]) ∧ Below w.heap.size w w'
theorem wis_any (s : List UInt8) (hl : s.length ≤ 1000) : WIs s (wkE (s.map low)).1 (wkE (s.map low)).2 := fun w hw => by
  have := wweekday_any s w hw hl
  rwa [wkV_eq] at this
theorem nis_any (s : List UInt8) (hl : s.length ≤ 1000) : NIs s (numE s).1 (numE s).2 := fun w hw => by
  have := number_any s w hl hw
  rwa [nmV_eq] at this
/-- that a text's first four bytes are 'last', or not; the walk may make memory -/
def EqB (F : World → Prop) (l : List UInt8) (b : Bool) : Prop := ∀ w : World, F w → Calls Tryd.prog 25 #[.string ⟨(l.take 4).toArray⟩, .string ⟨#[108, 97, 115, 116]⟩] w fun e w' => e = .returned (.bool b) ∧ Below w.heap.size w w'
set_option maxRecDepth 100000 in
set_option maxHeartbeats 2000000 in
theorem ps_week (l : List UInt8) (A : Nat) (i f kd : Int) (w : World) (hl : l.length ≤ 1000) (hP : PReads w) (hs : sg l = ((A : Int), kd)) (hk : kd = 2 ∨ kd = 3) (hA : A + 2 ≤ l.length)
    (hW : WIs (l.take A) i f) (hf : (f != 0) = true) :
    Calls Tryd.prog 10 #[.string ⟨l.toArray⟩] w fun e' w' => e' = .returned (errV f) ∧ Below w.heap.size w w' := by
  have hN : True := trivial
  have XT := Lib.hid (ba_take l A)
  have XD := Lib.hid (ba_drop l (A + 2))
  have HW := Lib.hid hW
  have HN := Lib.hid hN
  have hA1 : (A : Int) + 2 ≤ (l.length : Int) := by omega
  have hA4 : (A : Int) ≤ 998 := by omega
  have hk1 : 2 ≤ kd := by omega
  have hk2 : kd ≤ 3 := by omega
  have HK := Lib.hid hk
  clear hk hW hN hA
  have HL := Lib.hid hl
  have HP := Lib.hid hP
  have HSg := Lib.hid hs
  clear hl hP hs
  go_enter Tryd.func10, Tryd.ntmps10
  go_wp2_with fail
  generalize hW0 : (w.alloc (.cells #[.int .i64 0, .int .i64 0, .int .i64 0] 24)).alloc (.cells #[.int .i64 0, .int .i64 0, .int .i64 0] 24) = W0
  have hB0 : Below w.heap.size w W0 := by
    rw [← hW0]
    exact ((Below.refl _ _).alloc (Nat.le_refl _) _).alloc (by simp only [World.size_alloc]; omega) _
  have kR : DyB W0 w.heap.size 0 0 0 := by
    rw [← hW0]
    exact (Below.heap_alloc _ _ _ (by simp only [World.size_alloc]; omega)).trans (DyB.new w 0 0 0)
  have kO : DyB W0 (w.heap.size + 1) 0 0 0 := by
    rw [← hW0]
    have := DyB.new (w.alloc (.cells #[.int .i64 0, .int .i64 0, .int .i64 0] 24)) 0 0 0
    simpa using this
  have s0 : W0.heap.size = w.heap.size + 2 := by rw [← hW0]; simp
  clear hW0
  have HB0 := Lib.hid hB0
  have HR0 := Lib.hid kR
  have HO0 := Lib.hid kO
  clear hB0 kR kO
  refine (sign_any l _ (HP.out.s.below HB0.out) (HP.out.b.below HB0.out) HL.out).mono ?_
  rintro e w9 ⟨rfl, rfl⟩
  rw [HSg.out]
  go_wp2_with fail
  rw [XT.out]
  refine (HW.out _ (HP.out.k.below HB0.out)).mono ?_
  rintro e W1 ⟨rfl, hb⟩
  have HB1 := Lib.hid (HB0.out.trans (hb.mono (by (try simp only [World.size_setCell]); omega)))
  have HR1 := Lib.hid (DyB.below (HR0.out) hb (by (try simp only [World.size_setCell]); omega))
  have HO1 := Lib.hid (DyB.below (HO0.out) hb (by (try simp only [World.size_setCell]); omega))
  have s1 : w.heap.size + 2 ≤ W1.heap.size := by have := hb.size; (try simp only [World.size_setCell] at this); omega
  obtain ⟨r0, r1, r2⟩ := HR1.out.cells
  obtain ⟨o0, o1, o2⟩ := HO1.out.cells
  have fr0 := HR1.out.free 0
  have fr1 := HR1.out.free 1
  have fr2 := HR1.out.free 2
  have fo0 := HO1.out.free 0
  have fo1 := HO1.out.free 1
  have fo2 := HO1.out.free 2
  clear hb
  go_wp2_with fail
  refine ret_row_tmp (B := w.heap.size) _ rfl rfl rfl (((((HR1.out.far (by simp only; omega) _).far (by simp only; omega) _).set0 _).set1 _).set2 _) Tryd.underlying24 rfl szY ⟨rfl, ?_⟩
  exact ((((HB1.out.setCell (by simp only; omega) _).setCell (by simp only; omega) _).setCell (by simp only; omega) _).setCell (by simp only; omega) _).setCell (by simp only; omega) _
set_option maxRecDepth 100000 in
set_option maxHeartbeats 2000000 in
theorem ps_num (l : List UInt8) (A : Nat) (i u f kd : Int) (w : World) (hl : l.length ≤ 1000) (hP : PReads w) (hs : sg l = ((A : Int), kd)) (hk : kd = 2 ∨ kd = 3) (hA : A + 2 ≤ l.length)
    (hW : WIs (l.take A) i 0) (hN : NIs (l.drop (A + 2)) u f) (hf : (f != 0) = true) :
    Calls Tryd.prog 10 #[.string ⟨l.toArray⟩] w fun e' w' => e' = .returned (errV f) ∧ Below w.heap.size w w' := by
  have XT := Lib.hid (ba_take l A)
  have XD := Lib.hid (ba_drop l (A + 2))
  have HW := Lib.hid hW
  have HN := Lib.hid hN
  have hA1 : (A : Int) + 2 ≤ (l.length : Int) := by omega
  have hA4 : (A : Int) ≤ 998 := by omega
  have hk1 : 2 ≤ kd := by omega
  have hk2 : kd ≤ 3 := by omega
  have HK := Lib.hid hk
  clear hk hW hN hA
  have HL := Lib.hid hl
  have HP := Lib.hid hP
  have HSg := Lib.hid hs
  clear hl hP hs
  go_enter Tryd.func10, Tryd.ntmps10
  go_wp2_with fail
  generalize hW0 : (w.alloc (.cells #[.int .i64 0, .int .i64 0, .int .i64 0] 24)).alloc (.cells #[.int .i64 0, .int .i64 0, .int .i64 0] 24) = W0
  have hB0 : Below w.heap.size w W0 := by
    rw [← hW0]
    exact ((Below.refl _ _).alloc (Nat.le_refl _) _).alloc (by simp only [World.size_alloc]; omega) _
  have kR : DyB W0 w.heap.size 0 0 0 := by
    rw [← hW0]
    exact (Below.heap_alloc _ _ _ (by simp only [World.size_alloc]; omega)).trans (DyB.new w 0 0 0)
  have kO : DyB W0 (w.heap.size + 1) 0 0 0 := by
    rw [← hW0]
    have := DyB.new (w.alloc (.cells #[.int .i64 0, .int .i64 0, .int .i64 0] 24)) 0 0 0
    simpa using this
  have s0 : W0.heap.size = w.heap.size + 2 := by rw [← hW0]; simp
  clear hW0
  have HB0 := Lib.hid hB0
  have HR0 := Lib.hid kR
  have HO0 := Lib.hid kO
  clear hB0 kR kO
  refine (sign_any l _ (HP.out.s.below HB0.out) (HP.out.b.below HB0.out) HL.out).mono ?_
  rintro e w9 ⟨rfl, rfl⟩
  rw [HSg.out]
  go_wp2_with fail
  rw [XT.out]
  refine (HW.out _ (HP.out.k.below HB0.out)).mono ?_
  rintro e W1 ⟨rfl, hb⟩
  have HB1 := Lib.hid (HB0.out.trans (hb.mono (by (try simp only [World.size_setCell]); omega)))
  have HR1 := Lib.hid (DyB.below (HR0.out) hb (by (try simp only [World.size_setCell]); omega))
  have HO1 := Lib.hid (DyB.below (HO0.out) hb (by (try simp only [World.size_setCell]); omega))
  have s1 : w.heap.size + 2 ≤ W1.heap.size := by have := hb.size; (try simp only [World.size_setCell] at this); omega
  obtain ⟨r0, r1, r2⟩ := HR1.out.cells
  obtain ⟨o0, o1, o2⟩ := HO1.out.cells
  have fr0 := HR1.out.free 0
  have fr1 := HR1.out.free 1
  have fr2 := HR1.out.free 2
  have fo0 := HO1.out.free 0
  have fo1 := HO1.out.free 1
  have fo2 := HO1.out.free 2
  clear hb
  have S1 := Lib.hid (HP.out.s.below HB1.out)
  have ck : W1.cell? ⟨0, kd.toNat, none⟩ = some (.string ⟨#[if kd = 2 then 62 else 60, 61]⟩) := by
    rcases HK.out with h | h
    · rw [h]; exact S1.out.2.2.1
    · rw [h]; exact S1.out.2.2.2
  generalize (if kd = 2 then (62 : UInt8) else 60) = cc at ck
  have hg : 0 < w.heap.size := block_lt_of_cell HP.out.s.1
  go_wp2_with fail
  rw [XD.out]
  clear ck
  refine (HN.out _ (HP.out.below (HB1.out.setCell (by simp only; omega) _)).t).mono ?_
  rintro e W2 ⟨rfl, hb⟩
  clear r0 r1 r2 o0 o1 o2 fr0 fr1 fr2 fo0 fo1 fo2
  have HB2 := Lib.hid ((HB1.out.setCell (by simp only; omega) _).trans (hb.mono (by (try simp only [World.size_setCell]); omega)))
  have HR2 := Lib.hid (DyB.below (HR1.out.far (by simp only; omega) _) hb (by (try simp only [World.size_setCell]); omega))
  have HO2 := Lib.hid (DyB.below (HO1.out.set1 _) hb (by (try simp only [World.size_setCell]); omega))
  have s2 : w.heap.size + 2 ≤ W2.heap.size := by have := hb.size; (try simp only [World.size_setCell] at this); omega
  obtain ⟨r0, r1, r2⟩ := HR2.out.cells
  obtain ⟨o0, o1, o2⟩ := HO2.out.cells
  have fr0 := HR2.out.free 0
  have fr1 := HR2.out.free 1
  have fr2 := HR2.out.free 2
  have fo0 := HO2.out.free 0
  have fo1 := HO2.out.free 1
  have fo2 := HO2.out.free 2
  clear hb
  go_wp2_with fail
  refine ret_row_tmp (B := w.heap.size) _ rfl rfl rfl ((((HR2.out.far (by simp only; omega) _).far (by simp only; omega) _).set0 _).set1 _ |>.set2 _) Tryd.underlying24 rfl szY ⟨rfl, ?_⟩
  exact ((((HB2.out.setCell (by simp only; omega) _).setCell (by simp only; omega) _).setCell (by simp only; omega) _).setCell (by simp only; omega) _).setCell (by simp only; omega) _
set_option maxRecDepth 100000 in
set_option maxHeartbeats 2000000 in
theorem ps_ok (l : List UInt8) (A : Nat) (i u kd : Int) (w : World) (hl : l.length ≤ 1000) (hP : PReads w) (hs : sg l = ((A : Int), kd)) (hk : kd = 2 ∨ kd = 3) (hA : A + 2 ≤ l.length)
    (hW : WIs (l.take A) i 0) (hN : NIs (l.drop (A + 2)) u 0) :
    Calls Tryd.prog 10 #[.string ⟨l.toArray⟩] w fun e' w' => e' = .returned (dayV kd i u) ∧ Below w.heap.size w w' := by
  have XT := Lib.hid (ba_take l A)
  have XD := Lib.hid (ba_drop l (A + 2))
  have HW := Lib.hid hW
  have HN := Lib.hid hN
  have hA1 : (A : Int) + 2 ≤ (l.length : Int) := by omega
  have hA4 : (A : Int) ≤ 998 := by omega
  have hk1 : 2 ≤ kd := by omega
  have hk2 : kd ≤ 3 := by omega
  have HK := Lib.hid hk
  clear hk hW hN hA
  have HL := Lib.hid hl
  have HP := Lib.hid hP
  have HSg := Lib.hid hs
  clear hl hP hs
  go_enter Tryd.func10, Tryd.ntmps10
  go_wp2_with fail
  generalize hW0 : (w.alloc (.cells #[.int .i64 0, .int .i64 0, .int .i64 0] 24)).alloc (.cells #[.int .i64 0, .int .i64 0, .int .i64 0] 24) = W0
  have hB0 : Below w.heap.size w W0 := by
    rw [← hW0]
    exact ((Below.refl _ _).alloc (Nat.le_refl _) _).alloc (by simp only [World.size_alloc]; omega) _
  have kR : DyB W0 w.heap.size 0 0 0 := by
    rw [← hW0]
    exact (Below.heap_alloc _ _ _ (by simp only [World.size_alloc]; omega)).trans (DyB.new w 0 0 0)
  have kO : DyB W0 (w.heap.size + 1) 0 0 0 := by
    rw [← hW0]
    have := DyB.new (w.alloc (.cells #[.int .i64 0, .int .i64 0, .int .i64 0] 24)) 0 0 0
    simpa using this
  have s0 : W0.heap.size = w.heap.size + 2 := by rw [← hW0]; simp
  clear hW0
  have HB0 := Lib.hid hB0
  have HR0 := Lib.hid kR
  have HO0 := Lib.hid kO
  clear hB0 kR kO
  refine (sign_any l _ (HP.out.s.below HB0.out) (HP.out.b.below HB0.out) HL.out).mono ?_
  rintro e w9 ⟨rfl, rfl⟩
  rw [HSg.out]
  go_wp2_with fail
  rw [XT.out]
  refine (HW.out _ (HP.out.k.below HB0.out)).mono ?_
  rintro e W1 ⟨rfl, hb⟩
  have HB1 := Lib.hid (HB0.out.trans (hb.mono (by (try simp only [World.size_setCell]); omega)))
  have HR1 := Lib.hid (DyB.below (HR0.out) hb (by (try simp only [World.size_setCell]); omega))
  have HO1 := Lib.hid (DyB.below (HO0.out) hb (by (try simp only [World.size_setCell]); omega))
  have s1 : w.heap.size + 2 ≤ W1.heap.size := by have := hb.size; (try simp only [World.size_setCell] at this); omega
  obtain ⟨r0, r1, r2⟩ := HR1.out.cells
  obtain ⟨o0, o1, o2⟩ := HO1.out.cells
  have fr0 := HR1.out.free 0
  have fr1 := HR1.out.free 1
  have fr2 := HR1.out.free 2
  have fo0 := HO1.out.free 0
  have fo1 := HO1.out.free 1
  have fo2 := HO1.out.free 2
  clear hb
  have S1 := Lib.hid (HP.out.s.below HB1.out)
  have ck : W1.cell? ⟨0, kd.toNat, none⟩ = some (.string ⟨#[if kd = 2 then 62 else 60, 61]⟩) := by
    rcases HK.out with h | h
    · rw [h]; exact S1.out.2.2.1
    · rw [h]; exact S1.out.2.2.2
  generalize (if kd = 2 then (62 : UInt8) else 60) = cc at ck
  have hg : 0 < w.heap.size := block_lt_of_cell HP.out.s.1
  go_wp2_with fail
  rw [XD.out]
  clear ck
  refine (HN.out _ (HP.out.below (HB1.out.setCell (by simp only; omega) _)).t).mono ?_
  rintro e W2 ⟨rfl, hb⟩
  clear r0 r1 r2 o0 o1 o2 fr0 fr1 fr2 fo0 fo1 fo2
  have HB2 := Lib.hid ((HB1.out.setCell (by simp only; omega) _).trans (hb.mono (by (try simp only [World.size_setCell]); omega)))
  have HR2 := Lib.hid (DyB.below (HR1.out.far (by simp only; omega) _) hb (by (try simp only [World.size_setCell]); omega))
  have HO2 := Lib.hid (DyB.below (HO1.out.set1 _) hb (by (try simp only [World.size_setCell]); omega))
  have s2 : w.heap.size + 2 ≤ W2.heap.size := by have := hb.size; (try simp only [World.size_setCell] at this); omega
  obtain ⟨r0, r1, r2⟩ := HR2.out.cells
  obtain ⟨o0, o1, o2⟩ := HO2.out.cells
  have fr0 := HR2.out.free 0
  have fr1 := HR2.out.free 1
  have fr2 := HR2.out.free 2
  have fo0 := HO2.out.free 0
  have fo1 := HO2.out.free 1
  have fo2 := HO2.out.free 2
  clear hb
  go_wp2_with fail
  refine ret_row_tmp (B := w.heap.size) _ rfl rfl rfl ((((HR2.out.far (by simp only; omega) _).far (by simp only; omega) _).set0 _).set1 _ |>.set2 _) Tryd.underlying24 rfl szY ⟨rfl, ?_⟩
  exact ((((HB2.out.setCell (by simp only; omega) _).setCell (by simp only; omega) _).setCell (by simp only; omega) _).setCell (by simp only; omega) _).setCell (by simp only; omega) _
set_option maxRecDepth 100000 in
set_option maxHeartbeats 2000000 in
theorem ps_laste (l : List UInt8) (i f : Int) (F : World → Prop) (w : World) (hl : l.length ≤ 1000) (hP : PReads w) (hF : ∀ w', Below w.heap.size w w' → F w') (hs : sg l = (-1, 0)) (h4 : 4 ≤ l.length) (hE : EqB F l true) (hW : WIs (l.drop 4) i f) (hf : (f != 0) = true) :
    Calls Tryd.prog 10 #[.string ⟨l.toArray⟩] w fun e' w' => e' = .returned (errV f) ∧ Below w.heap.size w w' := by
  have HE := Lib.hid hE
  have HF := Lib.hid hF
  have XT := Lib.hid (ba_take l 4)
  have XD := Lib.hid (ba_drop l 4)
  have HW := Lib.hid hW
  have h5 : 4 ≤ (l.length : Int) := by omega
  clear hW hE h4 hF
  have HL := Lib.hid hl
  have HP := Lib.hid hP
  have HSg := Lib.hid hs
  clear hl hP hs
  go_enter Tryd.func10, Tryd.ntmps10
  go_wp2_with fail
  generalize hW0 : (w.alloc (.cells #[.int .i64 0, .int .i64 0, .int .i64 0] 24)).alloc (.cells #[.int .i64 0, .int .i64 0, .int .i64 0] 24) = W0
  have hB0 : Below w.heap.size w W0 := by
    rw [← hW0]
    exact ((Below.refl _ _).alloc (Nat.le_refl _) _).alloc (by simp only [World.size_alloc]; omega) _
  have kR : DyB W0 w.heap.size 0 0 0 := by
    rw [← hW0]
    exact (Below.heap_alloc _ _ _ (by simp only [World.size_alloc]; omega)).trans (DyB.new w 0 0 0)
  have kO : DyB W0 (w.heap.size + 1) 0 0 0 := by
    rw [← hW0]
    have := DyB.new (w.alloc (.cells #[.int .i64 0, .int .i64 0, .int .i64 0] 24)) 0 0 0
    simpa using this
  have s0 : W0.heap.size = w.heap.size + 2 := by rw [← hW0]; simp
  clear hW0
  have HB0 := Lib.hid hB0
  have HR0 := Lib.hid kR
  have HO0 := Lib.hid kO
  clear hB0 kR kO
  refine (sign_any l _ (HP.out.s.below HB0.out) (HP.out.b.below HB0.out) HL.out).mono ?_
  rintro e w9 ⟨rfl, rfl⟩
  rw [HSg.out]
  go_wp2_with fail
  rw [XT.out]
  refine (HE.out _ (HF.out _ HB0.out)).mono ?_
  rintro e W1 ⟨rfl, hb⟩
  have HB1 := Lib.hid (HB0.out.trans (hb.mono (by (try simp only [World.size_setCell]); omega)))
  have HR1 := Lib.hid (DyB.below (HR0.out) hb (by (try simp only [World.size_setCell]); omega))
  have HO1 := Lib.hid (DyB.below (HO0.out) hb (by (try simp only [World.size_setCell]); omega))
  have s1 : w.heap.size + 2 ≤ W1.heap.size := by have := hb.size; (try simp only [World.size_setCell] at this); omega
  obtain ⟨r0, r1, r2⟩ := HR1.out.cells
  obtain ⟨o0, o1, o2⟩ := HO1.out.cells
  have fr0 := HR1.out.free 0
  have fr1 := HR1.out.free 1
  have fr2 := HR1.out.free 2
  have fo0 := HO1.out.free 0
  have fo1 := HO1.out.free 1
  have fo2 := HO1.out.free 2
  clear hb
  go_wp2_with fail
  rw [XD.out]
  have HBS := Lib.hid (HB1.out.setCell (p := ⟨w.heap.size + 1, 0, none⟩) (by simp only; omega) (.int .i64 1))
  refine (HW.out _ (HP.out.k.below HBS.out)).mono ?_
  rintro e W2 ⟨rfl, hb⟩
  clear r0 r1 r2 o0 o1 o2 fr0 fr1 fr2 fo0 fo1 fo2
  have HB2 := Lib.hid (HBS.out.trans (hb.mono (by (try simp only [World.size_setCell]); omega)))
  have HR2 := Lib.hid (DyB.below (HR1.out.far (by simp only; omega) _) hb (by (try simp only [World.size_setCell]); omega))
  have HO2 := Lib.hid (DyB.below (HO1.out.set0 _) hb (by (try simp only [World.size_setCell]); omega))
  have s2 : w.heap.size + 2 ≤ W2.heap.size := by have := hb.size; (try simp only [World.size_setCell] at this); omega
  obtain ⟨r0, r1, r2⟩ := HR2.out.cells
  obtain ⟨o0, o1, o2⟩ := HO2.out.cells
  have fr0 := HR2.out.free 0
  have fr1 := HR2.out.free 1
  have fr2 := HR2.out.free 2
  have fo0 := HO2.out.free 0
  have fo1 := HO2.out.free 1
  have fo2 := HO2.out.free 2
  clear hb
  go_wp2_with fail
  refine ret_row_tmp (B := w.heap.size) _ rfl rfl rfl (((HR2.out.far (by simp only; omega) _).set0 _).set1 _ |>.set2 _) Tryd.underlying24 rfl szY ⟨rfl, ?_⟩
  exact (((HB2.out.setCell (by simp only; omega) _).setCell (by simp only; omega) _).setCell (by simp only; omega) _).setCell (by simp only; omega) _
set_option maxRecDepth 100000 in
set_option maxHeartbeats 2000000 in
theorem ps_lasto (l : List UInt8) (i z : Int) (F : World → Prop) (w : World) (hl : l.length ≤ 1000) (hP : PReads w) (hF : ∀ w', Below w.heap.size w w' → F w') (hs : sg l = (-1, 0)) (h4 : 4 ≤ l.length) (hE : EqB F l true) (hW : WIs (l.drop 4) i 0) (_hz : z = 0) :
    Calls Tryd.prog 10 #[.string ⟨l.toArray⟩] w fun e' w' => e' = .returned (dayV 1 i 0) ∧ Below w.heap.size w w' := by
  have HE := Lib.hid hE
  have HF := Lib.hid hF
  have XT := Lib.hid (ba_take l 4)
  have XD := Lib.hid (ba_drop l 4)
  have HW := Lib.hid hW
  have h5 : 4 ≤ (l.length : Int) := by omega
  clear hW hE h4 hF
  have HL := Lib.hid hl
  have HP := Lib.hid hP
  have HSg := Lib.hid hs
  clear hl hP hs
  go_enter Tryd.func10, Tryd.ntmps10
  go_wp2_with fail
  generalize hW0 : (w.alloc (.cells #[.int .i64 0, .int .i64 0, .int .i64 0] 24)).alloc (.cells #[.int .i64 0, .int .i64 0, .int .i64 0] 24) = W0
  have hB0 : Below w.heap.size w W0 := by
    rw [← hW0]
    exact ((Below.refl _ _).alloc (Nat.le_refl _) _).alloc (by simp only [World.size_alloc]; omega) _
  have kR : DyB W0 w.heap.size 0 0 0 := by
    rw [← hW0]
    exact (Below.heap_alloc _ _ _ (by simp only [World.size_alloc]; omega)).trans (DyB.new w 0 0 0)
  have kO : DyB W0 (w.heap.size + 1) 0 0 0 := by
    rw [← hW0]
    have := DyB.new (w.alloc (.cells #[.int .i64 0, .int .i64 0, .int .i64 0] 24)) 0 0 0
    simpa using this
  have s0 : W0.heap.size = w.heap.size + 2 := by rw [← hW0]; simp
  clear hW0
  have HB0 := Lib.hid hB0
  have HR0 := Lib.hid kR
  have HO0 := Lib.hid kO
  clear hB0 kR kO
  refine (sign_any l _ (HP.out.s.below HB0.out) (HP.out.b.below HB0.out) HL.out).mono ?_
  rintro e w9 ⟨rfl, rfl⟩
  rw [HSg.out]
  go_wp2_with fail
  rw [XT.out]
  refine (HE.out _ (HF.out _ HB0.out)).mono ?_
  rintro e W1 ⟨rfl, hb⟩
  have HB1 := Lib.hid (HB0.out.trans (hb.mono (by (try simp only [World.size_setCell]); omega)))
  have HR1 := Lib.hid (DyB.below (HR0.out) hb (by (try simp only [World.size_setCell]); omega))
  have HO1 := Lib.hid (DyB.below (HO0.out) hb (by (try simp only [World.size_setCell]); omega))
  have s1 : w.heap.size + 2 ≤ W1.heap.size := by have := hb.size; (try simp only [World.size_setCell] at this); omega
  obtain ⟨r0, r1, r2⟩ := HR1.out.cells
  obtain ⟨o0, o1, o2⟩ := HO1.out.cells
  have fr0 := HR1.out.free 0
  have fr1 := HR1.out.free 1
  have fr2 := HR1.out.free 2
  have fo0 := HO1.out.free 0
  have fo1 := HO1.out.free 1
  have fo2 := HO1.out.free 2
  clear hb
  go_wp2_with fail
  rw [XD.out]
  have HBS := Lib.hid (HB1.out.setCell (p := ⟨w.heap.size + 1, 0, none⟩) (by simp only; omega) (.int .i64 1))
  refine (HW.out _ (HP.out.k.below HBS.out)).mono ?_
  rintro e W2 ⟨rfl, hb⟩
  clear r0 r1 r2 o0 o1 o2 fr0 fr1 fr2 fo0 fo1 fo2
  have HB2 := Lib.hid (HBS.out.trans (hb.mono (by (try simp only [World.size_setCell]); omega)))
  have HR2 := Lib.hid (DyB.below (HR1.out.far (by simp only; omega) _) hb (by (try simp only [World.size_setCell]); omega))
  have HO2 := Lib.hid (DyB.below (HO1.out.set0 _) hb (by (try simp only [World.size_setCell]); omega))
  have s2 : w.heap.size + 2 ≤ W2.heap.size := by have := hb.size; (try simp only [World.size_setCell] at this); omega
  obtain ⟨r0, r1, r2⟩ := HR2.out.cells
  obtain ⟨o0, o1, o2⟩ := HO2.out.cells
  have fr0 := HR2.out.free 0
  have fr1 := HR2.out.free 1
  have fr2 := HR2.out.free 2
  have fo0 := HO2.out.free 0
  have fo1 := HO2.out.free 1
  have fo2 := HO2.out.free 2
  clear hb
  go_wp2_with fail
  refine ret_row_tmp (B := w.heap.size) _ rfl rfl rfl (((HR2.out.far (by simp only; omega) _).set0 _).set1 _ |>.set2 _) Tryd.underlying24 rfl szY ⟨rfl, ?_⟩
  exact (((HB2.out.setCell (by simp only; omega) _).setCell (by simp only; omega) _).setCell (by simp only; omega) _).setCell (by simp only; omega) _
set_option maxRecDepth 100000 in
set_option maxHeartbeats 2000000 in
theorem ps_nse (l : List UInt8) (u f : Int) (F : World → Prop) (w : World) (hl : l.length ≤ 1000) (hP : PReads w) (hF : ∀ w', Below w.heap.size w w' → F w') (hs : sg l = (-1, 0)) (h4 : l.length < 4) (hN : NIs l u f) (hf : (f != 0) = true) :
    Calls Tryd.prog 10 #[.string ⟨l.toArray⟩] w fun e' w' => e' = .returned (errV f) ∧ Below w.heap.size w w' := by
  have HN := Lib.hid hN
  have HF := Lib.hid hF
  (have h5 : (l.length : Int) < 4 := by omega) ; clear h4
  clear hN hF
  have HL := Lib.hid hl
  have HP := Lib.hid hP
  have HSg := Lib.hid hs
  clear hl hP hs
  go_enter Tryd.func10, Tryd.ntmps10
  go_wp2_with fail
  generalize hW0 : (w.alloc (.cells #[.int .i64 0, .int .i64 0, .int .i64 0] 24)).alloc (.cells #[.int .i64 0, .int .i64 0, .int .i64 0] 24) = W0
  have hB0 : Below w.heap.size w W0 := by
    rw [← hW0]
    exact ((Below.refl _ _).alloc (Nat.le_refl _) _).alloc (by simp only [World.size_alloc]; omega) _
  have kR : DyB W0 w.heap.size 0 0 0 := by
    rw [← hW0]
    exact (Below.heap_alloc _ _ _ (by simp only [World.size_alloc]; omega)).trans (DyB.new w 0 0 0)
  have kO : DyB W0 (w.heap.size + 1) 0 0 0 := by
    rw [← hW0]
    have := DyB.new (w.alloc (.cells #[.int .i64 0, .int .i64 0, .int .i64 0] 24)) 0 0 0
    simpa using this
  have s0 : W0.heap.size = w.heap.size + 2 := by rw [← hW0]; simp
  clear hW0
  have HB0 := Lib.hid hB0
  have HR0 := Lib.hid kR
  have HO0 := Lib.hid kO
  clear hB0 kR kO
  refine (sign_any l _ (HP.out.s.below HB0.out) (HP.out.b.below HB0.out) HL.out).mono ?_
  rintro e w9 ⟨rfl, rfl⟩
  rw [HSg.out]
  go_wp2_with fail
  skip
  refine (HN.out _ (HP.out.t.below HB0.out)).mono ?_
  rintro e W2 ⟨rfl, hb⟩
  have HB2 := Lib.hid (HB0.out.trans (hb.mono (by (try simp only [World.size_setCell]); omega)))
  have HR2 := Lib.hid (DyB.below (HR0.out) hb (by (try simp only [World.size_setCell]); omega))
  have HO2 := Lib.hid (DyB.below (HO0.out) hb (by (try simp only [World.size_setCell]); omega))
  have s2 : w.heap.size + 2 ≤ W2.heap.size := by have := hb.size; (try simp only [World.size_setCell] at this); omega
  obtain ⟨r0, r1, r2⟩ := HR2.out.cells
  obtain ⟨o0, o1, o2⟩ := HO2.out.cells
  have fr0 := HR2.out.free 0
  have fr1 := HR2.out.free 1
  have fr2 := HR2.out.free 2
  have fo0 := HO2.out.free 0
  have fo1 := HO2.out.free 1
  have fo2 := HO2.out.free 2
  clear hb
  go_wp2_with fail
  refine ret_row_tmp (B := w.heap.size) _ rfl rfl rfl (((HR2.out.far (by simp only; omega) _).set0 _).set1 _ |>.set2 _) Tryd.underlying24 rfl szY ⟨rfl, ?_⟩
  exact (((HB2.out.setCell (by simp only; omega) _).setCell (by simp only; omega) _).setCell (by simp only; omega) _).setCell (by simp only; omega) _
set_option maxRecDepth 100000 in
set_option maxHeartbeats 2000000 in
theorem ps_nso (l : List UInt8) (u f : Int) (F : World → Prop) (w : World) (hl : l.length ≤ 1000) (hP : PReads w) (hF : ∀ w', Below w.heap.size w w' → F w') (hs : sg l = (-1, 0)) (h4 : l.length < 4) (hN : NIs l u f) (hf : (f != 0) = false) :
    Calls Tryd.prog 10 #[.string ⟨l.toArray⟩] w fun e' w' => e' = .returned (dayV 0 0 u) ∧ Below w.heap.size w w' := by
  have HN := Lib.hid hN
  have HF := Lib.hid hF
  (have h5 : (l.length : Int) < 4 := by omega) ; clear h4; obtain rfl : f = 0 := by simpa using hf
  clear hN hF
  have HL := Lib.hid hl
  have HP := Lib.hid hP
  have HSg := Lib.hid hs
  clear hl hP hs
  go_enter Tryd.func10, Tryd.ntmps10
  go_wp2_with fail
  generalize hW0 : (w.alloc (.cells #[.int .i64 0, .int .i64 0, .int .i64 0] 24)).alloc (.cells #[.int .i64 0, .int .i64 0, .int .i64 0] 24) = W0
  have hB0 : Below w.heap.size w W0 := by
    rw [← hW0]
    exact ((Below.refl _ _).alloc (Nat.le_refl _) _).alloc (by simp only [World.size_alloc]; omega) _
  have kR : DyB W0 w.heap.size 0 0 0 := by
    rw [← hW0]
    exact (Below.heap_alloc _ _ _ (by simp only [World.size_alloc]; omega)).trans (DyB.new w 0 0 0)
  have kO : DyB W0 (w.heap.size + 1) 0 0 0 := by
    rw [← hW0]
    have := DyB.new (w.alloc (.cells #[.int .i64 0, .int .i64 0, .int .i64 0] 24)) 0 0 0
    simpa using this
  have s0 : W0.heap.size = w.heap.size + 2 := by rw [← hW0]; simp
  clear hW0
  have HB0 := Lib.hid hB0
  have HR0 := Lib.hid kR
  have HO0 := Lib.hid kO
  clear hB0 kR kO
  refine (sign_any l _ (HP.out.s.below HB0.out) (HP.out.b.below HB0.out) HL.out).mono ?_
  rintro e w9 ⟨rfl, rfl⟩
  rw [HSg.out]
  go_wp2_with fail
  skip
  refine (HN.out _ (HP.out.t.below HB0.out)).mono ?_
  rintro e W2 ⟨rfl, hb⟩
  have HB2 := Lib.hid (HB0.out.trans (hb.mono (by (try simp only [World.size_setCell]); omega)))
  have HR2 := Lib.hid (DyB.below (HR0.out) hb (by (try simp only [World.size_setCell]); omega))
  have HO2 := Lib.hid (DyB.below (HO0.out) hb (by (try simp only [World.size_setCell]); omega))
  have s2 : w.heap.size + 2 ≤ W2.heap.size := by have := hb.size; (try simp only [World.size_setCell] at this); omega
  obtain ⟨r0, r1, r2⟩ := HR2.out.cells
  obtain ⟨o0, o1, o2⟩ := HO2.out.cells
  have fr0 := HR2.out.free 0
  have fr1 := HR2.out.free 1
  have fr2 := HR2.out.free 2
  have fo0 := HO2.out.free 0
  have fo1 := HO2.out.free 1
  have fo2 := HO2.out.free 2
  clear hb
  go_wp2_with fail
  refine ret_row_tmp (B := w.heap.size) _ rfl rfl rfl (((HR2.out.far (by simp only; omega) _).set0 _).set1 _ |>.set2 _) Tryd.underlying24 rfl szY ⟨rfl, ?_⟩
  exact (((HB2.out.setCell (by simp only; omega) _).setCell (by simp only; omega) _).setCell (by simp only; omega) _).setCell (by simp only; omega) _
set_option maxRecDepth 100000 in
set_option maxHeartbeats 2000000 in
theorem ps_nle (l : List UInt8) (u f : Int) (F : World → Prop) (w : World) (hl : l.length ≤ 1000) (hP : PReads w) (hF : ∀ w', Below w.heap.size w w' → F w') (hs : sg l = (-1, 0)) (h4 : 4 ≤ l.length) (hE : EqB F l false) (hN : NIs l u f) (hf : (f != 0) = true) :
    Calls Tryd.prog 10 #[.string ⟨l.toArray⟩] w fun e' w' => e' = .returned (errV f) ∧ Below w.heap.size w w' := by
  have HN := Lib.hid hN
  have HF := Lib.hid hF
  (have h5 : 4 ≤ (l.length : Int) := by omega); have HE := Lib.hid hE; have XT := Lib.hid (ba_take l 4); clear h4 hE
  clear hN hF
  have HL := Lib.hid hl
  have HP := Lib.hid hP
  have HSg := Lib.hid hs
  clear hl hP hs
  go_enter Tryd.func10, Tryd.ntmps10
  go_wp2_with fail
  generalize hW0 : (w.alloc (.cells #[.int .i64 0, .int .i64 0, .int .i64 0] 24)).alloc (.cells #[.int .i64 0, .int .i64 0, .int .i64 0] 24) = W0
  have hB0 : Below w.heap.size w W0 := by
    rw [← hW0]
    exact ((Below.refl _ _).alloc (Nat.le_refl _) _).alloc (by simp only [World.size_alloc]; omega) _
  have kR : DyB W0 w.heap.size 0 0 0 := by
    rw [← hW0]
    exact (Below.heap_alloc _ _ _ (by simp only [World.size_alloc]; omega)).trans (DyB.new w 0 0 0)
  have kO : DyB W0 (w.heap.size + 1) 0 0 0 := by
    rw [← hW0]
    have := DyB.new (w.alloc (.cells #[.int .i64 0, .int .i64 0, .int .i64 0] 24)) 0 0 0
    simpa using this
  have s0 : W0.heap.size = w.heap.size + 2 := by rw [← hW0]; simp
  clear hW0
  have HB0 := Lib.hid hB0
  have HR0 := Lib.hid kR
  have HO0 := Lib.hid kO
  clear hB0 kR kO
  refine (sign_any l _ (HP.out.s.below HB0.out) (HP.out.b.below HB0.out) HL.out).mono ?_
  rintro e w9 ⟨rfl, rfl⟩
  rw [HSg.out]
  go_wp2_with fail
  rw [XT.out]
  refine (HE.out _ (HF.out _ HB0.out)).mono ?_
  rintro e W1 ⟨rfl, hb⟩
  have HB1 := Lib.hid (HB0.out.trans (hb.mono (by (try simp only [World.size_setCell]); omega)))
  have HR1 := Lib.hid (DyB.below (HR0.out) hb (by (try simp only [World.size_setCell]); omega))
  have HO1 := Lib.hid (DyB.below (HO0.out) hb (by (try simp only [World.size_setCell]); omega))
  have s1 : w.heap.size + 2 ≤ W1.heap.size := by have := hb.size; (try simp only [World.size_setCell] at this); omega
  obtain ⟨r0, r1, r2⟩ := HR1.out.cells
  obtain ⟨o0, o1, o2⟩ := HO1.out.cells
  have fr0 := HR1.out.free 0
  have fr1 := HR1.out.free 1
  have fr2 := HR1.out.free 2
  have fo0 := HO1.out.free 0
  have fo1 := HO1.out.free 1
  have fo2 := HO1.out.free 2
  clear hb
  go_wp2_with fail
  clear r0 r1 r2 o0 o1 o2 fr0 fr1 fr2 fo0 fo1 fo2
  refine (HN.out _ (HP.out.t.below HB1.out)).mono ?_
  rintro e W2 ⟨rfl, hb⟩
  have HB2 := Lib.hid (HB1.out.trans (hb.mono (by (try simp only [World.size_setCell]); omega)))
  have HR2 := Lib.hid (DyB.below (HR1.out) hb (by (try simp only [World.size_setCell]); omega))
  have HO2 := Lib.hid (DyB.below (HO1.out) hb (by (try simp only [World.size_setCell]); omega))
  have s2 : w.heap.size + 2 ≤ W2.heap.size := by have := hb.size; (try simp only [World.size_setCell] at this); omega
  obtain ⟨r0, r1, r2⟩ := HR2.out.cells
  obtain ⟨o0, o1, o2⟩ := HO2.out.cells
  have fr0 := HR2.out.free 0
  have fr1 := HR2.out.free 1
  have fr2 := HR2.out.free 2
  have fo0 := HO2.out.free 0
  have fo1 := HO2.out.free 1
  have fo2 := HO2.out.free 2
  clear hb
  go_wp2_with fail
  refine ret_row_tmp (B := w.heap.size) _ rfl rfl rfl (((HR2.out.far (by simp only; omega) _).set0 _).set1 _ |>.set2 _) Tryd.underlying24 rfl szY ⟨rfl, ?_⟩
  exact (((HB2.out.setCell (by simp only; omega) _).setCell (by simp only; omega) _).setCell (by simp only; omega) _).setCell (by simp only; omega) _
set_option maxRecDepth 100000 in
set_option maxHeartbeats 2000000 in
theorem ps_nlo (l : List UInt8) (u f : Int) (F : World → Prop) (w : World) (hl : l.length ≤ 1000) (hP : PReads w) (hF : ∀ w', Below w.heap.size w w' → F w') (hs : sg l = (-1, 0)) (h4 : 4 ≤ l.length) (hE : EqB F l false) (hN : NIs l u f) (hf : (f != 0) = false) :
    Calls Tryd.prog 10 #[.string ⟨l.toArray⟩] w fun e' w' => e' = .returned (dayV 0 0 u) ∧ Below w.heap.size w w' := by
  have HN := Lib.hid hN
  have HF := Lib.hid hF
  (have h5 : 4 ≤ (l.length : Int) := by omega); have HE := Lib.hid hE; have XT := Lib.hid (ba_take l 4); clear h4 hE; obtain rfl : f = 0 := by simpa using hf
  clear hN hF
  have HL := Lib.hid hl
  have HP := Lib.hid hP
  have HSg := Lib.hid hs
  clear hl hP hs
  go_enter Tryd.func10, Tryd.ntmps10
  go_wp2_with fail
  generalize hW0 : (w.alloc (.cells #[.int .i64 0, .int .i64 0, .int .i64 0] 24)).alloc (.cells #[.int .i64 0, .int .i64 0, .int .i64 0] 24) = W0
  have hB0 : Below w.heap.size w W0 := by
    rw [← hW0]
    exact ((Below.refl _ _).alloc (Nat.le_refl _) _).alloc (by simp only [World.size_alloc]; omega) _
  have kR : DyB W0 w.heap.size 0 0 0 := by
    rw [← hW0]
    exact (Below.heap_alloc _ _ _ (by simp only [World.size_alloc]; omega)).trans (DyB.new w 0 0 0)
  have kO : DyB W0 (w.heap.size + 1) 0 0 0 := by
    rw [← hW0]
    have := DyB.new (w.alloc (.cells #[.int .i64 0, .int .i64 0, .int .i64 0] 24)) 0 0 0
    simpa using this
  have s0 : W0.heap.size = w.heap.size + 2 := by rw [← hW0]; simp
  clear hW0
  have HB0 := Lib.hid hB0
  have HR0 := Lib.hid kR
  have HO0 := Lib.hid kO
  clear hB0 kR kO
  refine (sign_any l _ (HP.out.s.below HB0.out) (HP.out.b.below HB0.out) HL.out).mono ?_
  rintro e w9 ⟨rfl, rfl⟩
  rw [HSg.out]
  go_wp2_with fail
  rw [XT.out]
  refine (HE.out _ (HF.out _ HB0.out)).mono ?_
  rintro e W1 ⟨rfl, hb⟩
  have HB1 := Lib.hid (HB0.out.trans (hb.mono (by (try simp only [World.size_setCell]); omega)))
  have HR1 := Lib.hid (DyB.below (HR0.out) hb (by (try simp only [World.size_setCell]); omega))
  have HO1 := Lib.hid (DyB.below (HO0.out) hb (by (try simp only [World.size_setCell]); omega))
  have s1 : w.heap.size + 2 ≤ W1.heap.size := by have := hb.size; (try simp only [World.size_setCell] at this); omega
  obtain ⟨r0, r1, r2⟩ := HR1.out.cells
  obtain ⟨o0, o1, o2⟩ := HO1.out.cells
  have fr0 := HR1.out.free 0
  have fr1 := HR1.out.free 1
  have fr2 := HR1.out.free 2
  have fo0 := HO1.out.free 0
  have fo1 := HO1.out.free 1
  have fo2 := HO1.out.free 2
  clear hb
  go_wp2_with fail
  clear r0 r1 r2 o0 o1 o2 fr0 fr1 fr2 fo0 fo1 fo2
  refine (HN.out _ (HP.out.t.below HB1.out)).mono ?_
  rintro e W2 ⟨rfl, hb⟩
  have HB2 := Lib.hid (HB1.out.trans (hb.mono (by (try simp only [World.size_setCell]); omega)))
  have HR2 := Lib.hid (DyB.below (HR1.out) hb (by (try simp only [World.size_setCell]); omega))
  have HO2 := Lib.hid (DyB.below (HO1.out) hb (by (try simp only [World.size_setCell]); omega))
  have s2 : w.heap.size + 2 ≤ W2.heap.size := by have := hb.size; (try simp only [World.size_setCell] at this); omega
  obtain ⟨r0, r1, r2⟩ := HR2.out.cells
  obtain ⟨o0, o1, o2⟩ := HO2.out.cells
  have fr0 := HR2.out.free 0
  have fr1 := HR2.out.free 1
  have fr2 := HR2.out.free 2
  have fo0 := HO2.out.free 0
  have fo1 := HO2.out.free 1
  have fo2 := HO2.out.free 2
  clear hb
  go_wp2_with fail
  refine ret_row_tmp (B := w.heap.size) _ rfl rfl rfl (((HR2.out.far (by simp only; omega) _).set0 _).set1 _ |>.set2 _) Tryd.underlying24 rfl szY ⟨rfl, ?_⟩
  exact (((HB2.out.setCell (by simp only; omega) _).setCell (by simp only; omega) _).setCell (by simp only; omega) _).setCell (by simp only; omega) _
end Go.Proofs.YtmkbfjklhejdnaaDoor
