/-
  DERIVED. GIVEN WITH THE SEED: THE CARDS: each row of YtbejbagpdjfgmaaDoorRows.lean that lists a variable, with what it lists TIED to the program's text (the seventh form; the later family's looks); each row that meets fmt, with fmt's text TOLD by the authors' own Lean function (tested against real Go, not proved from fmt's source: count such statements apart). THE CARD IS WHAT COUNTS. Prove the row's statement (the work); the ties are given (YtbejbagpdjfgmaaDoorTie.lean); close each card by the builder's one call (the guide's Derived/Test/ToyasCard.lean, 'card_holds'). Laid BY PROGRAM, IN A SANDBOX (cutbox-door.mjs). By AI agents, Wed Nov 11 2026. No macro, syntax, notation, axiom, sorry.
-/
import Derived.Test.YtbejbagpdjfgmaaDoorRows
import GoSem.ClaimSeven
namespace Go.Proofs.YtbejbagpdjfgmaaDoor
namespace Rows

/-- THE TIED CARD OF 'meridianlaw03.ClockJoins'. -/
def clockJoinsCard : Claim7 := { stood := { row := clockJoinsRow, standIns := [], harness := (true, "50356a8741e74d7202cd9fd2fd958a1fcee9560bb79e3c1b9500df38d76bace7"), looks := true }, kinds := [], alts := [], laidByText := true, laidKinds := [.data, .data, .data, .data, .sentinel, .sentinel, .data, .data, .pinned], laidTests := true, laidLooks := .later }
def ClockJoinsCardSaid : Prop := Claim7.holds Tryd.pinned (.plain (OpenSpec.ofChange clockJoinsSpec)) clockJoinsCard

/-- THE TIED CARD OF 'meridianlaw03.ClockBack'. -/
def clockBackCard : Claim7 := { stood := { row := clockBackRow, standIns := [], harness := (true, "50356a8741e74d7202cd9fd2fd958a1fcee9560bb79e3c1b9500df38d76bace7"), looks := true }, kinds := [], alts := [], laidByText := true, laidKinds := [.data, .data, .data, .data, .sentinel, .sentinel, .data, .data, .pinned], laidTests := true, laidLooks := .later }
def ClockBackCardSaid : Prop := Claim7.holds Tryd.pinned (.plain (OpenSpec.ofChange clockBackSpec)) clockBackCard

/-- THE TIED CARD OF 'meridianlaw03.ClockSpans'. -/
def clockSpansCard : Claim7 := { stood := { row := clockSpansRow, standIns := [], harness := (true, "50356a8741e74d7202cd9fd2fd958a1fcee9560bb79e3c1b9500df38d76bace7"), looks := true }, kinds := [], alts := [], laidByText := true, laidKinds := [.data, .data, .data, .data, .sentinel, .sentinel, .data, .data, .pinned], laidTests := true, laidLooks := .later }
def ClockSpansCardSaid : Prop := Claim7.holds Tryd.pinned (.plain (OpenSpec.ofChange clockSpansSpec)) clockSpansCard

/-- THE TIED CARD OF 'meridianlaw03.ClockLetters'. -/
def clockLettersCard : Claim7 := { stood := { row := clockLettersRow, standIns := [], harness := (true, "50356a8741e74d7202cd9fd2fd958a1fcee9560bb79e3c1b9500df38d76bace7"), looks := true }, kinds := [], alts := [], laidByText := true, laidKinds := [.data, .data, .data, .data, .sentinel, .sentinel, .data, .data, .pinned], laidTests := true, laidLooks := .later }
def ClockLettersCardSaid : Prop := Claim7.holds Tryd.pinned (.plain (OpenSpec.ofChange clockLettersSpec)) clockLettersCard

/-- THE TIED CARD OF 'meridianlaw03.ClockRise'. -/
def clockRiseCard : Claim7 := { stood := { row := clockRiseRow, standIns := [], harness := (true, "50356a8741e74d7202cd9fd2fd958a1fcee9560bb79e3c1b9500df38d76bace7"), looks := true }, kinds := [], alts := [], laidByText := true, laidKinds := [.data, .data, .data, .data, .sentinel, .sentinel, .data, .data, .pinned], laidTests := true, laidLooks := .later }
def ClockRiseCardSaid : Prop := Claim7.holds Tryd.pinned (.plain (OpenSpec.ofChange clockRiseSpec)) clockRiseCard

/-- THE TIED CARD OF 'meridianlaw03.ClockTimes'. -/
def clockTimesCard : Claim7 := { stood := { row := clockTimesRow, standIns := [], harness := (true, "50356a8741e74d7202cd9fd2fd958a1fcee9560bb79e3c1b9500df38d76bace7"), looks := true }, kinds := [], alts := [], laidByText := true, laidKinds := [.data, .data, .data, .data, .sentinel, .sentinel, .data, .data, .pinned], laidTests := true, laidLooks := .later }
def ClockTimesCardSaid : Prop := Claim7.holds Tryd.pinned (.plain (OpenSpec.ofChange clockTimesSpec)) clockTimesCard

/-- THE SECOND FORM's CARD OF 'meridianlaw03.ClockJoins'. -/
def clockJoinsUptoCard : Claim7 := { stood := { row := clockJoinsUptoRow, standIns := [], harness := (true, "50356a8741e74d7202cd9fd2fd958a1fcee9560bb79e3c1b9500df38d76bace7"), looks := true }, kinds := [], alts := [], laidByText := true, laidKinds := [.data, .data, .data, .data, .sentinel, .sentinel, .data, .data, .pinned], laidTests := true, laidLooks := .later }
def ClockJoinsUptoCardSaid : Prop := Claim7.holds Tryd.pinned (.plain (OpenSpec.upto clockJoinsSpec)) clockJoinsUptoCard

/-- THE SECOND FORM's CARD OF 'meridianlaw03.ClockBack'. -/
def clockBackUptoCard : Claim7 := { stood := { row := clockBackUptoRow, standIns := [], harness := (true, "50356a8741e74d7202cd9fd2fd958a1fcee9560bb79e3c1b9500df38d76bace7"), looks := true }, kinds := [], alts := [], laidByText := true, laidKinds := [.data, .data, .data, .data, .sentinel, .sentinel, .data, .data, .pinned], laidTests := true, laidLooks := .later }
def ClockBackUptoCardSaid : Prop := Claim7.holds Tryd.pinned (.plain (OpenSpec.upto clockBackSpec)) clockBackUptoCard

/-- THE SECOND FORM's CARD OF 'meridianlaw03.ClockSpans'. -/
def clockSpansUptoCard : Claim7 := { stood := { row := clockSpansUptoRow, standIns := [], harness := (true, "50356a8741e74d7202cd9fd2fd958a1fcee9560bb79e3c1b9500df38d76bace7"), looks := true }, kinds := [], alts := [], laidByText := true, laidKinds := [.data, .data, .data, .data, .sentinel, .sentinel, .data, .data, .pinned], laidTests := true, laidLooks := .later }
def ClockSpansUptoCardSaid : Prop := Claim7.holds Tryd.pinned (.plain (OpenSpec.upto clockSpansSpec)) clockSpansUptoCard

/-- THE SECOND FORM's CARD OF 'meridianlaw03.ClockLetters'. -/
def clockLettersUptoCard : Claim7 := { stood := { row := clockLettersUptoRow, standIns := [], harness := (true, "50356a8741e74d7202cd9fd2fd958a1fcee9560bb79e3c1b9500df38d76bace7"), looks := true }, kinds := [], alts := [], laidByText := true, laidKinds := [.data, .data, .data, .data, .sentinel, .sentinel, .data, .data, .pinned], laidTests := true, laidLooks := .later }
def ClockLettersUptoCardSaid : Prop := Claim7.holds Tryd.pinned (.plain (OpenSpec.upto clockLettersSpec)) clockLettersUptoCard

/-- THE SECOND FORM's CARD OF 'meridianlaw03.ClockRise'. -/
def clockRiseUptoCard : Claim7 := { stood := { row := clockRiseUptoRow, standIns := [], harness := (true, "50356a8741e74d7202cd9fd2fd958a1fcee9560bb79e3c1b9500df38d76bace7"), looks := true }, kinds := [], alts := [], laidByText := true, laidKinds := [.data, .data, .data, .data, .sentinel, .sentinel, .data, .data, .pinned], laidTests := true, laidLooks := .later }
def ClockRiseUptoCardSaid : Prop := Claim7.holds Tryd.pinned (.plain (OpenSpec.upto clockRiseSpec)) clockRiseUptoCard

/-- THE SECOND FORM's CARD OF 'meridianlaw03.ClockTimes'. -/
def clockTimesUptoCard : Claim7 := { stood := { row := clockTimesUptoRow, standIns := [], harness := (true, "50356a8741e74d7202cd9fd2fd958a1fcee9560bb79e3c1b9500df38d76bace7"), looks := true }, kinds := [], alts := [], laidByText := true, laidKinds := [.data, .data, .data, .data, .sentinel, .sentinel, .data, .data, .pinned], laidTests := true, laidLooks := .later }
def ClockTimesUptoCardSaid : Prop := Claim7.holds Tryd.pinned (.plain (OpenSpec.upto clockTimesSpec)) clockTimesUptoCard
end Rows
end Go.Proofs.YtbejbagpdjfgmaaDoor
