/-
  DERIVED. GIVEN WITH THE SEED: THE CARDS: each row of YtmkbfjklhejdnaaDoorRows.lean that lists a variable, with what it lists TIED to the program's text (the seventh form; the later family's looks); each row that meets fmt, with fmt's text TOLD by the authors' own Lean function (tested against real Go, not proved from fmt's source: count such statements apart). THE CARD IS WHAT COUNTS. Prove the row's statement (the work); the ties are given (YtmkbfjklhejdnaaDoorTie.lean); close each card by the builder's one call (the guide's Derived/Test/ToyasCard.lean, 'card_holds'). Laid BY PROGRAM, IN A SANDBOX (cutbox-door.mjs). By AI agents, Wed Nov 11 2026. No macro, syntax, notation, axiom, sorry.
-/
import Derived.Test.YtmkbfjklhejdnaaDoorRows
import GoSem.ClaimSeven
namespace Go.Proofs.YtmkbfjklhejdnaaDoor
namespace Rows

/-- THE TIED CARD OF 'meridianlaw08.DayformParses'. -/
def dayformParsesCard : Claim7 := { stood := { row := dayformParsesRow, standIns := [], harness := (true, "2c74ff2051cb69e20ca9c563d510c435473af991d2e015ade1116c9a5aa60515"), looks := true }, kinds := [], alts := [], laidByText := true, laidKinds := [.data, .data, .data, .data, .sentinel, .sentinel, .data, .data, .data, .widerDeep, .data, .pinned, .pinned], laidTests := true, laidLooks := .later }
def DayformParsesCardSaid : Prop := Claim7.holds Tryd.pinned (.plain (OpenSpec.ofChange dayformParsesSpec)) dayformParsesCard

/-- THE TIED CARD OF 'meridianlaw08.DayformIn'. -/
def dayformInCard : Claim7 := { stood := { row := dayformInRow, standIns := [], harness := (true, "2c74ff2051cb69e20ca9c563d510c435473af991d2e015ade1116c9a5aa60515"), looks := true }, kinds := [], alts := [], laidByText := true, laidKinds := [.data, .data, .data, .data, .sentinel, .sentinel, .data, .data, .data, .widerDeep, .data, .pinned, .pinned], laidTests := true, laidLooks := .later }
def DayformInCardSaid : Prop := Claim7.holds Tryd.pinned (.plain (OpenSpec.ofChange dayformInSpec)) dayformInCard

/-- THE TIED CARD OF 'meridianlaw08.DayformWeeks'. -/
def dayformWeeksCard : Claim7 := { stood := { row := dayformWeeksRow, standIns := [], harness := (true, "2c74ff2051cb69e20ca9c563d510c435473af991d2e015ade1116c9a5aa60515"), looks := true }, kinds := [], alts := [], laidByText := true, laidKinds := [.data, .data, .data, .data, .sentinel, .sentinel, .data, .data, .data, .widerDeep, .data, .pinned, .pinned], laidTests := true, laidLooks := .later }
def DayformWeeksCardSaid : Prop := Claim7.holds Tryd.pinned (.plain (OpenSpec.ofChange dayformWeeksSpec)) dayformWeeksCard

/-- THE TIED CARD OF 'meridianlaw08.DayformTurns'. -/
def dayformTurnsCard : Claim7 := { stood := { row := dayformTurnsRow, standIns := [], harness := (true, "2c74ff2051cb69e20ca9c563d510c435473af991d2e015ade1116c9a5aa60515"), looks := true }, kinds := [], alts := [], laidByText := true, laidKinds := [.data, .data, .data, .data, .sentinel, .sentinel, .data, .data, .data, .widerDeep, .data, .pinned, .pinned], laidTests := true, laidLooks := .later }
def DayformTurnsCardSaid : Prop := Claim7.holds Tryd.pinned (.plain (OpenSpec.ofChange dayformTurnsSpec)) dayformTurnsCard

/-- THE TIED CARD OF 'meridianlaw08.DayformRises'. -/
def dayformRisesCard : Claim7 := { stood := { row := dayformRisesRow, standIns := [], harness := (true, "2c74ff2051cb69e20ca9c563d510c435473af991d2e015ade1116c9a5aa60515"), looks := true }, kinds := [], alts := [], laidByText := true, laidKinds := [.data, .data, .data, .data, .sentinel, .sentinel, .data, .data, .data, .widerDeep, .data, .pinned, .pinned], laidTests := true, laidLooks := .later }
def DayformRisesCardSaid : Prop := Claim7.holds Tryd.pinned (.plain (OpenSpec.ofChange dayformRisesSpec)) dayformRisesCard

/-- THE TIED CARD OF 'meridianlaw08.DayformTexts'. -/
def dayformTextsCard : Claim7 := { stood := { row := dayformTextsRow, standIns := [], harness := (true, "2c74ff2051cb69e20ca9c563d510c435473af991d2e015ade1116c9a5aa60515"), looks := true }, kinds := [], alts := [], laidByText := true, laidKinds := [.data, .data, .data, .data, .sentinel, .sentinel, .data, .data, .data, .widerDeep, .data, .pinned, .pinned], laidTests := true, laidLooks := .later }
def DayformTextsCardSaid : Prop := Claim7.holds Tryd.pinned (.plain (OpenSpec.ofChange dayformTextsSpec)) dayformTextsCard

/-- THE SECOND FORM's CARD OF 'meridianlaw08.DayformParses'. -/
def dayformParsesUptoCard : Claim7 := { stood := { row := dayformParsesUptoRow, standIns := [], harness := (true, "2c74ff2051cb69e20ca9c563d510c435473af991d2e015ade1116c9a5aa60515"), looks := true }, kinds := [], alts := [], laidByText := true, laidKinds := [.data, .data, .data, .data, .sentinel, .sentinel, .data, .data, .data, .widerDeep, .data, .pinned, .pinned], laidTests := true, laidLooks := .later }
def DayformParsesUptoCardSaid : Prop := Claim7.holds Tryd.pinned (.plain (OpenSpec.upto dayformParsesSpec)) dayformParsesUptoCard

/-- THE SECOND FORM's CARD OF 'meridianlaw08.DayformIn'. -/
def dayformInUptoCard : Claim7 := { stood := { row := dayformInUptoRow, standIns := [], harness := (true, "2c74ff2051cb69e20ca9c563d510c435473af991d2e015ade1116c9a5aa60515"), looks := true }, kinds := [], alts := [], laidByText := true, laidKinds := [.data, .data, .data, .data, .sentinel, .sentinel, .data, .data, .data, .widerDeep, .data, .pinned, .pinned], laidTests := true, laidLooks := .later }
def DayformInUptoCardSaid : Prop := Claim7.holds Tryd.pinned (.plain (OpenSpec.upto dayformInSpec)) dayformInUptoCard

/-- THE SECOND FORM's CARD OF 'meridianlaw08.DayformWeeks'. -/
def dayformWeeksUptoCard : Claim7 := { stood := { row := dayformWeeksUptoRow, standIns := [], harness := (true, "2c74ff2051cb69e20ca9c563d510c435473af991d2e015ade1116c9a5aa60515"), looks := true }, kinds := [], alts := [], laidByText := true, laidKinds := [.data, .data, .data, .data, .sentinel, .sentinel, .data, .data, .data, .widerDeep, .data, .pinned, .pinned], laidTests := true, laidLooks := .later }
def DayformWeeksUptoCardSaid : Prop := Claim7.holds Tryd.pinned (.plain (OpenSpec.upto dayformWeeksSpec)) dayformWeeksUptoCard

/-- THE SECOND FORM's CARD OF 'meridianlaw08.DayformTurns'. -/
def dayformTurnsUptoCard : Claim7 := { stood := { row := dayformTurnsUptoRow, standIns := [], harness := (true, "2c74ff2051cb69e20ca9c563d510c435473af991d2e015ade1116c9a5aa60515"), looks := true }, kinds := [], alts := [], laidByText := true, laidKinds := [.data, .data, .data, .data, .sentinel, .sentinel, .data, .data, .data, .widerDeep, .data, .pinned, .pinned], laidTests := true, laidLooks := .later }
def DayformTurnsUptoCardSaid : Prop := Claim7.holds Tryd.pinned (.plain (OpenSpec.upto dayformTurnsSpec)) dayformTurnsUptoCard

/-- THE SECOND FORM's CARD OF 'meridianlaw08.DayformRises'. -/
def dayformRisesUptoCard : Claim7 := { stood := { row := dayformRisesUptoRow, standIns := [], harness := (true, "2c74ff2051cb69e20ca9c563d510c435473af991d2e015ade1116c9a5aa60515"), looks := true }, kinds := [], alts := [], laidByText := true, laidKinds := [.data, .data, .data, .data, .sentinel, .sentinel, .data, .data, .data, .widerDeep, .data, .pinned, .pinned], laidTests := true, laidLooks := .later }
def DayformRisesUptoCardSaid : Prop := Claim7.holds Tryd.pinned (.plain (OpenSpec.upto dayformRisesSpec)) dayformRisesUptoCard

/-- THE SECOND FORM's CARD OF 'meridianlaw08.DayformTexts'. -/
def dayformTextsUptoCard : Claim7 := { stood := { row := dayformTextsUptoRow, standIns := [], harness := (true, "2c74ff2051cb69e20ca9c563d510c435473af991d2e015ade1116c9a5aa60515"), looks := true }, kinds := [], alts := [], laidByText := true, laidKinds := [.data, .data, .data, .data, .sentinel, .sentinel, .data, .data, .data, .widerDeep, .data, .pinned, .pinned], laidTests := true, laidLooks := .later }
def DayformTextsUptoCardSaid : Prop := Claim7.holds Tryd.pinned (.plain (OpenSpec.upto dayformTextsSpec)) dayformTextsUptoCard
end Rows
end Go.Proofs.YtmkbfjklhejdnaaDoor
