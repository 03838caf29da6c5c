/-
  DERIVED. GIVEN WITH THE SEED: THE CARDS: each row of YtcfcfoiphadmkaaDoorRows.lean that lists a variable, with what it lists TIED to the program's text (the seventh form; the later family's looks); each row that meets fmt, with fmt's text TOLD by the authors' own Lean function (tested against real Go, not proved from fmt's source: count such statements apart). THE CARD IS WHAT COUNTS. Prove the row's statement (the work); the ties are given (YtcfcfoiphadmkaaDoorTie.lean); close each card by the builder's one call (the guide's Derived/Test/ToyasCard.lean, 'card_holds'). Laid BY PROGRAM, IN A SANDBOX (cutbox-door.mjs). By AI agents, Wed Nov 11 2026. No macro, syntax, notation, axiom, sorry.
-/
import Derived.Test.YtcfcfoiphadmkaaDoorRows
import GoSem.ClaimSeven
namespace Go.Proofs.YtcfcfoiphadmkaaDoor
namespace Rows

/-- THE TIED CARD OF 'meridianlaw04.WordsYears'. -/
def wordsYearsCard : Claim7 := { stood := { row := wordsYearsRow, standIns := [], harness := (true, "4e7d49af079328704f4e736b9f981035f765a53e75ae764e4153161375287f29"), looks := true }, kinds := [], alts := [], laidByText := true, laidKinds := [.data, .data, .data, .sentinel, .sentinel, .widerDeep], laidTests := true, laidLooks := .later }
def WordsYearsCardSaid : Prop := Claim7.holds Tryd.pinned (.plain (OpenSpec.ofChange wordsYearsSpec)) wordsYearsCard

/-- THE TIED CARD OF 'meridianlaw04.WordsMore'. -/
def wordsMoreCard : Claim7 := { stood := { row := wordsMoreRow, standIns := [], harness := (true, "4e7d49af079328704f4e736b9f981035f765a53e75ae764e4153161375287f29"), looks := true }, kinds := [], alts := [], laidByText := true, laidKinds := [.data, .data, .data, .sentinel, .sentinel, .widerDeep], laidTests := true, laidLooks := .later }
def WordsMoreCardSaid : Prop := Claim7.holds Tryd.pinned (.plain (OpenSpec.ofChange wordsMoreSpec)) wordsMoreCard

/-- THE TIED CARD OF 'meridianlaw04.WordsFind'. -/
def wordsFindCard : Claim7 := { stood := { row := wordsFindRow, standIns := [], harness := (true, "4e7d49af079328704f4e736b9f981035f765a53e75ae764e4153161375287f29"), looks := true }, kinds := [], alts := [], laidByText := true, laidKinds := [.data, .data, .data, .sentinel, .sentinel, .widerDeep, .widerDeep], laidTests := true, laidLooks := .later }
def WordsFindCardSaid : Prop := Claim7.holds Tryd.pinned (.plain (OpenSpec.ofChange wordsFindSpec)) wordsFindCard

/-- THE TIED CARD OF 'meridianlaw04.WordsShort'. -/
def wordsShortCard : Claim7 := { stood := { row := wordsShortRow, standIns := [], harness := (true, "4e7d49af079328704f4e736b9f981035f765a53e75ae764e4153161375287f29"), looks := true }, kinds := [], alts := [], laidByText := true, laidKinds := [.data, .data, .data, .sentinel, .sentinel, .widerDeep, .widerDeep], laidTests := true, laidLooks := .later }
def WordsShortCardSaid : Prop := Claim7.holds Tryd.pinned (.plain (OpenSpec.ofChange wordsShortSpec)) wordsShortCard

/-- THE TIED CARD OF 'meridianlaw04.WordsNames'. -/
def wordsNamesCard : Claim7 := { stood := { row := wordsNamesRow, standIns := [], harness := (true, "4e7d49af079328704f4e736b9f981035f765a53e75ae764e4153161375287f29"), looks := true }, kinds := [], alts := [], laidByText := true, laidKinds := [.data, .data, .data, .sentinel, .sentinel, .widerDeep, .widerDeep], laidTests := true, laidLooks := .later }
def WordsNamesCardSaid : Prop := Claim7.holds Tryd.pinned (.plain (OpenSpec.ofChange wordsNamesSpec)) wordsNamesCard

/-- THE TIED CARD OF 'meridianlaw04.WordsBack'. -/
def wordsBackCard : Claim7 := { stood := { row := wordsBackRow, standIns := [], harness := (true, "4e7d49af079328704f4e736b9f981035f765a53e75ae764e4153161375287f29"), looks := true }, kinds := [], alts := [], laidByText := true, laidKinds := [.data, .data, .data, .sentinel, .sentinel, .widerDeep, .widerDeep], laidTests := true, laidLooks := .later }
def WordsBackCardSaid : Prop := Claim7.holds Tryd.pinned (.plain (OpenSpec.ofChange wordsBackSpec)) wordsBackCard

/-- THE SECOND FORM's CARD OF 'meridianlaw04.WordsYears'. -/
def wordsYearsUptoCard : Claim7 := { stood := { row := wordsYearsUptoRow, standIns := [], harness := (true, "4e7d49af079328704f4e736b9f981035f765a53e75ae764e4153161375287f29"), looks := true }, kinds := [], alts := [], laidByText := true, laidKinds := [.data, .data, .data, .sentinel, .sentinel, .widerDeep], laidTests := true, laidLooks := .later }
def WordsYearsUptoCardSaid : Prop := Claim7.holds Tryd.pinned (.plain (OpenSpec.upto wordsYearsSpec)) wordsYearsUptoCard

/-- THE SECOND FORM's CARD OF 'meridianlaw04.WordsMore'. -/
def wordsMoreUptoCard : Claim7 := { stood := { row := wordsMoreUptoRow, standIns := [], harness := (true, "4e7d49af079328704f4e736b9f981035f765a53e75ae764e4153161375287f29"), looks := true }, kinds := [], alts := [], laidByText := true, laidKinds := [.data, .data, .data, .sentinel, .sentinel, .widerDeep], laidTests := true, laidLooks := .later }
def WordsMoreUptoCardSaid : Prop := Claim7.holds Tryd.pinned (.plain (OpenSpec.upto wordsMoreSpec)) wordsMoreUptoCard

/-- THE SECOND FORM's CARD OF 'meridianlaw04.WordsFind'. -/
def wordsFindUptoCard : Claim7 := { stood := { row := wordsFindUptoRow, standIns := [], harness := (true, "4e7d49af079328704f4e736b9f981035f765a53e75ae764e4153161375287f29"), looks := true }, kinds := [], alts := [], laidByText := true, laidKinds := [.data, .data, .data, .sentinel, .sentinel, .widerDeep, .widerDeep], laidTests := true, laidLooks := .later }
def WordsFindUptoCardSaid : Prop := Claim7.holds Tryd.pinned (.plain (OpenSpec.upto wordsFindSpec)) wordsFindUptoCard

/-- THE SECOND FORM's CARD OF 'meridianlaw04.WordsShort'. -/
def wordsShortUptoCard : Claim7 := { stood := { row := wordsShortUptoRow, standIns := [], harness := (true, "4e7d49af079328704f4e736b9f981035f765a53e75ae764e4153161375287f29"), looks := true }, kinds := [], alts := [], laidByText := true, laidKinds := [.data, .data, .data, .sentinel, .sentinel, .widerDeep, .widerDeep], laidTests := true, laidLooks := .later }
def WordsShortUptoCardSaid : Prop := Claim7.holds Tryd.pinned (.plain (OpenSpec.upto wordsShortSpec)) wordsShortUptoCard

/-- THE SECOND FORM's CARD OF 'meridianlaw04.WordsNames'. -/
def wordsNamesUptoCard : Claim7 := { stood := { row := wordsNamesUptoRow, standIns := [], harness := (true, "4e7d49af079328704f4e736b9f981035f765a53e75ae764e4153161375287f29"), looks := true }, kinds := [], alts := [], laidByText := true, laidKinds := [.data, .data, .data, .sentinel, .sentinel, .widerDeep, .widerDeep], laidTests := true, laidLooks := .later }
def WordsNamesUptoCardSaid : Prop := Claim7.holds Tryd.pinned (.plain (OpenSpec.upto wordsNamesSpec)) wordsNamesUptoCard

/-- THE SECOND FORM's CARD OF 'meridianlaw04.WordsBack'. -/
def wordsBackUptoCard : Claim7 := { stood := { row := wordsBackUptoRow, standIns := [], harness := (true, "4e7d49af079328704f4e736b9f981035f765a53e75ae764e4153161375287f29"), looks := true }, kinds := [], alts := [], laidByText := true, laidKinds := [.data, .data, .data, .sentinel, .sentinel, .widerDeep, .widerDeep], laidTests := true, laidLooks := .later }
def WordsBackUptoCardSaid : Prop := Claim7.holds Tryd.pinned (.plain (OpenSpec.upto wordsBackSpec)) wordsBackUptoCard
end Rows
end Go.Proofs.YtcfcfoiphadmkaaDoor
