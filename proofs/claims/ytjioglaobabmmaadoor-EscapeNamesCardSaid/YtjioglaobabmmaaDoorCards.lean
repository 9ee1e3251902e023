/-
  DERIVED. GIVEN WITH THE SEED: THE CARDS: each row of YtjioglaobabmmaaDoorRows.lean that lists a variable, with what it lists TIED to the program's text (the seventh form; the later family's looks); each row that meets fmt, with fmt's text TOLD by the authors' own Lean function (tested against real Go, not proved from fmt's source: count such statements apart). THE CARD IS WHAT COUNTS. Prove the row's statement (the work); the ties are given (YtjioglaobabmmaaDoorTie.lean); close each card by the builder's one call (the guide's Derived/Test/ToyasCard.lean, 'card_holds'). Laid BY PROGRAM, IN A SANDBOX (cutbox-door.mjs). By AI agents, Wed Nov 11 2026. No macro, syntax, notation, axiom, sorry.
-/
import Derived.Test.YtjioglaobabmmaaDoorRows
import GoSem.ClaimSeven
namespace Go.Proofs.YtjioglaobabmmaaDoor
namespace Rows

/-- THE TIED CARD OF 'colophonlaw08.EscapeQuotes'. -/
def escapeQuotesCard : Claim7 := { stood := { row := escapeQuotesRow, standIns := [], harness := (true, "db93a491d64c698bffd0d1d0fb8e443e590a650f9402a105f801fa96e1330cbf"), looks := false }, kinds := [], alts := [], laidByText := true, laidKinds := [.data, .data, .data], laidTests := true, laidLooks := .later }
def EscapeQuotesCardSaid : Prop := Claim7.holds Tryd.pinned (.plain (OpenSpec.ofChange escapeQuotesSpec)) escapeQuotesCard

/-- THE TIED CARD OF 'colophonlaw08.EscapeReads'. -/
def escapeReadsCard : Claim7 := { stood := { row := escapeReadsRow, standIns := [], harness := (true, "db93a491d64c698bffd0d1d0fb8e443e590a650f9402a105f801fa96e1330cbf"), looks := false }, kinds := [], alts := [], laidByText := true, laidKinds := [.data, .data, .data], laidTests := true, laidLooks := .later }
def EscapeReadsCardSaid : Prop := Claim7.holds Tryd.pinned (.plain (OpenSpec.ofChange escapeReadsSpec)) escapeReadsCard

/-- THE TIED CARD OF 'colophonlaw08.EscapeBack'. -/
def escapeBackCard : Claim7 := { stood := { row := escapeBackRow, standIns := [], harness := (true, "db93a491d64c698bffd0d1d0fb8e443e590a650f9402a105f801fa96e1330cbf"), looks := false }, kinds := [], alts := [], laidByText := true, laidKinds := [.data, .data, .data], laidTests := true, laidLooks := .later }
def EscapeBackCardSaid : Prop := Claim7.holds Tryd.pinned (.plain (OpenSpec.ofChange escapeBackSpec)) escapeBackCard

/-- THE TIED CARD OF 'colophonlaw08.EscapeShort'. -/
def escapeShortCard : Claim7 := { stood := { row := escapeShortRow, standIns := [], harness := (true, "db93a491d64c698bffd0d1d0fb8e443e590a650f9402a105f801fa96e1330cbf"), looks := false }, kinds := [], alts := [], laidByText := true, laidKinds := [.data, .data, .data], laidTests := true, laidLooks := .later }
def EscapeShortCardSaid : Prop := Claim7.holds Tryd.pinned (.plain (OpenSpec.ofChange escapeShortSpec)) escapeShortCard

/-- THE TIED CARD OF 'colophonlaw08.EscapeTold'. -/
def escapeToldCard : Claim7 := { stood := { row := escapeToldRow, standIns := [], harness := (true, "db93a491d64c698bffd0d1d0fb8e443e590a650f9402a105f801fa96e1330cbf"), looks := false }, kinds := [], alts := [], laidByText := true, laidKinds := [.data, .data, .data], laidTests := true, laidLooks := .later }
def EscapeToldCardSaid : Prop := Claim7.holds Tryd.pinned (.plain (OpenSpec.ofChange escapeToldSpec)) escapeToldCard

/-- THE TIED CARD OF 'colophonlaw08.EscapePairs'. -/
def escapePairsCard : Claim7 := { stood := { row := escapePairsRow, standIns := [], harness := (true, "db93a491d64c698bffd0d1d0fb8e443e590a650f9402a105f801fa96e1330cbf"), looks := false }, kinds := [], alts := [], laidByText := true, laidKinds := [.data, .data, .data], laidTests := true, laidLooks := .later }
def EscapePairsCardSaid : Prop := Claim7.holds Tryd.pinned (.plain (OpenSpec.ofChange escapePairsSpec)) escapePairsCard

/-- THE TIED CARD OF 'colophonlaw08.EscapeNames'. -/
def escapeNamesCard : Claim7 := { stood := { row := escapeNamesRow, standIns := [], harness := (true, "db93a491d64c698bffd0d1d0fb8e443e590a650f9402a105f801fa96e1330cbf"), looks := false }, kinds := [], alts := [], laidByText := true, laidKinds := [.data, .data, .data], laidTests := true, laidLooks := .later }
def EscapeNamesCardSaid : Prop := Claim7.holds Tryd.pinned (.plain (OpenSpec.ofChange escapeNamesSpec)) escapeNamesCard

/-- THE SECOND FORM's CARD OF 'colophonlaw08.EscapeQuotes'. -/
def escapeQuotesUptoCard : Claim7 := { stood := { row := escapeQuotesUptoRow, standIns := [], harness := (true, "db93a491d64c698bffd0d1d0fb8e443e590a650f9402a105f801fa96e1330cbf"), looks := false }, kinds := [], alts := [], laidByText := true, laidKinds := [.data, .data, .data], laidTests := true, laidLooks := .later }
def EscapeQuotesUptoCardSaid : Prop := Claim7.holds Tryd.pinned (.plain (OpenSpec.upto escapeQuotesSpec)) escapeQuotesUptoCard

/-- THE SECOND FORM's CARD OF 'colophonlaw08.EscapeReads'. -/
def escapeReadsUptoCard : Claim7 := { stood := { row := escapeReadsUptoRow, standIns := [], harness := (true, "db93a491d64c698bffd0d1d0fb8e443e590a650f9402a105f801fa96e1330cbf"), looks := false }, kinds := [], alts := [], laidByText := true, laidKinds := [.data, .data, .data], laidTests := true, laidLooks := .later }
def EscapeReadsUptoCardSaid : Prop := Claim7.holds Tryd.pinned (.plain (OpenSpec.upto escapeReadsSpec)) escapeReadsUptoCard

/-- THE SECOND FORM's CARD OF 'colophonlaw08.EscapeBack'. -/
def escapeBackUptoCard : Claim7 := { stood := { row := escapeBackUptoRow, standIns := [], harness := (true, "db93a491d64c698bffd0d1d0fb8e443e590a650f9402a105f801fa96e1330cbf"), looks := false }, kinds := [], alts := [], laidByText := true, laidKinds := [.data, .data, .data], laidTests := true, laidLooks := .later }
def EscapeBackUptoCardSaid : Prop := Claim7.holds Tryd.pinned (.plain (OpenSpec.upto escapeBackSpec)) escapeBackUptoCard

/-- THE SECOND FORM's CARD OF 'colophonlaw08.EscapeShort'. -/
def escapeShortUptoCard : Claim7 := { stood := { row := escapeShortUptoRow, standIns := [], harness := (true, "db93a491d64c698bffd0d1d0fb8e443e590a650f9402a105f801fa96e1330cbf"), looks := false }, kinds := [], alts := [], laidByText := true, laidKinds := [.data, .data, .data], laidTests := true, laidLooks := .later }
def EscapeShortUptoCardSaid : Prop := Claim7.holds Tryd.pinned (.plain (OpenSpec.upto escapeShortSpec)) escapeShortUptoCard

/-- THE SECOND FORM's CARD OF 'colophonlaw08.EscapeTold'. -/
def escapeToldUptoCard : Claim7 := { stood := { row := escapeToldUptoRow, standIns := [], harness := (true, "db93a491d64c698bffd0d1d0fb8e443e590a650f9402a105f801fa96e1330cbf"), looks := false }, kinds := [], alts := [], laidByText := true, laidKinds := [.data, .data, .data], laidTests := true, laidLooks := .later }
def EscapeToldUptoCardSaid : Prop := Claim7.holds Tryd.pinned (.plain (OpenSpec.upto escapeToldSpec)) escapeToldUptoCard

/-- THE SECOND FORM's CARD OF 'colophonlaw08.EscapePairs'. -/
def escapePairsUptoCard : Claim7 := { stood := { row := escapePairsUptoRow, standIns := [], harness := (true, "db93a491d64c698bffd0d1d0fb8e443e590a650f9402a105f801fa96e1330cbf"), looks := false }, kinds := [], alts := [], laidByText := true, laidKinds := [.data, .data, .data], laidTests := true, laidLooks := .later }
def EscapePairsUptoCardSaid : Prop := Claim7.holds Tryd.pinned (.plain (OpenSpec.upto escapePairsSpec)) escapePairsUptoCard

/-- THE SECOND FORM's CARD OF 'colophonlaw08.EscapeNames'. -/
def escapeNamesUptoCard : Claim7 := { stood := { row := escapeNamesUptoRow, standIns := [], harness := (true, "db93a491d64c698bffd0d1d0fb8e443e590a650f9402a105f801fa96e1330cbf"), looks := false }, kinds := [], alts := [], laidByText := true, laidKinds := [.data, .data, .data], laidTests := true, laidLooks := .later }
def EscapeNamesUptoCardSaid : Prop := Claim7.holds Tryd.pinned (.plain (OpenSpec.upto escapeNamesSpec)) escapeNamesUptoCard
end Rows
end Go.Proofs.YtjioglaobabmmaaDoor
