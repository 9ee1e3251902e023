/-
  DERIVED. GIVEN WITH THE SEED: THE CARDS: each row of YtfpjlpgebhgfkaaDoorRows.lean that lists a variable, with what it lists TIED to the program's text (the seventh form; the later family's looks); each row that meets fmt, with fmt's text TOLD by the authors' own Lean function (tested against real Go, not proved from fmt's source: count such statements apart). THE CARD IS WHAT COUNTS. Prove the row's statement (the work); the ties are given (YtfpjlpgebhgfkaaDoorTie.lean); close each card by the builder's one call (the guide's Derived/Test/ToyasCard.lean, 'card_holds'). Laid BY PROGRAM, IN A SANDBOX (cutbox-door.mjs). By AI agents, Wed Nov 11 2026. No macro, syntax, notation, axiom, sorry.
-/
import Derived.Test.YtfpjlpgebhgfkaaDoorRows
import GoSem.ClaimSeven
namespace Go.Proofs.YtfpjlpgebhgfkaaDoor
namespace Rows

/-- THE TIED CARD OF 'colophonlaw05.DigitsRuns'. -/
def digitsRunsCard : Claim7 := { stood := { row := digitsRunsRow, standIns := [], harness := (true, "21a35db8c24e665df5134dee968c8862182179919b5033c3e55f3e551c84ec19"), looks := false }, kinds := [], alts := [], laidByText := true, laidKinds := [.data, .data, .data], laidTests := true, laidLooks := .later }
def DigitsRunsCardSaid : Prop := Claim7.holds Tryd.pinned (.plain (OpenSpec.ofChange digitsRunsSpec)) digitsRunsCard

/-- THE TIED CARD OF 'colophonlaw05.DigitsParses'. -/
def digitsParsesCard : Claim7 := { stood := { row := digitsParsesRow, standIns := [], harness := (true, "21a35db8c24e665df5134dee968c8862182179919b5033c3e55f3e551c84ec19"), looks := false }, kinds := [], alts := [], laidByText := true, laidKinds := [.data, .data, .data], laidTests := true, laidLooks := .later }
def DigitsParsesCardSaid : Prop := Claim7.holds Tryd.pinned (.plain (OpenSpec.ofChange digitsParsesSpec)) digitsParsesCard

/-- THE TIED CARD OF 'colophonlaw05.DigitsTexts'. -/
def digitsTextsCard : Claim7 := { stood := { row := digitsTextsRow, standIns := [], harness := (true, "21a35db8c24e665df5134dee968c8862182179919b5033c3e55f3e551c84ec19"), looks := false }, kinds := [], alts := [], laidByText := true, laidKinds := [.data, .data, .data], laidTests := true, laidLooks := .later }
def DigitsTextsCardSaid : Prop := Claim7.holds Tryd.pinned (.plain (OpenSpec.ofChange digitsTextsSpec)) digitsTextsCard

/-- THE TIED CARD OF 'colophonlaw05.DigitsBack'. -/
def digitsBackCard : Claim7 := { stood := { row := digitsBackRow, standIns := [], harness := (true, "21a35db8c24e665df5134dee968c8862182179919b5033c3e55f3e551c84ec19"), looks := false }, kinds := [], alts := [], laidByText := true, laidKinds := [.data, .data, .data], laidTests := true, laidLooks := .later }
def DigitsBackCardSaid : Prop := Claim7.holds Tryd.pinned (.plain (OpenSpec.ofChange digitsBackSpec)) digitsBackCard

/-- THE TIED CARD OF 'colophonlaw05.DigitsAnew'. -/
def digitsAnewCard : Claim7 := { stood := { row := digitsAnewRow, standIns := [], harness := (true, "21a35db8c24e665df5134dee968c8862182179919b5033c3e55f3e551c84ec19"), looks := false }, kinds := [], alts := [], laidByText := true, laidKinds := [.data, .data, .data], laidTests := true, laidLooks := .later }
def DigitsAnewCardSaid : Prop := Claim7.holds Tryd.pinned (.plain (OpenSpec.ofChange digitsAnewSpec)) digitsAnewCard

/-- THE TIED CARD OF 'colophonlaw05.DigitsOrder'. -/
def digitsOrderCard : Claim7 := { stood := { row := digitsOrderRow, standIns := [], harness := (true, "21a35db8c24e665df5134dee968c8862182179919b5033c3e55f3e551c84ec19"), looks := false }, kinds := [], alts := [], laidByText := true, laidKinds := [.data, .data, .data], laidTests := true, laidLooks := .later }
def DigitsOrderCardSaid : Prop := Claim7.holds Tryd.pinned (.plain (OpenSpec.ofChange digitsOrderSpec)) digitsOrderCard

/-- THE TIED CARD OF 'colophonlaw05.DigitsSplit'. -/
def digitsSplitCard : Claim7 := { stood := { row := digitsSplitRow, standIns := [], harness := (true, "21a35db8c24e665df5134dee968c8862182179919b5033c3e55f3e551c84ec19"), looks := false }, kinds := [], alts := [], laidByText := true, laidKinds := [.data, .data, .data], laidTests := true, laidLooks := .later }
def DigitsSplitCardSaid : Prop := Claim7.holds Tryd.pinned (.plain (OpenSpec.ofChange digitsSplitSpec)) digitsSplitCard

/-- THE TIED CARD OF 'colophonlaw05.DigitsNames'. -/
def digitsNamesCard : Claim7 := { stood := { row := digitsNamesRow, standIns := [], harness := (true, "21a35db8c24e665df5134dee968c8862182179919b5033c3e55f3e551c84ec19"), looks := false }, kinds := [], alts := [], laidByText := true, laidKinds := [.data, .data, .data], laidTests := true, laidLooks := .later }
def DigitsNamesCardSaid : Prop := Claim7.holds Tryd.pinned (.plain (OpenSpec.ofChange digitsNamesSpec)) digitsNamesCard

/-- THE SECOND FORM's CARD OF 'colophonlaw05.DigitsRuns'. -/
def digitsRunsUptoCard : Claim7 := { stood := { row := digitsRunsUptoRow, standIns := [], harness := (true, "21a35db8c24e665df5134dee968c8862182179919b5033c3e55f3e551c84ec19"), looks := false }, kinds := [], alts := [], laidByText := true, laidKinds := [.data, .data, .data], laidTests := true, laidLooks := .later }
def DigitsRunsUptoCardSaid : Prop := Claim7.holds Tryd.pinned (.plain (OpenSpec.upto digitsRunsSpec)) digitsRunsUptoCard

/-- THE SECOND FORM's CARD OF 'colophonlaw05.DigitsParses'. -/
def digitsParsesUptoCard : Claim7 := { stood := { row := digitsParsesUptoRow, standIns := [], harness := (true, "21a35db8c24e665df5134dee968c8862182179919b5033c3e55f3e551c84ec19"), looks := false }, kinds := [], alts := [], laidByText := true, laidKinds := [.data, .data, .data], laidTests := true, laidLooks := .later }
def DigitsParsesUptoCardSaid : Prop := Claim7.holds Tryd.pinned (.plain (OpenSpec.upto digitsParsesSpec)) digitsParsesUptoCard

/-- THE SECOND FORM's CARD OF 'colophonlaw05.DigitsTexts'. -/
def digitsTextsUptoCard : Claim7 := { stood := { row := digitsTextsUptoRow, standIns := [], harness := (true, "21a35db8c24e665df5134dee968c8862182179919b5033c3e55f3e551c84ec19"), looks := false }, kinds := [], alts := [], laidByText := true, laidKinds := [.data, .data, .data], laidTests := true, laidLooks := .later }
def DigitsTextsUptoCardSaid : Prop := Claim7.holds Tryd.pinned (.plain (OpenSpec.upto digitsTextsSpec)) digitsTextsUptoCard

/-- THE SECOND FORM's CARD OF 'colophonlaw05.DigitsBack'. -/
def digitsBackUptoCard : Claim7 := { stood := { row := digitsBackUptoRow, standIns := [], harness := (true, "21a35db8c24e665df5134dee968c8862182179919b5033c3e55f3e551c84ec19"), looks := false }, kinds := [], alts := [], laidByText := true, laidKinds := [.data, .data, .data], laidTests := true, laidLooks := .later }
def DigitsBackUptoCardSaid : Prop := Claim7.holds Tryd.pinned (.plain (OpenSpec.upto digitsBackSpec)) digitsBackUptoCard

/-- THE SECOND FORM's CARD OF 'colophonlaw05.DigitsAnew'. -/
def digitsAnewUptoCard : Claim7 := { stood := { row := digitsAnewUptoRow, standIns := [], harness := (true, "21a35db8c24e665df5134dee968c8862182179919b5033c3e55f3e551c84ec19"), looks := false }, kinds := [], alts := [], laidByText := true, laidKinds := [.data, .data, .data], laidTests := true, laidLooks := .later }
def DigitsAnewUptoCardSaid : Prop := Claim7.holds Tryd.pinned (.plain (OpenSpec.upto digitsAnewSpec)) digitsAnewUptoCard

/-- THE SECOND FORM's CARD OF 'colophonlaw05.DigitsOrder'. -/
def digitsOrderUptoCard : Claim7 := { stood := { row := digitsOrderUptoRow, standIns := [], harness := (true, "21a35db8c24e665df5134dee968c8862182179919b5033c3e55f3e551c84ec19"), looks := false }, kinds := [], alts := [], laidByText := true, laidKinds := [.data, .data, .data], laidTests := true, laidLooks := .later }
def DigitsOrderUptoCardSaid : Prop := Claim7.holds Tryd.pinned (.plain (OpenSpec.upto digitsOrderSpec)) digitsOrderUptoCard

/-- THE SECOND FORM's CARD OF 'colophonlaw05.DigitsSplit'. -/
def digitsSplitUptoCard : Claim7 := { stood := { row := digitsSplitUptoRow, standIns := [], harness := (true, "21a35db8c24e665df5134dee968c8862182179919b5033c3e55f3e551c84ec19"), looks := false }, kinds := [], alts := [], laidByText := true, laidKinds := [.data, .data, .data], laidTests := true, laidLooks := .later }
def DigitsSplitUptoCardSaid : Prop := Claim7.holds Tryd.pinned (.plain (OpenSpec.upto digitsSplitSpec)) digitsSplitUptoCard

/-- THE SECOND FORM's CARD OF 'colophonlaw05.DigitsNames'. -/
def digitsNamesUptoCard : Claim7 := { stood := { row := digitsNamesUptoRow, standIns := [], harness := (true, "21a35db8c24e665df5134dee968c8862182179919b5033c3e55f3e551c84ec19"), looks := false }, kinds := [], alts := [], laidByText := true, laidKinds := [.data, .data, .data], laidTests := true, laidLooks := .later }
def DigitsNamesUptoCardSaid : Prop := Claim7.holds Tryd.pinned (.plain (OpenSpec.upto digitsNamesSpec)) digitsNamesUptoCard
end Rows
end Go.Proofs.YtfpjlpgebhgfkaaDoor
