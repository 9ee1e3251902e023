/-
  DERIVED. GIVEN WITH THE SEED: THE CARDS: each row of YtekmdbicobkffaaDoorRows.lean that lists a variable, with what it lists TIED to the program's text (the seventh form; the later family's looks); each row that meets fmt, with fmt's text TOLD by the authors' own Lean function (tested against real Go, not proved from fmt's source: count such statements apart). THE CARD IS WHAT COUNTS. Prove the row's statement (the work); the ties are given (YtekmdbicobkffaaDoorTie.lean); close each card by the builder's one call (the guide's Derived/Test/ToyasCard.lean, 'card_holds'). Laid BY PROGRAM, IN A SANDBOX (cutbox-door.mjs). By AI agents, Wed Nov 11 2026. No macro, syntax, notation, axiom, sorry.
-/
import Derived.Test.YtekmdbicobkffaaDoorRows
import GoSem.ClaimSeven
namespace Go.Proofs.YtekmdbicobkffaaDoor
namespace Rows

/-- THE TIED CARD OF 'colophonlaw06.HeadParses'. -/
def headParsesCard : Claim7 := { stood := { row := headParsesRow, standIns := [], harness := (true, "708077e11c0805d0963c6cc1741805db06c3253210546edd3a2d52c0405e8c9a"), looks := false }, kinds := [], alts := [], laidByText := true, laidKinds := [.data, .data, .data, .pinned, .pinned], laidTests := true, laidLooks := .later }
def HeadParsesCardSaid : Prop := Claim7.holds Tryd.pinned (.plain (OpenSpec.ofChange headParsesSpec)) headParsesCard

/-- THE TIED CARD OF 'colophonlaw06.HeadSettled'. -/
def headSettledCard : Claim7 := { stood := { row := headSettledRow, standIns := [], harness := (true, "708077e11c0805d0963c6cc1741805db06c3253210546edd3a2d52c0405e8c9a"), looks := false }, kinds := [], alts := [], laidByText := true, laidKinds := [.data, .data, .data, .pinned, .pinned], laidTests := true, laidLooks := .later }
def HeadSettledCardSaid : Prop := Claim7.holds Tryd.pinned (.plain (OpenSpec.ofChange headSettledSpec)) headSettledCard

/-- THE TIED CARD OF 'colophonlaw06.HeadLong'. -/
def headLongCard : Claim7 := { stood := { row := headLongRow, standIns := [], harness := (true, "708077e11c0805d0963c6cc1741805db06c3253210546edd3a2d52c0405e8c9a"), looks := false }, kinds := [], alts := [], laidByText := true, laidKinds := [.data, .data, .data, .pinned, .pinned], laidTests := true, laidLooks := .later }
def HeadLongCardSaid : Prop := Claim7.holds Tryd.pinned (.plain (OpenSpec.ofChange headLongSpec)) headLongCard

/-- THE TIED CARD OF 'colophonlaw06.HeadMakes'. -/
def headMakesCard : Claim7 := { stood := { row := headMakesRow, standIns := [], harness := (true, "708077e11c0805d0963c6cc1741805db06c3253210546edd3a2d52c0405e8c9a"), looks := false }, kinds := [], alts := [], laidByText := true, laidKinds := [.data, .data, .data, .data, .data, .data, .pinned, .pinned], laidTests := true, laidLooks := .later }
def HeadMakesCardSaid : Prop := Claim7.holds Tryd.pinned (.plain (OpenSpec.ofChange headMakesSpec)) headMakesCard

/-- THE TIED CARD OF 'colophonlaw06.HeadBack'. -/
def headBackCard : Claim7 := { stood := { row := headBackRow, standIns := [], harness := (true, "708077e11c0805d0963c6cc1741805db06c3253210546edd3a2d52c0405e8c9a"), looks := false }, kinds := [], alts := [], laidByText := true, laidKinds := [.data, .data, .data, .data, .data, .data, .pinned, .pinned], laidTests := true, laidLooks := .later }
def HeadBackCardSaid : Prop := Claim7.holds Tryd.pinned (.plain (OpenSpec.ofChange headBackSpec)) headBackCard

/-- THE TIED CARD OF 'colophonlaw06.HeadCases'. -/
def headCasesCard : Claim7 := { stood := { row := headCasesRow, standIns := [], harness := (true, "708077e11c0805d0963c6cc1741805db06c3253210546edd3a2d52c0405e8c9a"), looks := false }, kinds := [], alts := [], laidByText := true, laidKinds := [.data, .data, .data, .data, .data, .data, .pinned, .pinned], laidTests := true, laidLooks := .later }
def HeadCasesCardSaid : Prop := Claim7.holds Tryd.pinned (.plain (OpenSpec.ofChange headCasesSpec)) headCasesCard

/-- THE TIED CARD OF 'colophonlaw06.HeadTwice'. -/
def headTwiceCard : Claim7 := { stood := { row := headTwiceRow, standIns := [], harness := (true, "708077e11c0805d0963c6cc1741805db06c3253210546edd3a2d52c0405e8c9a"), looks := false }, kinds := [], alts := [], laidByText := true, laidKinds := [.data, .data, .data, .data, .data, .data, .pinned, .pinned], laidTests := true, laidLooks := .later }
def HeadTwiceCardSaid : Prop := Claim7.holds Tryd.pinned (.plain (OpenSpec.ofChange headTwiceSpec)) headTwiceCard

/-- THE TIED CARD OF 'colophonlaw06.HeadNames'. -/
def headNamesCard : Claim7 := { stood := { row := headNamesRow, standIns := [], harness := (true, "708077e11c0805d0963c6cc1741805db06c3253210546edd3a2d52c0405e8c9a"), looks := false }, kinds := [], alts := [], laidByText := true, laidKinds := [.data, .data, .data, .data, .data, .data, .pinned, .pinned], laidTests := true, laidLooks := .later }
def HeadNamesCardSaid : Prop := Claim7.holds Tryd.pinned (.plain (OpenSpec.ofChange headNamesSpec)) headNamesCard

/-- THE SECOND FORM's CARD OF 'colophonlaw06.HeadParses'. -/
def headParsesUptoCard : Claim7 := { stood := { row := headParsesUptoRow, standIns := [], harness := (true, "708077e11c0805d0963c6cc1741805db06c3253210546edd3a2d52c0405e8c9a"), looks := false }, kinds := [], alts := [], laidByText := true, laidKinds := [.data, .data, .data, .pinned, .pinned], laidTests := true, laidLooks := .later }
def HeadParsesUptoCardSaid : Prop := Claim7.holds Tryd.pinned (.plain (OpenSpec.upto headParsesSpec)) headParsesUptoCard

/-- THE SECOND FORM's CARD OF 'colophonlaw06.HeadSettled'. -/
def headSettledUptoCard : Claim7 := { stood := { row := headSettledUptoRow, standIns := [], harness := (true, "708077e11c0805d0963c6cc1741805db06c3253210546edd3a2d52c0405e8c9a"), looks := false }, kinds := [], alts := [], laidByText := true, laidKinds := [.data, .data, .data, .pinned, .pinned], laidTests := true, laidLooks := .later }
def HeadSettledUptoCardSaid : Prop := Claim7.holds Tryd.pinned (.plain (OpenSpec.upto headSettledSpec)) headSettledUptoCard

/-- THE SECOND FORM's CARD OF 'colophonlaw06.HeadLong'. -/
def headLongUptoCard : Claim7 := { stood := { row := headLongUptoRow, standIns := [], harness := (true, "708077e11c0805d0963c6cc1741805db06c3253210546edd3a2d52c0405e8c9a"), looks := false }, kinds := [], alts := [], laidByText := true, laidKinds := [.data, .data, .data, .pinned, .pinned], laidTests := true, laidLooks := .later }
def HeadLongUptoCardSaid : Prop := Claim7.holds Tryd.pinned (.plain (OpenSpec.upto headLongSpec)) headLongUptoCard

/-- THE SECOND FORM's CARD OF 'colophonlaw06.HeadMakes'. -/
def headMakesUptoCard : Claim7 := { stood := { row := headMakesUptoRow, standIns := [], harness := (true, "708077e11c0805d0963c6cc1741805db06c3253210546edd3a2d52c0405e8c9a"), looks := false }, kinds := [], alts := [], laidByText := true, laidKinds := [.data, .data, .data, .data, .data, .data, .pinned, .pinned], laidTests := true, laidLooks := .later }
def HeadMakesUptoCardSaid : Prop := Claim7.holds Tryd.pinned (.plain (OpenSpec.upto headMakesSpec)) headMakesUptoCard

/-- THE SECOND FORM's CARD OF 'colophonlaw06.HeadBack'. -/
def headBackUptoCard : Claim7 := { stood := { row := headBackUptoRow, standIns := [], harness := (true, "708077e11c0805d0963c6cc1741805db06c3253210546edd3a2d52c0405e8c9a"), looks := false }, kinds := [], alts := [], laidByText := true, laidKinds := [.data, .data, .data, .data, .data, .data, .pinned, .pinned], laidTests := true, laidLooks := .later }
def HeadBackUptoCardSaid : Prop := Claim7.holds Tryd.pinned (.plain (OpenSpec.upto headBackSpec)) headBackUptoCard

/-- THE SECOND FORM's CARD OF 'colophonlaw06.HeadCases'. -/
def headCasesUptoCard : Claim7 := { stood := { row := headCasesUptoRow, standIns := [], harness := (true, "708077e11c0805d0963c6cc1741805db06c3253210546edd3a2d52c0405e8c9a"), looks := false }, kinds := [], alts := [], laidByText := true, laidKinds := [.data, .data, .data, .data, .data, .data, .pinned, .pinned], laidTests := true, laidLooks := .later }
def HeadCasesUptoCardSaid : Prop := Claim7.holds Tryd.pinned (.plain (OpenSpec.upto headCasesSpec)) headCasesUptoCard

/-- THE SECOND FORM's CARD OF 'colophonlaw06.HeadTwice'. -/
def headTwiceUptoCard : Claim7 := { stood := { row := headTwiceUptoRow, standIns := [], harness := (true, "708077e11c0805d0963c6cc1741805db06c3253210546edd3a2d52c0405e8c9a"), looks := false }, kinds := [], alts := [], laidByText := true, laidKinds := [.data, .data, .data, .data, .data, .data, .pinned, .pinned], laidTests := true, laidLooks := .later }
def HeadTwiceUptoCardSaid : Prop := Claim7.holds Tryd.pinned (.plain (OpenSpec.upto headTwiceSpec)) headTwiceUptoCard

/-- THE SECOND FORM's CARD OF 'colophonlaw06.HeadNames'. -/
def headNamesUptoCard : Claim7 := { stood := { row := headNamesUptoRow, standIns := [], harness := (true, "708077e11c0805d0963c6cc1741805db06c3253210546edd3a2d52c0405e8c9a"), looks := false }, kinds := [], alts := [], laidByText := true, laidKinds := [.data, .data, .data, .data, .data, .data, .pinned, .pinned], laidTests := true, laidLooks := .later }
def HeadNamesUptoCardSaid : Prop := Claim7.holds Tryd.pinned (.plain (OpenSpec.upto headNamesSpec)) headNamesUptoCard
end Rows
end Go.Proofs.YtekmdbicobkffaaDoor
