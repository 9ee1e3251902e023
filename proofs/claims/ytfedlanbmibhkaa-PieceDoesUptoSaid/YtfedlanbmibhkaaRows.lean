/-
  No cell of these rows narrows 'for every input' (looked for: loops, veiled, ifaces, maps, wideKeys, modest, calm, conditions, laid).
  DERIVED. THE GIVEN ROWS OF THIS SEAT. 9 by the template 'for every input the law returns true; each argument reads behind the call as it read before'; 0 by the template 'total and deterministic' (their statements: YtfedlanbmibhkaaTotals.lean).
  GIVEN WITH THE SEED: the statements are not yours to turn. If you find one false, say at which input.
  Laid BY PROGRAM, IN A SANDBOX (cutbox-rows.mjs): the forced cells as the released guide's own fill.sh prints them over the translation c3e90b177b631527… (all of the seat's roots in one cut). By AI agents, Wed Nov 11 2026. No macro, syntax, notation, axiom, sorry.
-/
import Derived.Test.YtfedlanbmibhkaaChecked
import GoSem.Claim
import GoSem.ClaimJoined
import GoSem.ClaimMapViews
import Derived.JoinedTies
import Derived.KernelRfl
namespace Go.Proofs.Ytfedlanbmibhkaa
/- THE CELL 'sum', in the pinned program and in every row, IS THE sha256 OF THE DUMP (.gsa) THAT YtfedlanbmibhkaaProg.lean LOADS. Nothing in Lean hashes anything: it is a label: what it is worth is what the hold of that sum in a sandbox is worth. -/
noncomputable def Try.pinned : Pinned := { name := "ytfedlanbmibhkaa", sum := "c3e90b177b631527c0c9c77986043340c3f982bcb45f2ffc92516164ff696e46", checked := Try.checked }
namespace Rows
def none {H : Type} : Left H := { results := [], args := [] }

/-- 'colophonlaw14.PieceDoes': WHATEVER THE INPUT: true; the input reads as it did. -/
def pieceDoesSpec : ChangeSpec := { name := "pieceDoes", fn := fun _ => fun
  | [d1, d2] => { results := [.lit (.bool true)], args := [d1, d2] }
  | _ => none }
def pieceDoesRow : OpenClaim := { program := "ytfedlanbmibhkaa", sum := "c3e90b177b631527c0c9c77986043340c3f982bcb45f2ffc92516164ff696e46", func := "colophon/colophonlaw14.PieceDoes", spec := "pieceDoes", inPlace := ["slices.overlaps[[]byte]"], unfollowed := true, recurses := true, apart := false }
def PieceDoesSaid : Prop := pieceDoesRow.holds Try.pinned (OpenSpec.ofChange pieceDoesSpec)

/-- ITS FALSE NEIGHBOUR: 'it returns false'. Refute it at one input. -/
def pieceDoesWrong : ChangeSpec := { name := "pieceDoes", fn := fun _ => fun
  | [d1, d2] => { results := [.lit (.bool false)], args := [d1, d2] }
  | _ => none }
def PieceDoesWrongFalsely : Prop := pieceDoesRow.holds Try.pinned (OpenSpec.ofChange pieceDoesWrong)

/-- 'colophonlaw14.PieceSlice': WHATEVER THE INPUT: true; the input reads as it did. -/
def pieceSliceSpec : ChangeSpec := { name := "pieceSlice", fn := fun _ => fun
  | [d1, d2, d3] => { results := [.lit (.bool true)], args := [d1, d2, d3] }
  | _ => none }
def pieceSliceRow : OpenClaim := { program := "ytfedlanbmibhkaa", sum := "c3e90b177b631527c0c9c77986043340c3f982bcb45f2ffc92516164ff696e46", func := "colophon/colophonlaw14.PieceSlice", spec := "pieceSlice", inPlace := ["slices.overlaps[[]byte]"], unfollowed := true, recurses := true, apart := false }
def PieceSliceSaid : Prop := pieceSliceRow.holds Try.pinned (OpenSpec.ofChange pieceSliceSpec)

/-- ITS FALSE NEIGHBOUR: 'it returns false'. Refute it at one input. -/
def pieceSliceWrong : ChangeSpec := { name := "pieceSlice", fn := fun _ => fun
  | [d1, d2, d3] => { results := [.lit (.bool false)], args := [d1, d2, d3] }
  | _ => none }
def PieceSliceWrongFalsely : Prop := pieceSliceRow.holds Try.pinned (OpenSpec.ofChange pieceSliceWrong)

/-- 'colophonlaw14.PieceList': WHATEVER THE INPUT: true; the input reads as it did. -/
def pieceListSpec : ChangeSpec := { name := "pieceList", fn := fun _ => fun
  | [d1, d2] => { results := [.lit (.bool true)], args := [d1, d2] }
  | _ => none }
def pieceListRow : OpenClaim := { program := "ytfedlanbmibhkaa", sum := "c3e90b177b631527c0c9c77986043340c3f982bcb45f2ffc92516164ff696e46", func := "colophon/colophonlaw14.PieceList", spec := "pieceList", inPlace := ["slices.overlaps[[]byte]"], unfollowed := true, recurses := true, apart := false }
def PieceListSaid : Prop := pieceListRow.holds Try.pinned (OpenSpec.ofChange pieceListSpec)

/-- ITS FALSE NEIGHBOUR: 'it returns false'. Refute it at one input. -/
def pieceListWrong : ChangeSpec := { name := "pieceList", fn := fun _ => fun
  | [d1, d2] => { results := [.lit (.bool false)], args := [d1, d2] }
  | _ => none }
def PieceListWrongFalsely : Prop := pieceListRow.holds Try.pinned (OpenSpec.ofChange pieceListWrong)

/-- 'colophonlaw14.PieceBack': WHATEVER THE INPUT: true; the input reads as it did. -/
def pieceBackSpec : ChangeSpec := { name := "pieceBack", fn := fun _ => fun
  | [d1, d2] => { results := [.lit (.bool true)], args := [d1, d2] }
  | _ => none }
def pieceBackRow : OpenClaim := { program := "ytfedlanbmibhkaa", sum := "c3e90b177b631527c0c9c77986043340c3f982bcb45f2ffc92516164ff696e46", func := "colophon/colophonlaw14.PieceBack", spec := "pieceBack", inPlace := ["slices.overlaps[[]byte]"], unfollowed := true, recurses := true, apart := false }
def PieceBackSaid : Prop := pieceBackRow.holds Try.pinned (OpenSpec.ofChange pieceBackSpec)

/-- ITS FALSE NEIGHBOUR: 'it returns false'. Refute it at one input. -/
def pieceBackWrong : ChangeSpec := { name := "pieceBack", fn := fun _ => fun
  | [d1, d2] => { results := [.lit (.bool false)], args := [d1, d2] }
  | _ => none }
def PieceBackWrongFalsely : Prop := pieceBackRow.holds Try.pinned (OpenSpec.ofChange pieceBackWrong)

/-- 'colophonlaw14.PieceSnaps': WHATEVER THE INPUT: true; the input reads as it did. -/
def pieceSnapsSpec : ChangeSpec := { name := "pieceSnaps", fn := fun _ => fun
  | [d1, d2, d3] => { results := [.lit (.bool true)], args := [d1, d2, d3] }
  | _ => none }
def pieceSnapsRow : OpenClaim := { program := "ytfedlanbmibhkaa", sum := "c3e90b177b631527c0c9c77986043340c3f982bcb45f2ffc92516164ff696e46", func := "colophon/colophonlaw14.PieceSnaps", spec := "pieceSnaps", inPlace := ["slices.overlaps[[]byte]"], unfollowed := true, recurses := true, apart := false }
def PieceSnapsSaid : Prop := pieceSnapsRow.holds Try.pinned (OpenSpec.ofChange pieceSnapsSpec)

/-- ITS FALSE NEIGHBOUR: 'it returns false'. Refute it at one input. -/
def pieceSnapsWrong : ChangeSpec := { name := "pieceSnaps", fn := fun _ => fun
  | [d1, d2, d3] => { results := [.lit (.bool false)], args := [d1, d2, d3] }
  | _ => none }
def PieceSnapsWrongFalsely : Prop := pieceSnapsRow.holds Try.pinned (OpenSpec.ofChange pieceSnapsWrong)

/-- 'colophonlaw14.PieceFew': WHATEVER THE INPUT: true; the input reads as it did. -/
def pieceFewSpec : ChangeSpec := { name := "pieceFew", fn := fun _ => fun
  | [d1, d2] => { results := [.lit (.bool true)], args := [d1, d2] }
  | _ => none }
def pieceFewRow : OpenClaim := { program := "ytfedlanbmibhkaa", sum := "c3e90b177b631527c0c9c77986043340c3f982bcb45f2ffc92516164ff696e46", func := "colophon/colophonlaw14.PieceFew", spec := "pieceFew", inPlace := ["slices.overlaps[[]byte]"], unfollowed := true, recurses := true, apart := false }
def PieceFewSaid : Prop := pieceFewRow.holds Try.pinned (OpenSpec.ofChange pieceFewSpec)

/-- ITS FALSE NEIGHBOUR: 'it returns false'. Refute it at one input. -/
def pieceFewWrong : ChangeSpec := { name := "pieceFew", fn := fun _ => fun
  | [d1, d2] => { results := [.lit (.bool false)], args := [d1, d2] }
  | _ => none }
def PieceFewWrongFalsely : Prop := pieceFewRow.holds Try.pinned (OpenSpec.ofChange pieceFewWrong)

/-- 'colophonlaw14.PieceAll': WHATEVER THE INPUT: true; the input reads as it did. -/
def pieceAllSpec : ChangeSpec := { name := "pieceAll", fn := fun _ => fun
  | [d1, d2, d3] => { results := [.lit (.bool true)], args := [d1, d2, d3] }
  | _ => none }
def pieceAllRow : OpenClaim := { program := "ytfedlanbmibhkaa", sum := "c3e90b177b631527c0c9c77986043340c3f982bcb45f2ffc92516164ff696e46", func := "colophon/colophonlaw14.PieceAll", spec := "pieceAll", inPlace := ["slices.overlaps[[]byte]", "slices.overlaps[[]int]"], unfollowed := true, recurses := true, apart := false }
def PieceAllSaid : Prop := pieceAllRow.holds Try.pinned (OpenSpec.ofChange pieceAllSpec)

/-- ITS FALSE NEIGHBOUR: 'it returns false'. Refute it at one input. -/
def pieceAllWrong : ChangeSpec := { name := "pieceAll", fn := fun _ => fun
  | [d1, d2, d3] => { results := [.lit (.bool false)], args := [d1, d2, d3] }
  | _ => none }
def PieceAllWrongFalsely : Prop := pieceAllRow.holds Try.pinned (OpenSpec.ofChange pieceAllWrong)

/-- 'colophonlaw14.PieceRefused': WHATEVER THE INPUT: true; the input reads as it did. -/
def pieceRefusedSpec : ChangeSpec := { name := "pieceRefused", fn := fun _ => fun
  | [d1, d2, d3] => { results := [.lit (.bool true)], args := [d1, d2, d3] }
  | _ => none }
def pieceRefusedRow : OpenClaim := { program := "ytfedlanbmibhkaa", sum := "c3e90b177b631527c0c9c77986043340c3f982bcb45f2ffc92516164ff696e46", func := "colophon/colophonlaw14.PieceRefused", spec := "pieceRefused", inPlace := ["slices.overlaps[[]byte]"], unfollowed := true, recurses := true, apart := false }
def PieceRefusedSaid : Prop := pieceRefusedRow.holds Try.pinned (OpenSpec.ofChange pieceRefusedSpec)

/-- ITS FALSE NEIGHBOUR: 'it returns false'. Refute it at one input. -/
def pieceRefusedWrong : ChangeSpec := { name := "pieceRefused", fn := fun _ => fun
  | [d1, d2, d3] => { results := [.lit (.bool false)], args := [d1, d2, d3] }
  | _ => none }
def PieceRefusedWrongFalsely : Prop := pieceRefusedRow.holds Try.pinned (OpenSpec.ofChange pieceRefusedWrong)

/-- 'colophonlaw14.PieceKnown': WHATEVER THE INPUT: true; the input reads as it did. -/
def pieceKnownSpec : ChangeSpec := { name := "pieceKnown", fn := fun _ => fun
  | [] => { results := [.lit (.bool true)], args := [] }
  | _ => none }
def pieceKnownRow : OpenClaim := { program := "ytfedlanbmibhkaa", sum := "c3e90b177b631527c0c9c77986043340c3f982bcb45f2ffc92516164ff696e46", func := "colophon/colophonlaw14.PieceKnown", spec := "pieceKnown", inPlace := ["slices.overlaps[[]byte]"], unfollowed := true, recurses := true, apart := false }
def PieceKnownSaid : Prop := pieceKnownRow.holds Try.pinned (OpenSpec.ofChange pieceKnownSpec)

/-- ITS FALSE NEIGHBOUR: 'it returns false'. Refute it at one input. -/
def pieceKnownWrong : ChangeSpec := { name := "pieceKnown", fn := fun _ => fun
  | [] => { results := [.lit (.bool false)], args := [] }
  | _ => none }
def PieceKnownWrongFalsely : Prop := pieceKnownRow.holds Try.pinned (OpenSpec.ofChange pieceKnownWrong)

/- THE SECOND FORM. 'bulk': how many values and letters a reading holds, each counted each time it is reached (what is shared counts as often as it is met; a slice's spare places count too). A statement '..UptoSaid' is the law's where the arguments, and the package variables that the reading takes, are together of bulk at most 1048576: NARROWER than '..Said'. Prove '..Said' where nothing that the law and all that it calls make is longer than what came in: it says more and counts as full. Else prove '..UptoSaid'. A law counts once. -/
mutual
def uptoBulk {H : Type} : DataW H → Nat
  | .lit (.string bytes) => bytes.length + 1
  | .lit _ => 1
  | .nil => 1
  | .ptr d => uptoBulk d + 1
  | .slice elems spare => uptoBulkAll elems + uptoBulkAll spare + 1
  | .agg parts => uptoBulkAll parts + 1
  | .iface _ d => uptoBulk d + 1
  | .map entries => uptoBulkEntries entries + 1
  | .held _ => 1
def uptoBulkAll {H : Type} : List (DataW H) → Nat
  | [] => 0
  | d :: r => uptoBulk d + uptoBulkAll r
def uptoBulkEntries {H : Type} : List (Lit × DataW H) → Nat
  | [] => 0
  | x :: r => uptoBulkEntry x + uptoBulkEntries r
def uptoBulkEntry {H : Type} : Lit × DataW H → Nat
  | (.string bytes, d) => bytes.length + uptoBulk d + 1
  | (_, d) => uptoBulk d + 1
 end
def uptoSmall : (H : Type) → List (DataW H) → Bool := fun _ ds => decide (uptoBulkAll ds ≤ 1048576)
def OpenSpec.upto (s : _root_.Go.ChangeSpec) : _root_.Go.OpenSpec := { _root_.Go.OpenSpec.ofChange s with cond := some uptoSmall }

/-- 'colophonlaw14.PieceDoes', WHERE WHAT IT READS IS OF BULK AT MOST 1048576: true; the input reads as it did. -/
def pieceDoesUptoRow : OpenClaim := { program := "ytfedlanbmibhkaa", sum := "c3e90b177b631527c0c9c77986043340c3f982bcb45f2ffc92516164ff696e46", func := "colophon/colophonlaw14.PieceDoes", spec := "pieceDoes", inPlace := ["slices.overlaps[[]byte]"], unfollowed := true, recurses := true, apart := false, narrowed := true }
def PieceDoesUptoSaid : Prop := pieceDoesUptoRow.holds Try.pinned (OpenSpec.upto pieceDoesSpec)

/-- 'colophonlaw14.PieceSlice', WHERE WHAT IT READS IS OF BULK AT MOST 1048576: true; the input reads as it did. -/
def pieceSliceUptoRow : OpenClaim := { program := "ytfedlanbmibhkaa", sum := "c3e90b177b631527c0c9c77986043340c3f982bcb45f2ffc92516164ff696e46", func := "colophon/colophonlaw14.PieceSlice", spec := "pieceSlice", inPlace := ["slices.overlaps[[]byte]"], unfollowed := true, recurses := true, apart := false, narrowed := true }
def PieceSliceUptoSaid : Prop := pieceSliceUptoRow.holds Try.pinned (OpenSpec.upto pieceSliceSpec)

/-- 'colophonlaw14.PieceList', WHERE WHAT IT READS IS OF BULK AT MOST 1048576: true; the input reads as it did. -/
def pieceListUptoRow : OpenClaim := { program := "ytfedlanbmibhkaa", sum := "c3e90b177b631527c0c9c77986043340c3f982bcb45f2ffc92516164ff696e46", func := "colophon/colophonlaw14.PieceList", spec := "pieceList", inPlace := ["slices.overlaps[[]byte]"], unfollowed := true, recurses := true, apart := false, narrowed := true }
def PieceListUptoSaid : Prop := pieceListUptoRow.holds Try.pinned (OpenSpec.upto pieceListSpec)

/-- 'colophonlaw14.PieceBack', WHERE WHAT IT READS IS OF BULK AT MOST 1048576: true; the input reads as it did. -/
def pieceBackUptoRow : OpenClaim := { program := "ytfedlanbmibhkaa", sum := "c3e90b177b631527c0c9c77986043340c3f982bcb45f2ffc92516164ff696e46", func := "colophon/colophonlaw14.PieceBack", spec := "pieceBack", inPlace := ["slices.overlaps[[]byte]"], unfollowed := true, recurses := true, apart := false, narrowed := true }
def PieceBackUptoSaid : Prop := pieceBackUptoRow.holds Try.pinned (OpenSpec.upto pieceBackSpec)

/-- 'colophonlaw14.PieceSnaps', WHERE WHAT IT READS IS OF BULK AT MOST 1048576: true; the input reads as it did. -/
def pieceSnapsUptoRow : OpenClaim := { program := "ytfedlanbmibhkaa", sum := "c3e90b177b631527c0c9c77986043340c3f982bcb45f2ffc92516164ff696e46", func := "colophon/colophonlaw14.PieceSnaps", spec := "pieceSnaps", inPlace := ["slices.overlaps[[]byte]"], unfollowed := true, recurses := true, apart := false, narrowed := true }
def PieceSnapsUptoSaid : Prop := pieceSnapsUptoRow.holds Try.pinned (OpenSpec.upto pieceSnapsSpec)

/-- 'colophonlaw14.PieceFew', WHERE WHAT IT READS IS OF BULK AT MOST 1048576: true; the input reads as it did. -/
def pieceFewUptoRow : OpenClaim := { program := "ytfedlanbmibhkaa", sum := "c3e90b177b631527c0c9c77986043340c3f982bcb45f2ffc92516164ff696e46", func := "colophon/colophonlaw14.PieceFew", spec := "pieceFew", inPlace := ["slices.overlaps[[]byte]"], unfollowed := true, recurses := true, apart := false, narrowed := true }
def PieceFewUptoSaid : Prop := pieceFewUptoRow.holds Try.pinned (OpenSpec.upto pieceFewSpec)

/-- 'colophonlaw14.PieceAll', WHERE WHAT IT READS IS OF BULK AT MOST 1048576: true; the input reads as it did. -/
def pieceAllUptoRow : OpenClaim := { program := "ytfedlanbmibhkaa", sum := "c3e90b177b631527c0c9c77986043340c3f982bcb45f2ffc92516164ff696e46", func := "colophon/colophonlaw14.PieceAll", spec := "pieceAll", inPlace := ["slices.overlaps[[]byte]", "slices.overlaps[[]int]"], unfollowed := true, recurses := true, apart := false, narrowed := true }
def PieceAllUptoSaid : Prop := pieceAllUptoRow.holds Try.pinned (OpenSpec.upto pieceAllSpec)

/-- 'colophonlaw14.PieceRefused', WHERE WHAT IT READS IS OF BULK AT MOST 1048576: true; the input reads as it did. -/
def pieceRefusedUptoRow : OpenClaim := { program := "ytfedlanbmibhkaa", sum := "c3e90b177b631527c0c9c77986043340c3f982bcb45f2ffc92516164ff696e46", func := "colophon/colophonlaw14.PieceRefused", spec := "pieceRefused", inPlace := ["slices.overlaps[[]byte]"], unfollowed := true, recurses := true, apart := false, narrowed := true }
def PieceRefusedUptoSaid : Prop := pieceRefusedUptoRow.holds Try.pinned (OpenSpec.upto pieceRefusedSpec)

/-- 'colophonlaw14.PieceKnown', WHERE WHAT IT READS IS OF BULK AT MOST 1048576: true; the input reads as it did. -/
def pieceKnownUptoRow : OpenClaim := { program := "ytfedlanbmibhkaa", sum := "c3e90b177b631527c0c9c77986043340c3f982bcb45f2ffc92516164ff696e46", func := "colophon/colophonlaw14.PieceKnown", spec := "pieceKnown", inPlace := ["slices.overlaps[[]byte]"], unfollowed := true, recurses := true, apart := false, narrowed := true }
def PieceKnownUptoSaid : Prop := pieceKnownUptoRow.holds Try.pinned (OpenSpec.upto pieceKnownSpec)

end Rows
end Go.Proofs.Ytfedlanbmibhkaa
