/- The law EscapeQuotes under the second form's bound. -/
import Derived.Test.YtjioglaobabmmaaDoorP9
namespace Go.Proofs.YtjioglaobabmmaaDoor.P
open Go.RowKit Go.Proofs.YtjioglaobabmmaaDoorW.PrintWords Go.Proofs.YtjioglaobabmmaaDoorW.PrintLast Go.Proofs.YtjioglaobabmmaaDoorW.PrintMore
set_option linter.unusedVariables false
set_option linter.unusedSimpArgs false
def colophonlaw08_EscapeQuotes.PureU : Prop := ∀ (a0 : ByteArray), a0.size ≤ 140737488351232 → a0.size ≤ 1048576 → ∃ k, colophonlaw08_EscapeQuotes.f k a0 = some true
theorem colophonlaw08_EscapeQuotes.walkU (P : colophonlaw08_EscapeQuotes.PureU) (a0 : ByteArray) (w : World) (w0 : a0.size ≤ 140737488351232) (hT : TAB w) (u0 : a0.size ≤ 1048576) :
    Calls Tryd.prog 3 #[.string a0] w fun e w' => e = .returned (.bool true) ∧ Below w.heap.size w w' := by
  obtain ⟨k, h⟩ := P a0 w0 u0
  refine (colophonlaw08_EscapeQuotes.calls k a0 true w hT h).mono ?_
  rintro e w' ⟨rfl, hd⟩
  exact ⟨rfl, hd⟩
end Go.Proofs.YtjioglaobabmmaaDoor.P
