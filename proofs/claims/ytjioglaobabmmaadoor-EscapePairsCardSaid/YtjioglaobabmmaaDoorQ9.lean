/- The chapter's examples hold. -/
import Derived.Test.YtjioglaobabmmaaDoorP4
import Derived.Test.YtjioglaobabmmaaDoorQ8
namespace Go.Proofs.YtjioglaobabmmaaDoor.Pure
open Go.RowKit Go.Proofs.YtjioglaobabmmaaDoor.P Go.Proofs.YtjioglaobabmmaaDoorW.PrintWords
set_option linter.unusedVariables false
set_option linter.unusedSimpArgs false
theorem awake_true : colophonlaw08_awake.f 60 = some true := by decide +kernel
theorem awake_ev : Ev (fun k => (colophonlaw08_awake.f k).bind fun t => some t) true :=
  Ev.bind (Ev.of (fun k => colophonlaw08_awake.mono k) awake_true) (Ev.now true)
theorem copy_some (l : List Int) (h : l.length * 1 ≤ 140737488351232) : colophonref00_CopyBytes.f l = some l := by
  unfold colophonref00_CopyBytes.f
  rw [if_pos (by simp; omega)]
  simp
end Go.Proofs.YtjioglaobabmmaaDoor.Pure
