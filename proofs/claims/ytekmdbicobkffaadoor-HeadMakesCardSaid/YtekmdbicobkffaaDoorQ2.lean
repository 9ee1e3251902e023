/- The chapter's examples hold. -/
import Derived.Test.YtekmdbicobkffaaDoorQ1
namespace Go.Proofs.YtekmdbicobkffaaDoor.Pure
open Go.RowKit Go.Proofs.YtekmdbicobkffaaDoor.P Go.Proofs.YtekmdbicobkffaaDoorW.PrintWords
set_option linter.unusedVariables false
set_option linter.unusedSimpArgs false
set_option maxRecDepth 100000 in
theorem awake_true : colophonlaw06_awake.f 60 = some true := by decide +kernel
theorem awake_ev : Ev (fun k => (colophonlaw06_awake.f k).bind fun t => some t) true :=
  Ev.bind (Ev.of (fun k => colophonlaw06_awake.mono k) awake_true) (Ev.now true)
end Go.Proofs.YtekmdbicobkffaaDoor.Pure
