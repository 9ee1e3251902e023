/- The plain law DigitsRuns: both count the digits at a place alike. -/
import Derived.Test.YtfpjlpgebhgfkaaDoorQ1
namespace Go.Proofs.YtfpjlpgebhgfkaaDoor.Pure
open Go.RowKit Go.Proofs.YtfpjlpgebhgfkaaDoor.P Go.Proofs.YtfpjlpgebhgfkaaDoorW.PrintWords
set_option linter.unusedSimpArgs false
set_option linter.unusedVariables false
theorem DigitsRuns : colophonlaw05_DigitsRuns.Pure := by
  intro l a _ hl _ _
  refine Ev.rounds (g := fun k => colophonlaw05_DigitsRuns.f k l a) ?_
  unfold colophonlaw05_DigitsRuns.f
  simp only [copy_some l hl, run_is, Option.bind_some]
  refine Ev.bind (refRun_ev l hl a) ?_
  simp only [if_true]
  refine Ev.bind (eqb_ev l hl) ?_
  simp only [if_true]
  exact awake_ev
end Go.Proofs.YtfpjlpgebhgfkaaDoor.Pure
