/- The plain law DigitsParses: both parsers answer alike. -/
import Derived.Test.YtfpjlpgebhgfkaaDoorQ2
import Derived.Test.YtfpjlpgebhgfkaaDoorP4
namespace Go.Proofs.YtfpjlpgebhgfkaaDoor.Pure
open Go.RowKit Go.Proofs.YtfpjlpgebhgfkaaDoor.P Go.Proofs.YtfpjlpgebhgfkaaDoorW.PrintWords
set_option linter.unusedSimpArgs false
set_option linter.unusedVariables false
theorem DigitsParses : colophonlaw05_DigitsParses.Pure := by
  intro l a _ hl _ ha
  have ha' : a < 9223372036854775808 := by have := int_range ha; omega
  refine Ev.rounds (g := fun k => colophonlaw05_DigitsParses.f k l a) ?_
  unfold colophonlaw05_DigitsParses.f
  simp only [copy_some l hl, Option.bind_some]
  refine Ev.bind (parse_ev l hl a ha') ?_
  refine Ev.bind (refParse_ev l hl a ha') ?_
  simp only [if_true]
  refine Ev.bind (eqb_ev l hl) ?_
  simp only [if_true]
  exact awake_ev
end Go.Proofs.YtfpjlpgebhgfkaaDoor.Pure
