/- The plain law DigitsTexts: both write a number alike. -/
import Derived.Test.YtfpjlpgebhgfkaaDoorQ3
namespace Go.Proofs.YtfpjlpgebhgfkaaDoor.Pure
open Go.RowKit Go.Proofs.YtfpjlpgebhgfkaaDoor.P Go.Proofs.YtfpjlpgebhgfkaaDoorW.PrintWords
set_option linter.unusedSimpArgs false
set_option linter.unusedVariables false
theorem DigitsTexts : colophonlaw05_DigitsTexts.Pure := by
  intro n hn
  obtain ⟨_, h1⟩ := int_range hn
  refine Ev.rounds (g := fun k => colophonlaw05_DigitsTexts.f k n) ?_
  unfold colophonlaw05_DigitsTexts.f
  by_cases h0 : n < 0
  · simp only [text_neg n h0, Option.bind_some]
    refine Ev.bind (a := ((⟨#[]⟩ : ByteArray), (9 : Int))) ?_ ?_
    · unfold colophonref05_Text.f
      simp only [if_pos h0]
      exact Ev.now _
    · simp only [if_true]
      exact awake_ev
  · simp only [text_is n (by omega) h1, Option.bind_some]
    refine Ev.bind (refText_ev n (by omega) h1) ?_
    simp only [if_true]
    exact awake_ev
end Go.Proofs.YtfpjlpgebhgfkaaDoor.Pure
