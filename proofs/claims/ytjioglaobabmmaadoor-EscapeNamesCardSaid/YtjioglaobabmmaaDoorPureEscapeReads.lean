/- EscapeReads: the plain law. -/
import Derived.Test.YtjioglaobabmmaaDoorP8
import Derived.Test.YtjioglaobabmmaaDoorQA
namespace Go.Proofs.YtjioglaobabmmaaDoor.Pure
open Go.RowKit Go.Proofs.YtjioglaobabmmaaDoor.P Go.Proofs.YtjioglaobabmmaaDoorW.PrintWords
set_option linter.unusedVariables false
set_option linter.unusedSimpArgs false
theorem EscapeReads : colophonlaw08_EscapeReads.Pure := by
  intro l0 a1 _ hl hb ha
  have hB : Bytes l0 := fun x hx => byte_range (hb x hx)
  obtain ⟨h1, h2⟩ := unquote_both l0 hB (by omega) a1
  refine Ev.rounds ?_
  unfold colophonlaw08_EscapeReads.f
  simp only [copy_some l0 hl, Option.bind_some]
  refine Ev.bind h1 (Ev.bind h2 ?_)
  simp only [if_true]
  refine Ev.bind (eqb_ev l0 l0 (by omega)) ?_
  simp only [decide_true, if_true]
  exact awake_ev
end Go.Proofs.YtjioglaobabmmaaDoor.Pure
