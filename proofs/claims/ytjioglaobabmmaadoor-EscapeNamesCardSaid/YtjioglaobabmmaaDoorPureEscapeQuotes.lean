/- EscapeQuotes: the plain law, of texts of a million bytes. -/
import Derived.Test.YtjioglaobabmmaaDoorUEscapeQuotes
import Derived.Test.YtjioglaobabmmaaDoorQB
namespace Go.Proofs.YtjioglaobabmmaaDoor.Pure
open Go.RowKit Go.Proofs.YtjioglaobabmmaaDoor.P Go.Proofs.YtjioglaobabmmaaDoorW.PrintWords
set_option linter.unusedVariables false
set_option linter.unusedSimpArgs false
theorem EscapeQuotes : colophonlaw08_EscapeQuotes.PureU := by
  intro a0 _ hs
  refine Ev.rounds ?_
  unfold colophonlaw08_EscapeQuotes.f
  by_cases hu : utf (bytesOf a0) = true
  · obtain ⟨cs, h1, h2⟩ := chars_of _ (bytesOf_bytes a0) hu
    have hl : (chs cs).length = a0.size := by rw [← h2, bytesOf_length]
    have e : a0 = strOfNums (chs cs) := by rw [← h2, str_of_bytes]
    have q1 := quote_prog cs h1 (by omega)
    have q2 := quote_ref cs h1 (by omega)
    rw [← e] at q1 q2
    refine Ev.bind q1 (Ev.bind q2 ?_)
    simp only [if_true]
    exact awake_ev
  · obtain ⟨q1, q2⟩ := quote_bad a0 (by omega) hu
    refine Ev.bind q1 (Ev.bind q2 ?_)
    simp only [if_true]
    exact awake_ev
end Go.Proofs.YtjioglaobabmmaaDoor.Pure
