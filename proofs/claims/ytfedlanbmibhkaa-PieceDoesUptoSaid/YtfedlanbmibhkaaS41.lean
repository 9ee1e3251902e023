/- Deeds that came in. -/
import Derived.Test.YtfedlanbmibhkaaS40
namespace Go.Proofs.Ytfedlanbmibhkaa.P
open Go.RowKit Go.Proofs.YtfedlanbmibhkaaW.PrintWords Go.Proofs.YtfedlanbmibhkaaW.PrintLast Go.Proofs.YtfedlanbmibhkaaW.PrintMore Go.ChangeShapes Go.WideShapes
set_option linter.unusedVariables false
section
variable {H : Type} {enc : TypeId × Value → H} {W : World}
theorem opens34 : Opens enc Try.prog W 34 k34 (fun d => d.2.2.1.length ≤ 140737488351232) := fun n cs x h hw => by
  obtain ⟨a, h1, h2, -⟩ := opensB34 n cs x h hw
  exact ⟨a, h1, h2⟩
theorem opens23 : Opens enc Try.prog W 23 (Kd.slice 34 k34) (fun l => l.length * 48 ≤ 140737488351232 ∧ ∀ x ∈ l, x.2.2.1.length ≤ 140737488351232) := opens34.slice Try.underlying23 cells34 bytes34
end
end Go.Proofs.Ytfedlanbmibhkaa.P
