/- HeadCases: the walk and the plain law joined. -/
import Derived.Test.YtekmdbicobkffaaDoorPureHeadCases
namespace Go.Proofs.YtekmdbicobkffaaDoor.P
open Go.RowKit Go.Proofs.YtekmdbicobkffaaDoorW.PrintWords Go.Proofs.YtekmdbicobkffaaDoorW.PrintLast Go.Proofs.YtekmdbicobkffaaDoorW.PrintMore
theorem cases_walk (a0 : Int) (l1 : List Int) (A1 : Option Addr) (c1 : Nat) (a2 a3 a4 : Int) (w : World) (h0 : (Lit.int .i64 a0).wf = true) (hr : Kd.C (Kd.int .u8) w A1 l1.length l1) (hc : l1.length ≤ c1) (hs : l1.length * 1 ≤ 140737488351232 ∧ ∀ x ∈ l1, (Lit.int .u8 x).wf = true) (h2 : (Lit.int .i64 a2).wf = true ∧ (Lit.int .i64 a3).wf = true ∧ (Lit.int .i64 a4).wf = true) (hT : TAB2 w) :
    Calls Tryd.prog 8 #[.int .i64 a0, .slice A1 l1.length c1, .agg #[.int .i64 a2, .int .i64 a3, .int .i64 a4]] w fun e w' => e = .returned (.bool true) ∧ Below w.heap.size w w' := by
  obtain ⟨k, hk⟩ := Pure.HeadCases a0 l1 a2 a3 a4 h0 (by unfold maxLen; omega) hs.1 hs.2 h2.1 h2.2.1 h2.2.2
  exact colophonlaw06_HeadCases.calls k a0 A1 c1 l1 a2 a3 a4 true w hr hc hT hk
end Go.Proofs.YtekmdbicobkffaaDoor.P
