/- What the two kinds of tables share. -/
import Derived.Test.YtfedlanbmibhkaaS2
import Derived.Shelf.Abstract
import Derived.RangeFuncNested
namespace Go.Proofs.Ytfedlanbmibhkaa.P
open Go.RowKit Go.Proofs.YtfedlanbmibhkaaW.PrintWords Go.Proofs.YtfedlanbmibhkaaW.PrintLast Go.Proofs.YtfedlanbmibhkaaW.PrintMore
set_option linter.unusedVariables false
set_option linter.unusedSimpArgs false
/-- what a round keeps of a table -/
def Keep (D : Nat → Prop) (W W' : World) : Prop := ∀ g, D g → W'.heap[g]? = W.heap[g]?
theorem Keep.refl (D : Nat → Prop) (W : World) : Keep D W W := fun _ _ => rfl
theorem Keep.trans {D : Nat → Prop} {A B C : World} (h : Keep D A B) (k : Keep D B C) : Keep D A C := fun g hg => (k g hg).trans (h g hg)
/-- the blocks that a range over a table reads -/
def Foot (w : World) (C : Nat → Prop) (v : Value) (g : Nat) : Prop := g < w.heap.size ∧ (v.ownBlock = some g ∨ C g)
theorem flat_get {α : Type} {ps : List (List α)} {q j : Nat} {p : List α} {x : α} (hp : ps[q]? = some p) (hx : p[j]? = some x) : (ps.take q).flatten ++ p.take j ++ [x] = (ps.take q).flatten ++ p.take (j + 1) := by
  rw [List.append_assoc, take_get hx]

theorem flat_prefix {α : Type} {ps : List (List α)} {q j : Nat} {p : List α} {x : α} (hp : ps[q]? = some p) (hx : p[j]? = some x) : (ps.take q).flatten ++ p.take j ++ [x] <+: ps.flatten := by
  rw [flat_get hp hx]
  have e : ps = ps.take q ++ p :: ps.drop (q + 1) := by rw [← drop_get hp, List.take_append_drop]
  refine ⟨p.drop (j + 1) ++ (ps.drop (q + 1)).flatten, ?_⟩
  conv => rhs; rw [e]
  rw [List.flatten_append, List.flatten_cons, List.append_assoc, ← List.append_assoc (p.take (j + 1)), List.take_append_drop]

theorem wide_fn (f : FuncId) : Fence.wide.fn f = True := rfl
end Go.Proofs.Ytfedlanbmibhkaa.P
