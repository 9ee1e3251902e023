/- What the values' functions tell, as plain functions on trees. -/
import Derived.Test.YtfpmompdgmklmaaDoorP0
namespace Go.Proofs.YtfpmompdgmklmaaDoor.P
open Go.RowKit Go.Proofs.YtfpmompdgmklmaaDoorW.PrintWords
set_option linter.unusedVariables false
mutual
def eqV : S25 → S25 → Bool
 | ⟨k, i, t, l, n⟩, ⟨k', i', t', l', n'⟩ => k == k' && (i == i' && (decide (t = t') && (decide (n = n') && eqL l l')))
def eqL : List S25 → List S25 → Bool
 | [], [] => true
 | a :: r, b :: s => eqV a b && eqL r s
 | _, _ => false
end
mutual
def mayV : S25 → Bool
 | ⟨k, i, t, l, n⟩ => (decide (0 ≤ k) && decide (k ≤ 5)) && ((!i || k == 1) && ((decide (t.size = 0) || (k == 2 || k == 3)) && ((decide (l.length = 0) || (k == 4 || k == 5)) && ((decide (n.length = 0) || k == 5) && ((!(k == 5) || decide (n.length = l.length)) && mayL l)))))
def mayL : List S25 → Bool
 | [] => true
 | a :: r => mayV a && mayL r
end
def value_mayBe.f (a0 : Int) (a1 : Bool) (a2 : ByteArray) (a3 : List S25) (a4 : List ByteArray) : Option Bool := some (mayV ⟨a0, a1, a2, a3, a4⟩)
def value_Equal.f (a0 : Int) (a1 : Bool) (a2 : ByteArray) (a3 : List S25) (a4 : List ByteArray) (b0 : Int) (b1 : Bool) (b2 : ByteArray) (b3 : List S25) (b4 : List ByteArray) : Option Bool := some (eqV ⟨a0, a1, a2, a3, a4⟩ ⟨b0, b1, b2, b3, b4⟩)
end Go.Proofs.YtfpmompdgmklmaaDoor.P
