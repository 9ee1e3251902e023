import Derived.Test.YtekmdbicobkffaaDoorWInv
import Derived.Test.YtekmdbicobkffaaDoorWFootNe
namespace Go.Proofs.YtekmdbicobkffaaDoorW.PrintWords
open Go.RowKit
end Go.Proofs.YtekmdbicobkffaaDoorW.PrintWords
namespace Go.Proofs.YtekmdbicobkffaaDoorW.PrintLast
section
variable {ops : Array Oper} {a : Act} {o og : Oper} {g : Nat} {t : Tmp} {u : Bool}
end
end Go.Proofs.YtekmdbicobkffaaDoorW.PrintLast
