import Derived.Test.YtfpmompdgmklmaaDoorWInv
import Derived.Test.YtfpmompdgmklmaaDoorWFootNe
namespace Go.Proofs.YtfpmompdgmklmaaDoorW.PrintWords
open Go.RowKit
end Go.Proofs.YtfpmompdgmklmaaDoorW.PrintWords
namespace Go.Proofs.YtfpmompdgmklmaaDoorW.PrintLast
section
variable {ops : Array Oper} {a : Act} {o og : Oper} {g : Nat} {t : Tmp} {u : Bool}
end
end Go.Proofs.YtfpmompdgmklmaaDoorW.PrintLast
