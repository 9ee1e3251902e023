import Derived.Test.YtfpjlpgebhgfkaaDoorWInv
import Derived.Test.YtfpjlpgebhgfkaaDoorWFootNe
namespace Go.Proofs.YtfpjlpgebhgfkaaDoorW.PrintWords
open Go.RowKit
end Go.Proofs.YtfpjlpgebhgfkaaDoorW.PrintWords
namespace Go.Proofs.YtfpjlpgebhgfkaaDoorW.PrintLast
section
variable {ops : Array Oper} {a : Act} {o og : Oper} {g : Nat} {t : Tmp} {u : Bool}
end
end Go.Proofs.YtfpjlpgebhgfkaaDoorW.PrintLast
