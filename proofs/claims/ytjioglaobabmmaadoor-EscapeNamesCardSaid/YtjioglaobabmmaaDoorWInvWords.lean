import Derived.Test.YtjioglaobabmmaaDoorWInv
import Derived.Test.YtjioglaobabmmaaDoorWFootNe
namespace Go.Proofs.YtjioglaobabmmaaDoorW.PrintWords
open Go.RowKit
end Go.Proofs.YtjioglaobabmmaaDoorW.PrintWords
namespace Go.Proofs.YtjioglaobabmmaaDoorW.PrintLast
section
variable {ops : Array Oper} {a : Act} {o og : Oper} {g : Nat} {t : Tmp} {u : Bool}
end
end Go.Proofs.YtjioglaobabmmaaDoorW.PrintLast
