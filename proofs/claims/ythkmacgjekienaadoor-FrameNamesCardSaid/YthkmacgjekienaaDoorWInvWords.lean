import Derived.Test.YthkmacgjekienaaDoorWInv
import Derived.Test.YthkmacgjekienaaDoorWFootNe
namespace Go.Proofs.YthkmacgjekienaaDoorW.PrintWords
open Go.RowKit
end Go.Proofs.YthkmacgjekienaaDoorW.PrintWords
namespace Go.Proofs.YthkmacgjekienaaDoorW.PrintLast
section
variable {ops : Array Oper} {a : Act} {o og : Oper} {g : Nat} {t : Tmp} {u : Bool}
end
end Go.Proofs.YthkmacgjekienaaDoorW.PrintLast
