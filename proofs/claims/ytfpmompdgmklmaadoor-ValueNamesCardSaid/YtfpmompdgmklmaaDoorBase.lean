/- The package-level table that the printed contracts hand on. -/
import Derived.Test.YtfpmompdgmklmaaDoorProg
import Derived.Lib.AppendIntMem
import Derived.Deep.Draws
import Derived.Below
namespace Go.Proofs.YtfpmompdgmklmaaDoor.P
open Go.RowKit
def TAB (w : World) : Prop := Lib.TabIs Tryd.prog w "internal/strconv.uint64pow10" .u64 Lib.pow10Tab
theorem TAB.below {w w1 : World} (h : TAB w) (hb : Below w.heap.size w w1) : TAB w1 := Lib.tabBelow_of_tabIs h _ hb
theorem TAB.drewN {w : World} {n : Nat} (h : TAB w) : TAB (w.drewN n) := h
theorem TAB.drew {w : World} (h : TAB w) : TAB w.drew := h
end Go.Proofs.YtfpmompdgmklmaaDoor.P
