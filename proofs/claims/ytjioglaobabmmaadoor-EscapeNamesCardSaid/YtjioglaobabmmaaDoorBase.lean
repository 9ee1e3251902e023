/- The package-level table that the printed contracts hand on. -/
import Derived.Test.YtjioglaobabmmaaDoorProg
import Derived.Lib.LaidTab
import Derived.Lib.AppendIntMem
import Derived.Deep.Draws
import Derived.Below
namespace Go.Proofs.YtjioglaobabmmaaDoor.P
open Go.RowKit
def dbTab : List Int := [0,1,56,2,57,49,28,3,61,58,42,50,38,29,17,4,62,47,59,36,45,43,51,22,53,39,33,30,24,18,12,5,63,55,48,27,60,41,37,16,46,35,44,21,52,32,23,11,54,26,40,15,34,20,31,10,25,14,19,9,13,8,7,6]
def TAB (w : World) : Prop := Lib.TabIs Tryd.prog w "math/bits.deBruijn64tab" .u8 dbTab
theorem TAB.below {w w1 : World} (h : TAB w) (hb : Below w.heap.size w w1) : TAB w1 := Lib.tabBelow_of_tabIs h _ hb
theorem TAB.drewN {w : World} {n : Nat} (h : TAB w) : TAB (w.drewN n) := h
theorem TAB.drew {w : World} (h : TAB w) : TAB w.drew := h
end Go.Proofs.YtjioglaobabmmaaDoor.P
