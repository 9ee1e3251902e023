/- What of the package-level variables the printed contracts hand on: bytealg.MaxLen holds some number; utf8's two tables; and (TAB2) the powers of ten. -/
import Derived.Test.YthkmacgjekienaaDoorProg
import Derived.Lib.AppendIntMem
import Derived.Deep.Draws
import Derived.Below
import Derived.Shelf.Unicode.DecodeSlow
import Derived.Shelf.Unicode.DecodeLastEight
namespace Go.Proofs.YthkmacgjekienaaDoor.P
open Go.RowKit
structure TAB (w : World) : Prop where
  maxLen : ∃ m : Int, w.cell? ⟨0, 0, none⟩ = some (.int .i64 m)
  utf : Lib.Utf8Tabs 4 5 w
structure TAB2 (w : World) : Prop where
  tab : TAB w
  pow : Lib.TabIs Tryd.prog w "internal/strconv.uint64pow10" .u64 Lib.pow10Tab
theorem TAB.below {w w1 : World} (h : TAB w) (hb : Below w.heap.size w w1) : TAB w1 :=
  ⟨by obtain ⟨m, hm⟩ := h.maxLen; exact ⟨m, (hb.cell (World.block_lt_of_cell? _ _ hm)).trans hm⟩, Utf8Tabs_below h.utf hb⟩
theorem TAB.drewN {w : World} {n : Nat} (h : TAB w) : TAB (w.drewN n) := ⟨h.maxLen, h.utf⟩
theorem TAB.drew {w : World} (h : TAB w) : TAB w.drew := ⟨h.maxLen, h.utf⟩
theorem TAB2.below {w w1 : World} (h : TAB2 w) (hb : Below w.heap.size w w1) : TAB2 w1 := ⟨h.tab.below hb, Lib.tabBelow_of_tabIs h.pow _ hb⟩
theorem TAB2.drewN {w : World} {n : Nat} (h : TAB2 w) : TAB2 (w.drewN n) := ⟨h.tab.drewN, h.pow⟩
theorem TAB2.drew {w : World} (h : TAB2 w) : TAB2 w.drew := ⟨h.tab.drew, h.pow⟩
end Go.Proofs.YthkmacgjekienaaDoor.P
