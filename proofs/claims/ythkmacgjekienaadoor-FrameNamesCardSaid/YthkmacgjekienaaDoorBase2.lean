/- The laid tables: a world that holds them, and what a row's list gives. -/
import Derived.Test.YthkmacgjekienaaDoorRows
import Derived.Test.YthkmacgjekienaaDoorBase
import Derived.Test.YthkmacgjekienaaDoorShelf
import Derived.Lib.LaidTab
import Derived.Lib.LaidU8
import Derived.LaidLaws
import Derived.Stop.LaidErr
import Derived.Deep.DeepLaidRun
import Derived.Deep.DeepWitnessRowRef
import Derived.Lib.LaidIn
import Derived.Great.CaseRows
namespace Go.Proofs.YthkmacgjekienaaDoor.P
open Go.RowKit
set_option linter.unusedSimpArgs false
set_option linter.unusedVariables false
def flatD : Nat → DataW Unit → List Value
  | _, .lit (.int k n) => [.int k n]
  | f + 1, .agg ps => ps.flatMap (flatD f)
  | _, _ => []
def elemsD : DataW Unit → List (DataW Unit)
  | .slice es _ => es
  | _ => []
noncomputable def laidWorld (os : Os) : World :=
  let N := (World.settled Tryd.prog os).heap.size
  let w0 := World.holding Tryd.prog os ⟨#[.cells ((elemsD Rows.laid_unicode_caseOrbit).flatMap (flatD 5)).toArray 105, .cells (Go.Pinned.caseRows.flatMap Go.Lib.cells5).toArray 125], #[], []⟩
  let put (h : Array Obj) (g : Nat) (cs : Array Value) : Array Obj := h.modify g fun
    | .cells _ t frozen => .cells cs t frozen
    | o => o
  { w0 with heap := put (put (put (put (put (put (put (put w0.heap 1 (flatD 5 Rows.laid_unicode_asciiFold).toArray) 2 #[.slice (some ⟨N, 0, none⟩) (elemsD Rows.laid_unicode_caseOrbit).length (elemsD Rows.laid_unicode_caseOrbit).length])
    3 #[.slice (some ⟨N + 1, 0, none⟩) Go.Pinned.caseRows.length Go.Pinned.caseRows.length]) 4 (flatD 5 Rows.laid_unicode_utf8_first).toArray) 5 (flatD 5 Rows.laid_unicode_utf8_acceptRanges).toArray)
    6 (flatD 5 Rows.laid_internal_strconv_uint64pow10).toArray) 7 (flatD 5 Rows.laid_math_bits_deBruijn32tab).toArray) 8 (flatD 5 Rows.laid_math_bits_deBruijn64tab).toArray }
noncomputable abbrev N0 : Nat := (World.settled Tryd.prog default).heap.size
theorem piece1 (os : Os) (args : Array Value) : LaidIn Tryd.prog ((laidWorld os).forCall (fun _ _ => 0) ⟨#[], args, []⟩).memory [("unicode/utf8.acceptRanges", Rows.laid_unicode_utf8_acceptRanges), ("unicode.asciiFold", Rows.laid_unicode_asciiFold), ("unicode.caseOrbit", Rows.laid_unicode_caseOrbit)] [5, 1, 2, N0] :=
  LaidIn.of_run [5, 1, 2, N0] 8 (by kernel_rfl) (by kernel_rfl) (by kernel_rfl) (by kernel_rfl)
theorem ctypes : Go.Great.CTypes Tryd.prog 108 125 123 112 21 := { tS := Tryd.underlying108, tR := Tryd.underlying125, tD := Tryd.underlying123, tU := Tryd.underlying112, tI := Tryd.underlying21, cI := by kernel_rfl, cU := by kernel_rfl, cD := by kernel_rfl, cR := by kernel_rfl }
theorem piece2 (os : Os) (args : Array Value) : LaidIn Tryd.prog ((laidWorld os).forCall (fun _ _ => 0) ⟨#[], args, []⟩).memory [("unicode.CaseRanges", Rows.laid_unicode_CaseRanges)] [3, N0 + 1] :=
  Go.Great.laidIn_case ctypes (tg := 108) (tb := 125) Go.Pinned.caseRows (by kernel_rfl) (by kernel_rfl) (of_decide_eq_true (by kernel_rfl)) (by kernel_rfl) (by kernel_rfl) (by kernel_rfl) (of_decide_eq_true (by kernel_rfl))
theorem piece3 (os : Os) (args : Array Value) : LaidIn Tryd.prog ((laidWorld os).forCall (fun _ _ => 0) ⟨#[], args, []⟩).memory [("unicode/utf8.first", Rows.laid_unicode_utf8_first)] [4] :=
  LaidIn.of_run [4] 8 (by kernel_rfl) (by kernel_rfl) (by kernel_rfl) (by kernel_rfl)
theorem piece0 (os : Os) (args : Array Value) : LaidIn Tryd.prog ((laidWorld os).forCall (fun _ _ => 0) ⟨#[], args, []⟩).memory [("math/bits.deBruijn32tab", Rows.laid_math_bits_deBruijn32tab), ("math/bits.deBruijn64tab", Rows.laid_math_bits_deBruijn64tab), ("internal/strconv.uint64pow10", Rows.laid_internal_strconv_uint64pow10)] [7, 8, 6] :=
  LaidIn.of_run [7, 8, 6] 8 (by kernel_rfl) (by kernel_rfl) (by kernel_rfl) (by kernel_rfl)
theorem laid5 (os : Os) (args : Array Value) : laidMet Tryd.prog [("unicode/utf8.acceptRanges", Rows.laid_unicode_utf8_acceptRanges), ("unicode.asciiFold", Rows.laid_unicode_asciiFold), ("unicode.caseOrbit", Rows.laid_unicode_caseOrbit), ("unicode.CaseRanges", Rows.laid_unicode_CaseRanges), ("unicode/utf8.first", Rows.laid_unicode_utf8_first)] ((laidWorld os).forCall (fun _ _ => 0) ⟨#[], args, []⟩).memory :=
  (((piece1 os args).append (piece2 os args) (by kernel_rfl)).append (piece3 os args) (by kernel_rfl)).met
theorem laid8 (os : Os) (args : Array Value) : laidMet Tryd.prog [("math/bits.deBruijn32tab", Rows.laid_math_bits_deBruijn32tab), ("math/bits.deBruijn64tab", Rows.laid_math_bits_deBruijn64tab), ("internal/strconv.uint64pow10", Rows.laid_internal_strconv_uint64pow10), ("unicode/utf8.acceptRanges", Rows.laid_unicode_utf8_acceptRanges), ("unicode.asciiFold", Rows.laid_unicode_asciiFold), ("unicode.caseOrbit", Rows.laid_unicode_caseOrbit), ("unicode.CaseRanges", Rows.laid_unicode_CaseRanges), ("unicode/utf8.first", Rows.laid_unicode_utf8_first)] ((laidWorld os).forCall (fun _ _ => 0) ⟨#[], args, []⟩).memory :=
  ((((piece0 os args).append (piece1 os args) (by kernel_rfl)).append (piece2 os args) (by kernel_rfl)).append (piece3 os args) (by kernel_rfl)).met
theorem utf_of {W : World} {l : List (String × DataW Unit)} (h : laidMet Tryd.prog l W) (h1 : ("unicode/utf8.first", (Rows.laid_unicode_utf8_first : DataW Unit)) ∈ l) (h2 : ("unicode/utf8.acceptRanges", (Rows.laid_unicode_utf8_acceptRanges : DataW Unit)) ∈ l) : Lib.Utf8Tabs 4 5 W := by
  have e1 : (Rows.laid_unicode_utf8_first : DataW Unit) = Lib.firstData := by kernel_rfl
  have e2 : (Rows.laid_unicode_utf8_acceptRanges : DataW Unit) = Lib.acceptData := by kernel_rfl
  have r1 := Go.Lib.laidMet.reads h h1
  have r2 := Go.Lib.laidMet.reads h h2
  rw [e1] at r1
  rw [e2] at r2
  exact utf8Tabs_of_reads (P := Tryd.prog) (ρ := Tryd.lays260_ren) Tryd.lays260 { n3 := by kernel_rfl, n4 := by kernel_rfl, y3 := by kernel_rfl, y4 := by kernel_rfl, c5 := by kernel_rfl, c119 := by kernel_rfl, c138 := by kernel_rfl } r1 r2
theorem tab_of {W : World} {l : List (String × DataW Unit)} (h : laidMet Tryd.prog l W) (hsh : W.ShapedOpen Tryd.prog) (h1 : ("unicode/utf8.first", (Rows.laid_unicode_utf8_first : DataW Unit)) ∈ l) (h2 : ("unicode/utf8.acceptRanges", (Rows.laid_unicode_utf8_acceptRanges : DataW Unit)) ∈ l) : TAB W :=
  ⟨Tryd.laysM185.s1_3 W hsh, utf_of h h1 h2⟩
theorem TAB.of_laid {W : World} (h : laidMetH Tryd.prog [("unicode/utf8.acceptRanges", Rows.laid_unicode_utf8_acceptRanges), ("unicode.asciiFold", Rows.laid_unicode_asciiFold), ("unicode.caseOrbit", Rows.laid_unicode_caseOrbit), ("unicode.CaseRanges", Rows.laid_unicode_CaseRanges), ("unicode/utf8.first", Rows.laid_unicode_utf8_first)] W) (hsh : W.ShapedOpen Tryd.prog) : TAB W :=
  tab_of (l := _) h hsh (by simp) (by simp)
theorem g_pow : Tryd.prog.globalNamed "internal/strconv.uint64pow10" = some 6 := by kernel_rfl
theorem ty_pow : (Tryd.prog.globals[6]?).map (·.type) = some 133 := by kernel_rfl
theorem c1_pow : Tryd.prog.cellsOf 127 = 1 := by kernel_rfl
theorem c2_pow : Tryd.prog.cellsOf 133 = 20 := by kernel_rfl
theorem TAB2.of_laid {W : World} (h : laidMetH Tryd.prog [("math/bits.deBruijn32tab", Rows.laid_math_bits_deBruijn32tab), ("math/bits.deBruijn64tab", Rows.laid_math_bits_deBruijn64tab), ("internal/strconv.uint64pow10", Rows.laid_internal_strconv_uint64pow10), ("unicode/utf8.acceptRanges", Rows.laid_unicode_utf8_acceptRanges), ("unicode.asciiFold", Rows.laid_unicode_asciiFold), ("unicode.caseOrbit", Rows.laid_unicode_caseOrbit), ("unicode.CaseRanges", Rows.laid_unicode_CaseRanges), ("unicode/utf8.first", Rows.laid_unicode_utf8_first)] W) (hsh : W.ShapedOpen Tryd.prog) : TAB2 W := by
  refine ⟨tab_of (l := _) h hsh (by simp) (by simp), ?_⟩
  have h0 : laidMet Tryd.prog _ W := h
  have h1 := laidMet.tail h0
  have h2 := laidMet.tail h1
  exact Lib.tabIs_of_head g_pow ty_pow Tryd.underlying133 Tryd.underlying127 c1_pow c2_pow h2
end Go.Proofs.YthkmacgjekienaaDoor.P
