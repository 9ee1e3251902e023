/- The world of a row; an argument that came in, opened. -/
import Derived.Test.YtfedlanbmibhkaaRows
import Derived.Test.YtfedlanbmibhkaaO
import Derived.Lib.LaidTab
import Derived.LaidLaws
namespace Go.Proofs.Ytfedlanbmibhkaa.P
open Go.RowKit Go.Proofs.YtfedlanbmibhkaaW.PrintWords Go.Proofs.YtfedlanbmibhkaaW.PrintLast Go.Proofs.YtfedlanbmibhkaaW.PrintMore Go.ChangeShapes Go.WideShapes
set_option linter.unusedVariables false
set_option linter.unusedSimpArgs false
noncomputable def laidWorld (os : Os) : World := World.holding Try.prog os ⟨#[], #[], []⟩
section
variable {H : Type} {enc : TypeId × Value → H} {W : World}
theorem cells3 : Try.prog.cellsOf 3 = 1 := by kernel_rfl
theorem cells5 : Try.prog.cellsOf 5 = 1 := by kernel_rfl
theorem bytes3 : Try.prog.bytesOf 3 = 8 := by kernel_rfl
theorem bytes5 : Try.prog.bytesOf 5 = 1 := by kernel_rfl
theorem opens_bytes : Opens enc Try.prog W 22 (Kd.slice 5 (Kd.int .u8)) (fun l => l.length * 1 ≤ 140737488351232 ∧ ∀ x ∈ l, (Lit.int .u8 x).wf = true) := (opens_int Try.underlying5).slice Try.underlying22 cells5 bytes5
theorem opens_ints : Opens enc Try.prog W 51 (Kd.slice 3 (Kd.int .i64)) (fun l => l.length * 8 ≤ 140737488351232 ∧ ∀ x ∈ l, (Lit.int .i64 x).wf = true) := (opens_int Try.underlying3).slice Try.underlying51 cells3 bytes3
/-- An argument that is a slice. -/
theorem open_row {α : Type} {t e : TypeId} {d : Kd α} {Sz : List α → Prop} {v : Value} {x : DataW H} {p : List MemPlace} {r : Reach} {b0 : Nat} (hE : Opens enc Try.prog W t (Kd.slice e d) Sz) (ht : Try.prog.underlying t = some (.slice e)) (hv : Value.okWide Try.prog W r b0 t v) (hd : DataW.Trod enc Try.prog W 0 (fun _ => true) true t v x p) (hw : ∀ z ∈ x.weights Try.prog t, z ≤ 140737488351232) :
    ∃ (l : List α) (A : Option Addr) (c : Nat), v = .slice A l.length c ∧ Kd.C d W A l.length l ∧ l.length ≤ c ∧ Sz l := by
  obtain ⟨A, n, c, rfl⟩ := okWide_slice ht hv
  obtain ⟨l, ⟨A', c', e', hl, hc⟩, hs⟩ := open_arg hE hd hw
  have e'' : Value.slice A n c = Value.slice A' l.length c' := by
    have : [Value.slice A n c] = [Value.slice A' l.length c'] := e'
    injection this
  injection e'' with h1 h2 h3
  subst h1 h2 h3
  exact ⟨l, _, _, rfl, hc, hl, hs⟩
end
end Go.Proofs.Ytfedlanbmibhkaa.P
