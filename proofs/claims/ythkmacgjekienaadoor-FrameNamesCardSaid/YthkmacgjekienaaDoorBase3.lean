/- What came in: bytes, rows of bytes, numbers. -/
import Derived.Test.YthkmacgjekienaaDoorO
import Derived.Test.YthkmacgjekienaaDoorProg
namespace Go.Proofs.YthkmacgjekienaaDoor.P
open Go.RowKit Go.Proofs.YthkmacgjekienaaDoorW.PrintWords Go.Proofs.YthkmacgjekienaaDoorW.PrintLast Go.Proofs.YthkmacgjekienaaDoorW.PrintMore Go.ChangeShapes Go.WideShapes
set_option linter.unusedVariables false
set_option linter.unusedSimpArgs false
section
variable {H : Type} {enc : TypeId × Value → H} {W : World}
theorem cells5 : Tryd.prog.cellsOf 5 = 1 := by kernel_rfl
theorem bytes5 : Tryd.prog.bytesOf 5 = 1 := by kernel_rfl
theorem cells3 : Tryd.prog.cellsOf 3 = 1 := by kernel_rfl
theorem bytes3 : Tryd.prog.bytesOf 3 = 8 := by kernel_rfl
theorem cells27 : Tryd.prog.cellsOf 27 = 1 := by kernel_rfl
theorem bytes27 : Tryd.prog.bytesOf 27 = 24 := by kernel_rfl
theorem opens_bytes : Opens enc Tryd.prog W 27 (Kd.slice 5 (Kd.int .u8)) (fun l => l.length * 1 ≤ 140737488351232 ∧ ∀ x ∈ l, (Lit.int .u8 x).wf = true) := (opens_int Tryd.underlying5).slice Tryd.underlying27 cells5 bytes5
theorem opens_rows : Opens enc Tryd.prog W 22 (Kd.slice 27 (Kd.slice 5 (Kd.int .u8))) (fun l => l.length * 24 ≤ 140737488351232 ∧ ∀ x ∈ l, x.length * 1 ≤ 140737488351232 ∧ ∀ y ∈ x, (Lit.int .u8 y).wf = true) := opens_bytes.slice Tryd.underlying22 cells27 bytes27
theorem opens_ints : Opens enc Tryd.prog W 46 (Kd.slice 3 (Kd.int .i64)) (fun l => l.length * 8 ≤ 140737488351232 ∧ ∀ x ∈ l, (Lit.int .i64 x).wf = true) := (opens_int Tryd.underlying3).slice Tryd.underlying46 cells3 bytes3
theorem open_row {P : Program} {α : Type} {t e : TypeId} {d : Kd α} {Sz : List α → Prop} {v : Value} {x : DataW H} {p : List MemPlace} {r : Reach} {b0 : Nat} (hE : Opens enc P W t (Kd.slice e d) Sz) (ht : P.underlying t = some (.slice e)) (hv : Value.okWide P W r b0 t v) (hd : DataW.Trod enc P W 0 (fun _ => true) true t v x p) (hw : ∀ z ∈ x.weights P t, z ≤ 140737488351232) :
    ∃ (l : List α) (A : Option Addr) (c : Nat), v = .slice A l.length c ∧ Kd.C d W A l.length l ∧ l.length ≤ c ∧ Sz l := by
  obtain ⟨A, n, c, rfl⟩ := okWide_slice ht hv
  obtain ⟨l, ⟨A', c', e', hl, hc⟩, hs⟩ := open_arg hE hd hw
  have e'' : Value.slice A n c = Value.slice A' l.length c' := by
    have : [Value.slice A n c] = [Value.slice A' l.length c'] := e'
    injection this
  injection e'' with h1 h2 h3
  subst h1 h2 h3
  exact ⟨l, _, _, rfl, hc, hl, hs⟩
end
end Go.Proofs.YthkmacgjekienaaDoor.P
