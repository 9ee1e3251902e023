/- What came in: bytes, rows of bytes, numbers. -/
import Derived.Test.YtekmdbicobkffaaDoorO
import Derived.Test.YtekmdbicobkffaaDoorProg
import Derived.Laws.IdiomArrays
namespace Go.Proofs.YtekmdbicobkffaaDoor.P
open Go.RowKit Go.Proofs.YtekmdbicobkffaaDoorW.PrintWords Go.Proofs.YtekmdbicobkffaaDoorW.PrintLast Go.Proofs.YtekmdbicobkffaaDoorW.PrintMore Go.ChangeShapes Go.WideShapes
set_option linter.unusedVariables false
set_option linter.unusedSimpArgs false
section
variable {H : Type} {enc : TypeId × Value → H} {W : World}
theorem cells5 : Tryd.prog.cellsOf 5 = 1 := by kernel_rfl
theorem bytes5 : Tryd.prog.bytesOf 5 = 1 := by kernel_rfl
theorem cells3 : Tryd.prog.cellsOf 3 = 1 := by kernel_rfl
theorem bytes3 : Tryd.prog.bytesOf 3 = 8 := by kernel_rfl
theorem opens_bytes : Opens enc Tryd.prog W 22 (Kd.slice 5 (Kd.int .u8)) (fun l => l.length * 1 ≤ 140737488351232 ∧ ∀ x ∈ l, (Lit.int .u8 x).wf = true) := (opens_int Tryd.underlying5).slice Tryd.underlying22 cells5 bytes5
theorem open_row {P : Program} {α : Type} {t e : TypeId} {d : Kd α} {Sz : List α → Prop} {v : Value} {x : DataW H} {p : List MemPlace} {r : Reach} {b0 : Nat} (hE : Opens enc P W t (Kd.slice e d) Sz) (ht : P.underlying t = some (.slice e)) (hv : Value.okWide P W r b0 t v) (hd : DataW.Trod enc P W 0 (fun _ => true) true t v x p) (hw : ∀ z ∈ x.weights P t, z ≤ 140737488351232) :
    ∃ (l : List α) (A : Option Addr) (c : Nat), v = .slice A l.length c ∧ Kd.C d W A l.length l ∧ l.length ≤ c ∧ Sz l := by
  obtain ⟨A, n, c, rfl⟩ := okWide_slice ht hv
  obtain ⟨l, ⟨A', c', e', hl, hc⟩, hs⟩ := open_arg hE hd hw
  have e'' : Value.slice A n c = Value.slice A' l.length c' := by
    have : [Value.slice A n c] = [Value.slice A' l.length c'] := e'
    injection this
  injection e'' with h1 h2 h3
  subst h1 h2 h3
  exact ⟨l, _, _, rfl, hc, hl, hs⟩
def k38 : Kd (Int × Int × Int) := Kd.pair (Kd.int .i64) (Kd.pair (Kd.int .i64) (Kd.int .i64))
theorem cells38 : Tryd.prog.cellsOf 38 = 3 := by kernel_rfl
theorem bytes38 : Tryd.prog.bytesOf 38 = 24 := by kernel_rfl
theorem k38_K {W : World} {p : Int × Int × Int} {cs : List Value} : k38.K W p cs ↔ cs = [.int .i64 p.1, .int .i64 p.2.1, .int .i64 p.2.2] := by
  constructor
  · rintro ⟨a, b, rfl, ha, a2, b2, rfl, hb, hc⟩
    cases ha; cases hb; cases hc; rfl
  · rintro rfl
    exact ⟨_, _, rfl, rfl, _, _, rfl, rfl, rfl⟩
theorem opens38 : Opens enc Tryd.prog W 38 k38 (fun a => (Lit.int .i64 a.1).wf = true ∧ (Lit.int .i64 a.2.1).wf = true ∧ (Lit.int .i64 a.2.2).wf = true) := by
  intro n cs x h hw
  have hl : cs.length = 3 := by
    obtain ⟨xs, m, rfl, rfl, hl, _, _⟩ := DataW.trod_array Tryd.underlying38 h
    rw [hl]; exact cells38
  obtain ⟨c0, c1, c2, rfl⟩ : ∃ c0 c1 c2, cs = [c0, c1, c2] := by
    match cs, hl with
    | [c0, c1, c2], _ => exact ⟨_, _, _, rfl⟩
  obtain ⟨y0, y1, y2, m, -, h0, h1, h2⟩ := trod_array3 Tryd.underlying38 cells3 h
  obtain ⟨a0, e0, -, q0⟩ := DataW.trod_int Tryd.underlying3 h0
  obtain ⟨a1, e1, -, q1⟩ := DataW.trod_int Tryd.underlying3 h1
  obtain ⟨a2, e2, -, q2⟩ := DataW.trod_int Tryd.underlying3 h2
  refine ⟨(a0, a1, a2), k38_K.mpr ?_, q0, q1, q2⟩
  rw [show c0 = .int .i64 a0 by injection e0, show c1 = .int .i64 a1 by injection e1, show c2 = .int .i64 a2 by injection e2]
theorem open_three {P : Program} {Sz : Int × Int × Int → Prop} {v : Value} {x : DataW H} {p : List MemPlace} {e : TypeId} {n : Nat} {r : Reach} {b0 : Nat} (hE : Opens enc P W 38 k38 Sz) (ht : P.underlying 38 = some (.array e n)) (hv : Value.okWide P W r b0 38 v) (hd : DataW.Trod enc P W 0 (fun _ => true) true 38 v x p) (hw : ∀ z ∈ x.weights P 38, z ≤ 140737488351232) :
    ∃ d0 d1 d2 : Int, v = .agg #[.int .i64 d0, .int .i64 d1, .int .i64 d2] ∧ Sz (d0, d1, d2) := by
  obtain ⟨cs, rfl⟩ : ∃ cs, v = .agg cs := by
    simp only [Value.okWide, ht] at hv
    obtain ⟨cs, h1, _⟩ := hv
    exact ⟨cs, h1⟩
  obtain ⟨a, hK, hs⟩ := open_arg hE hd hw
  have e := k38_K.mp hK
  refine ⟨a.1, a.2.1, a.2.2, ?_, hs⟩
  congr 1
  rw [← Array.toList_inj]; exact e
end
end Go.Proofs.YtekmdbicobkffaaDoor.P
