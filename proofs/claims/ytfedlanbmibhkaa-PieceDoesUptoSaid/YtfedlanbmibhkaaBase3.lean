/- What came in: arrays of three numbers. -/
import Derived.Test.YtfedlanbmibhkaaBase2
import Derived.Laws.IdiomArrays
namespace Go.Proofs.Ytfedlanbmibhkaa.P
open Go.RowKit Go.Proofs.YtfedlanbmibhkaaW.PrintWords Go.Proofs.YtfedlanbmibhkaaW.PrintLast Go.Proofs.YtfedlanbmibhkaaW.PrintMore Go.ChangeShapes Go.WideShapes
set_option linter.unusedVariables false
set_option linter.unusedSimpArgs false
section
variable {H : Type} {enc : TypeId × Value → H} {W : World}
def k46 : Kd (Int × Int × Int) := Kd.pair (Kd.int .i64) (Kd.pair (Kd.int .i64) (Kd.int .i64))
theorem cells46 : Try.prog.cellsOf 46 = 3 := by kernel_rfl
theorem bytes46 : Try.prog.bytesOf 46 = 24 := by kernel_rfl
theorem k46_K {W : World} {p : Int × Int × Int} {cs : List Value} : k46.K W p cs ↔ cs = [.int .i64 p.1, .int .i64 p.2.1, .int .i64 p.2.2] := by
  constructor
  · rintro ⟨a, b, rfl, ha, a2, b2, rfl, hb, hc⟩
    cases ha; cases hb; cases hc; rfl
  · rintro rfl
    exact ⟨_, _, rfl, rfl, _, _, rfl, rfl, rfl⟩
theorem opens46 : Opens enc Try.prog W 46 k46 (fun _ => True) := by
  intro n cs x h hw
  have hl : cs.length = 3 := by
    obtain ⟨xs, m, rfl, rfl, hl, _, _⟩ := DataW.trod_array Try.underlying46 h
    rw [hl]; exact cells46
  obtain ⟨c0, c1, c2, rfl⟩ : ∃ c0 c1 c2, cs = [c0, c1, c2] := by
    match cs, hl with
    | [c0, c1, c2], _ => exact ⟨_, _, _, rfl⟩
  obtain ⟨y0, y1, y2, m, -, h0, h1, h2⟩ := trod_array3 Try.underlying46 cells3 h
  obtain ⟨a0, e0, -⟩ := DataW.trod_int Try.underlying3 h0
  obtain ⟨a1, e1, -⟩ := DataW.trod_int Try.underlying3 h1
  obtain ⟨a2, e2, -⟩ := DataW.trod_int Try.underlying3 h2
  refine ⟨(a0, a1, a2), k46_K.mpr ?_, trivial⟩
  rw [show c0 = .int .i64 a0 by injection e0, show c1 = .int .i64 a1 by injection e1, show c2 = .int .i64 a2 by injection e2]
theorem opens43 : Opens enc Try.prog W 43 (Kd.slice 46 k46) (fun l => l.length * 24 ≤ 140737488351232 ∧ ∀ x ∈ l, True) := opens46.slice Try.underlying43 cells46 bytes46
theorem open46 {v : Value} {x : DataW H} {p : List MemPlace} {r : Reach} {b0 : Nat} (hv : Value.okWide Try.prog W r b0 46 v) (hd : DataW.Trod enc Try.prog W 0 (fun _ => true) true 46 v x p) (hw : ∀ z ∈ x.weights Try.prog 46, z ≤ 140737488351232) :
    ∃ d0 d1 d2 : Int, v = .agg #[.int .i64 d0, .int .i64 d1, .int .i64 d2] := by
  obtain ⟨cs, rfl⟩ : ∃ cs, v = .agg cs := by
    simp only [Value.okWide, Try.underlying46] at hv
    obtain ⟨cs, h1, _⟩ := hv
    exact ⟨cs, h1⟩
  obtain ⟨a, hK, -⟩ := open_arg opens46 hd hw
  have e := k46_K.mp hK
  refine ⟨a.1, a.2.1, a.2.2, ?_⟩
  congr 1
  rw [← Array.toList_inj]; exact e
/-- the cells of an element -/
theorem C46_at {w : World} {A : Option Addr} {n : Nat} {l : List (Int × Int × Int)} (h : k46.C w A n l) (j : Nat) (p : Int × Int × Int) (hp : l[j]? = some p) : ∃ ad, A = some ad ∧ w.cell? (ad.add (j * 3)) = some (.int .i64 p.1) ∧ w.cell? (ad.add (j * 3 + 1)) = some (.int .i64 p.2.1) ∧ w.cell? (ad.add (j * 3 + 2)) = some (.int .i64 p.2.2) := by
  obtain ⟨h1, h2, h3⟩ := h
  obtain ⟨ad, e, h4⟩ := h3 (by have := (List.getElem?_eq_some_iff.1 hp).1; omega)
  obtain ⟨c, hc1, hc2, hc3⟩ := h4 j p hp
  obtain rfl := k46_K.mp hc2
  exact ⟨ad, e, hc3 0 _ rfl, hc3 1 _ rfl, hc3 2 _ rfl⟩
end
end Go.Proofs.Ytfedlanbmibhkaa.P
