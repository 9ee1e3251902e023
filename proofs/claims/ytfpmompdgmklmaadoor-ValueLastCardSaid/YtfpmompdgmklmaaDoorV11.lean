/- A value that came in. -/
import Derived.Test.YtfpmompdgmklmaaDoorO
import Derived.Test.YtfpmompdgmklmaaDoorVB
namespace Go.Proofs.YtfpmompdgmklmaaDoor.P
open Go.RowKit Go.Proofs.YtfpmompdgmklmaaDoorW.PrintWords Go.Proofs.YtfpmompdgmklmaaDoorW.PrintLast Go.Proofs.YtfpmompdgmklmaaDoorW.PrintMore Go.ChangeShapes Go.WideShapes
set_option linter.unusedVariables false
set_option linter.unusedSimpArgs false
section
variable {H : Type} {enc : TypeId × Value → H} {W : World}
theorem cells25 : Tryd.prog.cellsOf 25 = 5 := by kernel_rfl
theorem cells22 : Tryd.prog.cellsOf 22 = 1 := by kernel_rfl
theorem cells23 : Tryd.prog.cellsOf 23 = 1 := by kernel_rfl
theorem cells9 : Tryd.prog.cellsOf 9 = 1 := by kernel_rfl
theorem cells3 : Tryd.prog.cellsOf 3 = 1 := by kernel_rfl
theorem cells4 : Tryd.prog.cellsOf 4 = 1 := by kernel_rfl
theorem bytes25 : Tryd.prog.bytesOf 25 = 80 := by kernel_rfl
theorem bytes9 : Tryd.prog.bytesOf 9 = 16 := by kernel_rfl
theorem opens_names : Opens enc Tryd.prog W 23 (Kd.slice 9 Kd.string) (fun l => l.length * 16 ≤ 140737488351232 ∧ ∀ x ∈ l, x.size ≤ 140737488351232) := (opens_string Tryd.underlying9).slice Tryd.underlying23 cells9 bytes9
theorem opens25 : Opens enc Tryd.prog W 25 k25 (fun x => fitV x = true) := by
  intro n
  induction n using Nat.strongRecOn with
  | ind n ih =>
    intro cs x h hw
    obtain ⟨m, rfl, hl, hf⟩ := trod_fields Tryd.underlying25 h hw
    rw [cells25] at hl
    obtain ⟨c0, c1, c2, c3, c4, rfl⟩ : ∃ c0 c1 c2 c3 c4, cs = [c0, c1, c2, c3, c4] := by
      match cs, hl with
      | [c0, c1, c2, c3, c4], _ => exact ⟨_, _, _, _, _, rfl⟩
    obtain ⟨y0, h0, w0⟩ := hf 0 _ rfl
    obtain ⟨y1, h1, w1⟩ := hf 1 _ rfl
    obtain ⟨y2, h2, w2⟩ := hf 2 _ rfl
    obtain ⟨y3, h3, w3⟩ := hf 3 _ rfl
    obtain ⟨y4, h4, w4⟩ := hf 4 _ rfl
    replace h0 : DataW.trod enc Tryd.prog W 0 (fun _ => true) true m 3 [c0] = some y0 := by simpa [cells3] using h0
    replace h1 : DataW.trod enc Tryd.prog W 0 (fun _ => true) true m 4 [c1] = some y1 := by simpa [cells4] using h1
    replace h2 : DataW.trod enc Tryd.prog W 0 (fun _ => true) true m 9 [c2] = some y2 := by simpa [cells9] using h2
    replace h3 : DataW.trod enc Tryd.prog W 0 (fun _ => true) true m 22 [c3] = some y3 := by simpa [cells22] using h3
    replace h4 : DataW.trod enc Tryd.prog W 0 (fun _ => true) true m 23 [c4] = some y4 := by simpa [cells23] using h4
    obtain ⟨a0, e0, -⟩ := opens_int Tryd.underlying3 m _ _ h0 w0
    obtain ⟨a1, e1, -⟩ := opens_bool Tryd.underlying4 m _ _ h1 w1
    obtain ⟨a2, e2, s2⟩ := opens_string Tryd.underlying9 m _ _ h2 w2
    obtain ⟨a3, ⟨A3, d3, e3, l3, g3⟩, s3, f3⟩ := opens_slice (d := k25) (e' := 25) Tryd.underlying22 cells25 bytes25 (fun q hq => ih q (by omega)) _ _ h3 w3
    obtain ⟨a4, ⟨A4, d4, e4, l4, g4⟩, s4, f4⟩ := opens_names (enc := enc) (W := W) m _ _ h4 w4
    obtain rfl : c0 = .int .i64 a0 := by injection e0
    obtain rfl : c1 = .bool a1 := by injection e1
    obtain rfl : c2 = .string a2 := by injection e2
    obtain rfl : c3 = .slice A3 a3.length d3 := by injection e3
    obtain rfl : c4 = .slice A4 a4.length d4 := by injection e4
    exact ⟨⟨a0, a1, a2, a3, a4⟩, k25_mk W ⟨a0, a1, a2, a3, a4⟩ l3 g3 l4 g4, fit_mk s2 s3 s4 f4 (fitL_of f3)⟩
theorem opens22 : Opens enc Tryd.prog W 22 (Kd.slice 25 k25) (fun l => l.length * 80 ≤ 140737488351232 ∧ ∀ x ∈ l, fitV x = true) := opens25.slice Tryd.underlying22 cells25 bytes25
/-- An argument that is a value. -/
theorem open_val {v : Value} {x : DataW H} {p : List MemPlace} {r : Reach} {b0 : Nat} (hv : Value.okWide Tryd.prog W r b0 25 v) (hd : DataW.Trod enc Tryd.prog W 0 (fun _ => true) true 25 v x p) (hw : ∀ z ∈ x.weights Tryd.prog 25, z ≤ 140737488351232) :
    ∃ a : S25, Rds W a v ∧ fitV a = true := by
  obtain ⟨cs, rfl, -⟩ := okWide_struct Tryd.underlying25 hv
  obtain ⟨a, hK, hf⟩ := open_arg opens25 hd hw
  obtain ⟨A3, c3, A4, c4, e, l3, g3, l4, g4⟩ := k25_open hK
  obtain rfl : cs = #[.int .i64 a.f0, .bool a.f1, .string a.f2, .slice A3 a.f3.length c3, .slice A4 a.f4.length c4] := by
    have e' : cs.toList = [.int .i64 a.f0, .bool a.f1, .string a.f2, .slice A3 a.f3.length c3, .slice A4 a.f4.length c4] := e
    rw [← Array.toList_inj]; exact e'
  exact ⟨a, ⟨A3, c3, A4, c4, rfl, g3, l3, g4, l4⟩, hf⟩
/-- An argument that is a slice. -/
theorem open_row {α : Type} {t e : TypeId} {d : Kd α} {Sz : List α → Prop} {v : Value} {x : DataW H} {p : List MemPlace} {r : Reach} {b0 : Nat} (hE : Opens enc Tryd.prog W t (Kd.slice e d) Sz) (ht : Tryd.prog.underlying t = some (.slice e)) (hv : Value.okWide Tryd.prog W r b0 t v) (hd : DataW.Trod enc Tryd.prog W 0 (fun _ => true) true t v x p) (hw : ∀ z ∈ x.weights Tryd.prog t, z ≤ 140737488351232) :
    ∃ (l : List α) (A : Option Addr) (c : Nat), v = .slice A l.length c ∧ Kd.C d W A l.length l ∧ l.length ≤ c ∧ Sz l := by
  obtain ⟨A, n, c, rfl⟩ := okWide_slice ht hv
  obtain ⟨l, ⟨A', c', e', hl, hc⟩, hs⟩ := open_arg hE hd hw
  have e'' : Value.slice A n c = Value.slice A' l.length c' := by
    have : [Value.slice A n c] = [Value.slice A' l.length c'] := e'
    injection this
  injection e'' with h1 h2 h3
  subst h1 h2 h3
  exact ⟨l, _, _, rfl, hc, hl, hs⟩
end
end Go.Proofs.YtfpmompdgmklmaaDoor.P
