/- HeadMakes: the plain law: the header of a body is the document's. -/
import Derived.Test.YtekmdbicobkffaaDoorQB
namespace Go.Proofs.YtekmdbicobkffaaDoor.Pure
open Go.RowKit Go.Proofs.YtekmdbicobkffaaDoor.P Go.Proofs.YtekmdbicobkffaaDoorW.PrintWords Go.Proofs.YtekmdbicobkffaaDoorW.PrintMore
set_option linter.unusedVariables false
set_option linter.unusedSimpArgs false
/-- A header. -/
def hdOf (u : Nat) : List Int := lns [clOf u] ++ [13, 10]
theorem bytesOf_app (a b : ByteArray) : bytesOf (a ++ b) = bytesOf a ++ bytesOf b := by
  unfold bytesOf
  rw [← List.map_append]
  congr 1
theorem mk_bytes (u : Nat) : bytesOf ((((⟨#[67, 111, 110, 116, 101, 110, 116, 45, 76, 101, 110, 103, 116, 104, 58, 32]⟩ : ByteArray) ++ txt u) ++ (⟨#[13, 10]⟩ : ByteArray)) ++ (⟨#[13, 10]⟩ : ByteArray)) = hdOf u := by
  rw [bytesOf_app, bytesOf_app, bytesOf_app, txt_bytes]
  simp [hdOf, lns, clOf, bytesOf]
theorem make_is (n : Int) (h0 : 0 ≤ n) (h1 : n ≤ 65536) : head_Make.f n = some (hdOf n.toNat, 0) := by
  unfold head_Make.f
  have hl := nd_len20 n.toNat (by omega)
  rw [if_neg (by omega), text_is n h0 (by omega)]
  simp only [Option.bind_some, if_true, txt_size]
  rw [if_pos (by omega), if_pos (by omega), if_pos (by omega)]
  unfold X_bytes.f
  rw [mk_bytes, if_pos (by simp only [ByteArray.size_append, txt_size]; simp [ByteArray.size]; omega)]
  rfl
theorem refMake_ev (n : Int) (h0 : 0 ≤ n) (h1 : n ≤ 65536) : Ev (fun k => colophonref06_Make.f k n) (hdOf n.toNat, 0) := by
  unfold colophonref06_Make.f
  have hl := nd_len20 n.toNat (by omega)
  simp only [if_neg (show ¬ n < 0 by omega), if_neg (show ¬ n > 65536 by omega)]
  refine Ev.bind (refText_ev n h0 (by omega)) ?_
  simp only [txt_size, if_pos (show 16 + (nd n.toNat).length ≤ 9223372036854775807 by omega), if_pos (show 16 + (nd n.toNat).length + 4 ≤ 9223372036854775807 by omega)]
  have e : X_bytes.f (((⟨#[67, 111, 110, 116, 101, 110, 116, 45, 76, 101, 110, 103, 116, 104, 58, 32]⟩ : ByteArray) ++ txt n.toNat) ++ (⟨#[13, 10, 13, 10]⟩ : ByteArray)) = some (hdOf n.toNat) := by
    unfold X_bytes.f
    rw [if_pos (by simp only [ByteArray.size_append, txt_size]; simp [ByteArray.size]; omega), bytesOf_app, bytesOf_app, txt_bytes]
    simp [hdOf, lns, clOf, bytesOf]
  simp only [e, Option.bind_some]
  exact Ev.now _
theorem hd_len (u : Nat) (h : u ≤ 65536) : (hdOf u).length ≤ 40 ∧ 20 < (hdOf u).length := by
  have := nd_len20 u (by omega)
  have hp := List.length_pos_iff.mpr (nd_ne u)
  simp [hdOf, lns, clOf]
  omega
theorem HeadMakes : colophonlaw06_HeadMakes.Pure := by
  intro n hn
  refine Ev.rounds ?_
  unfold colophonlaw06_HeadMakes.f
  by_cases h0 : n < 0
  · have e1 : head_Make.f n = some ([], 9) := by
      unfold head_Make.f
      rw [if_neg (by omega), text_neg n h0]
      simp
    have e2 : ∀ k, colophonref06_Make.f k n = some ([], 9) := fun k => by unfold colophonref06_Make.f; rw [if_pos h0]
    simp only [e1, e2, Option.bind_some]
    refine Ev.bind (eqb_ev [] (by decide)) ?_
    simp only [if_true]
    exact awake_ev
  · by_cases h1 : n > 65536
    · have e1 : head_Make.f n = some ([], 9) := by
        unfold head_Make.f
        rw [if_pos h1]
      have e2 : ∀ k, colophonref06_Make.f k n = some ([], 9) := fun k => by unfold colophonref06_Make.f; rw [if_neg h0, if_pos h1]
      simp only [e1, e2, Option.bind_some]
      refine Ev.bind (eqb_ev [] (by decide)) ?_
      simp only [if_true]
      exact awake_ev
    · simp only [make_is n (by omega) (by omega), Option.bind_some]
      refine Ev.bind (refMake_ev n (by omega) (by omega)) ?_
      simp only
      have := hd_len n.toNat (by omega)
      refine Ev.bind (eqb_ev _ (by omega)) ?_
      simp only [if_true]
      exact awake_ev
end Go.Proofs.YtekmdbicobkffaaDoor.Pure
