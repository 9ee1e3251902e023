/- The laws' rows of deeds. -/
import Derived.Test.YtfedlanbmibhkaaS17
import Derived.Test.YtfedlanbmibhkaaBase3
import Derived.Deep.DeepCutAuto
import Derived.Deep.MidRow
namespace Go.Proofs.Ytfedlanbmibhkaa.P
open Go.RowKit Go.Shelf Go.Proofs.YtfedlanbmibhkaaW.PrintWords Go.Proofs.YtfedlanbmibhkaaW.PrintLast Go.Proofs.YtfedlanbmibhkaaW.PrintMore
set_option linter.unusedVariables false
set_option linter.unusedSimpArgs false
attribute [local go_sem] Oper.semAt_some
theorem add_more (a : Addr) (m n : Nat) (h : n ≠ 0) : a.add (m + n) = ⟨(a.add m).block, (a.add m).off + n, none⟩ := by
  rw [← add_add]
  show Addr.add (a.add m) n = _
  unfold Addr.add
  split <;> simp_all
theorem both_zero {S M : Nat} (h : S = 0 ↔ M = 0) : ∃ b : Bool, decide (S = 0) = b ∧ decide (M = 0) = b ∧ ((S : Int) == 0) = b ∧ ((M : Int) == 0) = b := by
  by_cases z : S = 0
  · exact ⟨true, by simp [z], by simp [h.mp z], by simp [z], by simp [h.mp z]⟩
  · have y : M ≠ 0 := fun e => z (h.mpr e)
    exact ⟨false, by simp [z], by simp [y], beq_eq_false_iff_ne.mpr (by omega), beq_eq_false_iff_ne.mpr (by omega)⟩
/-- an element's cells, as the walk spells them -/
theorem C46_of {w : World} {A : Option Addr} {n : Nat} {l : List (Int × Int × Int)} (h : k46.C w A n l) (j : Nat) (hj : j < l.length) : ∃ ad d0 d1 d2, A = some ad ∧ w.cell? (ad.add (j * 3)) = some (.int .i64 d0) ∧ w.cell? ⟨(ad.add (j * 3)).block, (ad.add (j * 3)).off + 1, none⟩ = some (.int .i64 d1) ∧ w.cell? ⟨(ad.add (j * 3)).block, (ad.add (j * 3)).off + 2, none⟩ = some (.int .i64 d2) := by
  obtain ⟨⟨d0, d1, d2⟩, hd⟩ := getElem_lt hj
  obtain ⟨ad, e, h0, h1, h2⟩ := C46_at h j _ hd
  refine ⟨ad, d0, d1, d2, e, h0, ?_, ?_⟩
  · rw [← add_more _ _ _ (by decide)]; exact h1
  · rw [← add_more _ _ _ (by decide)]; exact h2
end Go.Proofs.Ytfedlanbmibhkaa.P
