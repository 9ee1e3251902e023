/- HeadBack: the plain law: what Make makes is parsed as it was meant. -/
import Derived.Test.YtekmdbicobkffaaDoorQ10
namespace Go.Proofs.YtekmdbicobkffaaDoor.Pure
open Go.RowKit Go.Proofs.YtekmdbicobkffaaDoor.P Go.Proofs.YtekmdbicobkffaaDoorW.PrintWords Go.Proofs.YtekmdbicobkffaaDoorW.PrintMore
set_option linter.unusedVariables false
set_option linter.unusedSimpArgs false
theorem HeadBack : colophonlaw06_HeadBack.Pure := by
  intro a0 l1 a2 _ _ hl hb _
  have hB : Byt l1 := fun x hx => by have := byte_range (hb x hx); omega
  refine Ev.rounds ?_
  unfold colophonlaw06_HeadBack.f
  obtain ⟨v, h1, h2, h3⟩ := bring_some a0 65537 (by omega) (by omega)
  simp only [h1, Option.bind_some]
  obtain ⟨u, rfl⟩ := Int.eq_ofNat_of_zero_le h2
  have hu : u ≤ 65536 := by omega
  have hlen := hd_len u hu
  have hln := hd_lns u hu
  simp only [make_is (u : Int) h2 (by omega), Option.bind_some, Int.toNat_natCast, if_true]
  have hz : (((hdOf u).length : Int) == 0) = false := beq_eq_false_iff_ne.mpr (by omega)
  rw [hz]
  have hby : Byt (hdOf u) := byt_hd [clOf u] (ln_cl u)
  have hparse := parse_hd u hu
  obtain ⟨t, g1, g2, g3⟩ := bring_some a2 ((hdOf u).length : Int) (by omega) (by omega)
  obtain ⟨m, rfl⟩ := Int.eq_ofNat_of_zero_le g2
  have hcut : Ev (fun k => head_Parse.f k ((hdOf u).take m)) (0, 0, 3) := by
    have := parse_cut [clOf u] (ln_cl u) (by simp) m (by omega) (by omega)
    rw [if_neg (by omega)] at this
    exact this
  have hall : Ev (fun k => head_Parse.f k (hdOf u ++ l1)) ((u : Int), ((hdOf u).length : Int), 0) := by
    have e : (hdOf u ++ l1).take (hdOf u).length = hdOf u := List.take_left' rfl
    rcases settled (hdOf u ++ l1) (Byt.append hby hB) (by rw [List.length_append]; omega) (hdOf u).length (by simp) with ⟨_, k2⟩ | ⟨r, k1, k2, _⟩
    · rw [e] at k2
      have := ev_one k2 hparse
      simp at this
    · rw [e] at k1
      rw [← ev_one k1 hparse]
      exact k2
  generalize hdOf u = H at hlen hby hparse hcut hall g1 g2 g3 ⊢
  refine Ev.step (f := fun k => _) (fun k => by rw [colophonlaw06_HeadBack.j0, if_neg (by simp)]) ?_
  simp only [copy_some H (by omega), Option.bind_some, if_pos (show H.length + l1.length < 140737488355328 by omega)]
  refine Ev.bind hall ?_
  simp only [g1, Option.bind_some, if_pos g2, if_pos (show (m : Int) ≤ (H.length : Int) by omega), Int.toNat_natCast]
  refine Ev.bind hcut ?_
  simp only [if_true]
  exact awake_ev
end Go.Proofs.YtekmdbicobkffaaDoor.Pure
