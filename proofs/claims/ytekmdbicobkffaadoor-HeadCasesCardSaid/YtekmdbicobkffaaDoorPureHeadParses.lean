/- HeadParses: the plain law: what the header says is what the document says. -/
import Derived.Test.YtekmdbicobkffaaDoorQA
namespace Go.Proofs.YtekmdbicobkffaaDoor.Pure
open Go.RowKit Go.Proofs.YtekmdbicobkffaaDoor.P Go.Proofs.YtekmdbicobkffaaDoorW.PrintWords Go.Proofs.YtekmdbicobkffaaDoorW.PrintMore
set_option linter.unusedVariables false
set_option linter.unusedSimpArgs false
theorem pair_take (l : List Int) (N j : Nat) (h : pairB (l.take N) j = true) : pairB l j = true := by
  obtain ⟨h1, h2, h3⟩ := pair_lt h
  rw [List.length_take] at h1
  have e0 := rd_sub l N 0 j (by omega)
  have e1 := rd_sub l N 0 (j + 1) (by omega)
  simp only [List.drop_zero, Nat.zero_add] at e0 e1
  unfold pairB
  rw [← e0, ← e1, h2, h3, decide_eq_true (show j + 1 < l.length by omega)]
  rfl
set_option maxHeartbeats 2000000 in
theorem both_parse (l : List Int) (hb : Byt l) (hl : l.length ≤ 140737488351232) : ∃ r, Ev (fun k => head_Parse.f k l) r ∧ Ev (fun k => colophonref06_Parse.f k l) r := by
  have hmn : mn (l.length : Int) 512 = ((min l.length 512 : Nat) : Int) := by unfold mn; split <;> omega
  have ht : l.take (min l.length 512) = l.take 512 := by
    rcases Nat.le_total l.length 512 with g | g
    · rw [Nat.min_eq_left g, List.take_of_length_le (Nat.le_refl _), List.take_of_length_le g]
    · rw [Nat.min_eq_right g]
  have htl : (l.take 512).length ≤ 512 := by rw [List.length_take]; omega
  have hE := end_ev (l.take 512) (hb.take _) (by omega)
  have hfacts := endI_facts (l.take 512) (hb.take _)
  have doc : ∀ r, Ev (fun k => (if endI (l.take 512) < 0 then (if (l.length : Int) ≥ 512 then (some (0, 0, 5)) else (some (0, 0, 3))) else (colophonref06_Parse.l0 k l (endI (l.take 512)) (-1) 0))) r → Ev (fun k => colophonref06_Parse.f k l) r := by
    intro r hr
    unfold colophonref06_Parse.f
    simp only [hmn, Int.toNat_natCast, ht, if_pos (show (0 : Int) ≤ ((min l.length 512 : Nat) : Int) by omega), if_pos (show ((min l.length 512 : Nat) : Int) ≤ (l.length : Int) by omega)]
    exact Ev.bind hE hr
  unfold head_Parse.f
  simp only [fits_is hb, if_true]
  have hend : endI (l.take 512) = if (endF (l.take 512)).2 = true then (endF (l.take 512)).1 else -1 := rfl
  have hrange := endF_range (l.take 512)
  generalize endF (l.take 512) = F at hend hrange ⊢
  obtain ⟨F1, F2⟩ := F
  simp only at hend hrange
  cases F2
  · simp only [Bool.false_eq_true, if_false] at hend
    simp only [Bool.false_eq_true, if_false]
    rw [hend] at doc
    by_cases h5 : 512 ≤ l.length
    · simp only [if_pos h5]
      refine ⟨(0, 0, 5), Ev.now _, doc _ ?_⟩
      simp only [if_pos (show (-1 : Int) < 0 by decide), if_pos (show (l.length : Int) ≥ 512 by omega)]
      exact Ev.now _
    · simp only [if_neg h5]
      refine ⟨(0, 0, 3), Ev.now _, doc _ ?_⟩
      simp only [if_pos (show (-1 : Int) < 0 by decide), if_neg (show ¬ (l.length : Int) ≥ 512 by omega)]
      exact Ev.now _
  · simp only [if_true] at hend
    have hr := hrange rfl
    rw [hend] at doc hfacts
    simp only [if_true]
    simp only [if_neg (show ¬ F1 < 0 by omega)] at doc
    rcases hfacts with hf | ⟨hf, hp⟩ | ⟨e, hf, he4, hel, hp4, hp2⟩
    · omega
    · subst hf
      refine ⟨(0, 0, 60), ?_, doc _ (Ev.step (f := fun _ => some (0, 0, 60)) (fun k => ?_) (Ev.now _))⟩
      · simp only [show ((2 : Int) - 2).toNat = 0 from rfl, List.take_zero, hloop, List.length_nil, Nat.lt_irrefl, if_false, Option.bind_some, if_true, if_pos (show (-1 : Int) < 0 by decide)]
        exact Ev.now _
      · simp only [colophonref06_Parse.l0]
        rw [show wrap64 ((2 : Int) - 2) = 0 from by unfold wrap64; omega, if_neg (by decide), if_pos (by decide)]
    · subst hf
      have hel2 : e ≤ l.length := by rw [List.length_take] at hel; omega
      obtain ⟨r, k1, k2⟩ := loops l hb hl e he4 hel2 (pair_take l 512 _ hp4) (e - 2) 0 (-1) (l.length + 1) (by omega) (by omega) (by omega)
      rw [List.drop_zero] at k1
      refine ⟨outOf e r, ?_, doc _ k2⟩
      rw [show ((e : Int) - 2).toNat = e - 2 by omega]
      refine Ev.bind k1 ?_
      unfold outOf
      by_cases h0 : r.2 = 0
      · simp only [if_pos h0]
        by_cases hn : r.1 < 0
        · simp only [if_pos hn]; exact Ev.now _
        · simp only [if_neg hn]; exact Ev.now _
      · simp only [if_neg h0]; exact Ev.now _
theorem HeadParses : colophonlaw06_HeadParses.Pure := by
  intro l0 _ hl hb
  have hB : Byt l0 := fun x hx => by have := byte_range (hb x hx); omega
  obtain ⟨r, h1, h2⟩ := both_parse l0 hB (by omega)
  refine Ev.rounds ?_
  unfold colophonlaw06_HeadParses.f
  simp only [copy_some l0 hl, Option.bind_some]
  refine Ev.bind h1 (Ev.bind h2 ?_)
  simp only [if_true]
  refine Ev.bind (eqb_ev l0 hl) ?_
  simp only [if_true]
  exact awake_ev
end Go.Proofs.YtekmdbicobkffaaDoor.Pure
