/- HeadSettled: the plain law: what is told does not change by what comes behind. -/
import Derived.Test.YtekmdbicobkffaaDoorQB
namespace Go.Proofs.YtekmdbicobkffaaDoor.Pure
open Go.RowKit Go.Proofs.YtekmdbicobkffaaDoor.P Go.Proofs.YtekmdbicobkffaaDoorW.PrintWords Go.Proofs.YtekmdbicobkffaaDoorW.PrintMore
set_option linter.unusedVariables false
set_option linter.unusedSimpArgs false
/-- What is cut is told to be cut (of less than 512 bytes), or the whole is told of alike. -/
theorem settled (l : List Int) (hb : Byt l) (hl : l.length ≤ 281474976710656) (t : Nat) (ht : t ≤ l.length) :
    (t < 512 ∧ Ev (fun k => head_Parse.f k (l.take t)) (0, 0, 3)) ∨
    (∃ r : Int × Int × Int, Ev (fun k => head_Parse.f k (l.take t)) r ∧ Ev (fun k => head_Parse.f k l) r ∧ r.2.2 ≠ 3 ∧ (r.2.2 = 0 → r.2.1 ≤ t ∧ r.2.1 ≤ 512)) := by
  have htl : (l.take t).length = t := by rw [List.length_take]; omega
  have htt : (l.take t).take 512 = (l.take 512).take t := by rw [List.take_take, List.take_take, Nat.min_comm]
  rcases parse_form (l.take t) (hb.take t) (by omega) with ⟨a1, a2⟩ | ⟨E, r, a1, a2, a3, a4, a5, a6, a7⟩
  · rw [htl] at a2
    by_cases h5 : 512 ≤ t
    · rw [if_pos h5] at a2
      right
      refine ⟨_, a2, ?_, by decide, fun h => absurd h (by decide)⟩
      have e5 : (l.take t).take 512 = l.take 512 := by rw [List.take_take, Nat.min_eq_left h5]
      rw [e5] at a1
      rcases parse_form l hb hl with ⟨b1, b2⟩ | ⟨E, r, b1, _⟩
      · rw [if_pos (by omega)] at b2; exact b2
      · rw [a1] at b1; omega
    · rw [if_neg h5] at a2
      exact .inl ⟨by omega, a2⟩
  · right
    rw [htl] at a4
    have he : endI (l.take 512) = (E : Int) := by
      rw [htt] at a1
      rw [endI_take (l.take 512) (hb.take _) t (by omega), a1]
    rcases parse_form l hb hl with ⟨b1, b2⟩ | ⟨E', r', b1, b2, b3, b4, b5, b6, b7⟩
    · rw [he] at b1; omega
    · have hE : E' = E := by rw [he] at b1; omega
      subst hE
      have hr : r' = r := by
        refine ev_one (b6 E' (Nat.le_refl _)) ?_
        have := a6 E' (Nat.le_refl _)
        rw [List.take_take, Nat.min_eq_left (by omega)] at this
        exact this
      subst hr
      refine ⟨_, a7, b7, ?_, ?_⟩
      · unfold outOf
        split
        · split <;> (simp only; decide)
        · rename_i h; simp only; omega
      · intro h
        unfold outOf at h ⊢
        split
        · rename_i h0
          rw [if_pos h0] at h
          split
          · rename_i h1; rw [if_pos h1] at h; cases h
          · simp only; omega
        · rename_i h0
          rw [if_neg h0] at h
          exact absurd h h0
theorem HeadSettled : colophonlaw06_HeadSettled.Pure := by
  intro l0 a1 _ hl hb _
  have hB : Byt l0 := fun x hx => by have := byte_range (hb x hx); omega
  refine Ev.rounds ?_
  unfold colophonlaw06_HeadSettled.f
  have hmn : mn (l0.length : Int) 600 = ((min l0.length 600 : Nat) : Int) := by unfold mn; split <;> omega
  simp only [hmn, Int.toNat_natCast, if_pos (show (0 : Int) ≤ ((min l0.length 600 : Nat) : Int) by omega), if_pos (show ((min l0.length 600 : Nat) : Int) ≤ (l0.length : Int) by omega)]
  have hlen : (l0.take (min l0.length 600)).length ≤ 600 := by rw [List.length_take]; omega
  have hBt := hB.take (min l0.length 600)
  generalize l0.take (min l0.length 600) = l at hlen hBt ⊢
  rw [wrap_nat (i := (l.length : Int) + 1) (by omega) (by omega)]
  obtain ⟨t, h1, h2, h3⟩ := bring_some a1 ((l.length : Int) + 1) (by omega) (by omega)
  simp only [h1, Option.bind_some, if_pos h2, if_pos (show t ≤ (l.length : Int) by omega)]
  obtain ⟨n, rfl⟩ := Int.eq_ofNat_of_zero_le h2
  rw [Int.toNat_natCast]
  rcases settled l hBt (by omega) n (by omega) with ⟨g1, g2⟩ | ⟨r, g1, g2, g3, g4⟩
  · refine Ev.bind g2 ?_
    simp only [if_true, if_pos (show (n : Int) < 512 by omega)]
    exact awake_ev
  · refine Ev.bind g1 ?_
    simp only [if_neg g3]
    refine Ev.bind g2 ?_
    simp only [if_true]
    by_cases h0 : r.2.2 = 0
    · have g := g4 h0
      simp only [if_pos h0, if_pos g.1, if_pos g.2]
      exact awake_ev
    · simp only [if_neg h0]
      exact awake_ev
end Go.Proofs.YtekmdbicobkffaaDoor.Pure
