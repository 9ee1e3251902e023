/- Where headers end, of what is cut. -/
import Derived.Test.YtekmdbicobkffaaDoorPureHeadParses
import Derived.Test.YtekmdbicobkffaaDoorP7
namespace Go.Proofs.YtekmdbicobkffaaDoor.Pure
open Go.RowKit Go.Proofs.YtekmdbicobkffaaDoor.P Go.Proofs.YtekmdbicobkffaaDoorW.PrintWords Go.Proofs.YtekmdbicobkffaaDoorW.PrintMore
set_option linter.unusedVariables false
set_option linter.unusedSimpArgs false
theorem ev_one {α : Type} {g : Nat → Option α} {a b : α} (h1 : Ev g a) (h2 : Ev g b) : a = b := by
  obtain ⟨k1, e1⟩ := h1
  obtain ⟨k2, e2⟩ := h2
  have a1 := e1 (max k1 k2) (Nat.le_max_left _ _)
  rw [e2 (max k1 k2) (Nat.le_max_right _ _)] at a1
  exact (Option.some.inj a1).symm
theorem bring_some (a n : Int) (hn : 0 < n) (hn2 : n ≤ 140737488355328) : ∃ t, colophonref00_Bring.f a n = some t ∧ 0 ≤ t ∧ t < n := by
  unfold colophonref00_Bring.f
  rw [if_neg (by omega), if_neg (by omega)]
  have h1 := Int.tmod_lt_of_pos a hn
  have h2 : -n < a.tmod n := by
    have := Int.tmod_lt_of_pos (-a) hn
    rw [Int.neg_tmod] at this
    omega
  by_cases h : Int.tmod a n < 0
  · rw [if_pos h, wrap_nat (by omega) (by omega)]
    exact ⟨_, rfl, by omega, by omega⟩
  · rw [if_neg h]
    exact ⟨_, rfl, by omega, by omega⟩
theorem endI_zero {l : List Int} (hb : Byt l) (h : pairB l 0 = true) : endI l = 2 := by
  unfold endI endF
  rw [prefix0 l hb, h]
  rfl
theorem endI_at {l : List Int} (hb : Byt l) (h0 : pairB l 0 = false) {i : Nat} (hp : (pairB l i && pairB l (i + 2)) = true) (hn : ∀ j, j < i → (pairB l j && pairB l (j + 2)) = false) : endI l = (i : Int) + 4 := by
  unfold endI endF
  rw [prefix0 l hb, h0]
  simp only [Bool.false_eq_true, if_false]
  rcases idx4_spec l hb with ⟨h1, h2⟩ | ⟨i', h1, h2, h3⟩
  · rw [h2 i] at hp; cases hp
  · have : i' = i := by
      rcases Nat.lt_trichotomy i' i with g | g | g
      · rw [hn i' g] at h2; cases h2
      · exact g
      · rw [h3 i g] at hp; cases hp
    subst this
    rw [h1, decide_eq_true (by omega), if_pos rfl]
theorem endI_none {l : List Int} (hb : Byt l) (h0 : pairB l 0 = false) (hn : ∀ j, (pairB l j && pairB l (j + 2)) = false) : endI l = -1 := by
  unfold endI endF
  rw [prefix0 l hb, h0]
  simp only [Bool.false_eq_true, if_false]
  rcases idx4_spec l hb with ⟨h1, h2⟩ | ⟨i', h1, h2, h3⟩
  · rw [h1]; rfl
  · rw [hn i'] at h2; cases h2
theorem endI_spec (l : List Int) (hb : Byt l) : (endI l = -1 ∧ pairB l 0 = false ∧ ∀ j, (pairB l j && pairB l (j + 2)) = false) ∨ (endI l = 2 ∧ pairB l 0 = true) ∨ (∃ i : Nat, endI l = (i : Int) + 4 ∧ pairB l 0 = false ∧ (pairB l i && pairB l (i + 2)) = true ∧ ∀ j, j < i → (pairB l j && pairB l (j + 2)) = false) := by
  cases h0 : pairB l 0
  · rcases idx4_spec l hb with ⟨h1, h2⟩ | ⟨i, h1, h2, h3⟩
    · exact .inl ⟨endI_none hb h0 h2, rfl, h2⟩
    · exact .inr (.inr ⟨i, endI_at hb h0 h2 h3, rfl, h2, h3⟩)
  · exact .inr (.inl ⟨endI_zero hb h0, rfl⟩)
theorem pair_take_eq (l : List Int) (N j : Nat) (h : j + 1 < N) : pairB (l.take N) j = pairB l j := by
  by_cases hj : j + 1 < l.length
  · have e0 := rd_sub l N 0 j (by omega)
    have e1 := rd_sub l N 0 (j + 1) (by omega)
    simp only [List.drop_zero, Nat.zero_add] at e0 e1
    unfold pairB
    rw [e0, e1, List.length_take, decide_eq_true (show j + 1 < min N l.length by omega), decide_eq_true hj]
  · unfold pairB
    rw [List.length_take, decide_eq_false (show ¬ j + 1 < min N l.length by omega), decide_eq_false hj]
    simp
/-- A header that ends in what is cut ends there. -/
theorem endI_take (l : List Int) (hb : Byt l) (N : Nat) (h : endI (l.take N) ≠ -1) : endI l = endI (l.take N) := by
  rcases endI_spec (l.take N) (hb.take N) with ⟨h1, _⟩ | ⟨h1, h2⟩ | ⟨i, h1, h2, h3, h4⟩
  · exact absurd h1 h
  · rw [h1]; exact endI_zero hb (pair_take l N 0 h2)
  · rw [h1]
    simp only [Bool.and_eq_true] at h3
    have hlt := (pair_lt h3.2).1
    rw [List.length_take] at hlt
    refine endI_at hb ?_ ?_ ?_
    · rw [← pair_take_eq l N 0 (by omega)]; exact h2
    · rw [pair_take l N _ h3.1, pair_take l N _ h3.2]; rfl
    · intro j hj
      have := h4 j hj
      rw [pair_take_eq l N j (by omega), pair_take_eq l N (j + 2) (by omega)] at this
      exact this
theorem hloop_more (k : Nat) : ∀ (f : Nat) (rest : List Int) (body : Int) (r : Int × Int), hloop k f rest body = some r → hloop k (f + 1) rest body = some r
  | 0, _, _, _, h => by simp [hloop] at h
  | f + 1, rest, body, r, h => by
    rw [hloop] at h ⊢
    split at h
    · rename_i h0
      rw [if_pos h0]
      split at h
      · exact h
      · rename_i n v hn
        split at h
        · rename_i he
          simp only [if_pos he]
          obtain ⟨t, h1, h2⟩ := Option.bind_eq_some_iff.mp h
          rw [h1, Option.bind_some]
          split at h2
          · rename_i h5; rw [if_pos h5]; exact h2
          · rename_i h5
            rw [if_neg h5]
            split at h2
            · rename_i h00
              rw [if_pos h00]
              split at h2
              · rename_i hb
                rw [if_pos hb]
                split at h2
                · rename_i hq; rw [if_pos hq]; exact hloop_more k f _ _ _ h2
                · rename_i hq; rw [if_neg hq]; exact h2
              · rename_i hb; rw [if_neg hb]; exact hloop_more k f _ _ _ h2
            · rename_i h00; rw [if_neg h00]; exact h2
        · rename_i he
          simp only [if_neg he]
          exact hloop_more k f _ _ _ h
    · rename_i h0
      rw [if_neg h0]
      exact h
theorem hloop_up {f f' : Nat} (hf : f ≤ f') {rest : List Int} {body : Int} {r : Int × Int} (h : Ev (fun k => hloop k f rest body) r) : Ev (fun k => hloop k f' rest body) r := by
  obtain ⟨K, h⟩ := h
  obtain ⟨d, rfl⟩ := Nat.exists_eq_add_of_le hf
  refine ⟨K, fun k hk => ?_⟩
  induction d with
  | zero => exact h k hk
  | succ n ih => exact hloop_more k _ rest body r (ih (by omega))
theorem hloop_err (k : Nat) : ∀ (f : Nat) (rest : List Int) (body : Int) (r : Int × Int), hloop k f rest body = some r → r.2 = 0 ∨ r.2 = 5 ∨ r.2 = 60
  | 0, _, _, _, h => by simp [hloop] at h
  | f + 1, rest, body, r, h => by
    rw [hloop] at h
    split at h
    · split at h
      · obtain rfl := Option.some.inj h; simp
      · split at h
        · obtain ⟨t, h1, h2⟩ := Option.bind_eq_some_iff.mp h
          split at h2
          · obtain rfl := Option.some.inj h2; simp
          · split at h2
            · split at h2
              · split at h2
                · exact hloop_err k f _ _ _ h2
                · obtain rfl := Option.some.inj h2; simp
              · exact hloop_err k f _ _ _ h2
            · obtain rfl := Option.some.inj h2; simp
        · exact hloop_err k f _ _ _ h
    · obtain rfl := Option.some.inj h; simp
/-- What Parse answers, by its header's end. -/
theorem parse_form (l : List Int) (hb : Byt l) (hl : l.length ≤ 281474976710656) :
    (endI (l.take 512) = -1 ∧ Ev (fun k => head_Parse.f k l) (0, 0, if 512 ≤ l.length then 5 else 3)) ∨
    (∃ (E : Nat) (r : Int × Int), endI (l.take 512) = (E : Int) ∧ 2 ≤ E ∧ E ≤ 512 ∧ E ≤ l.length ∧ (r.2 = 0 ∨ r.2 = 5 ∨ r.2 = 60) ∧ (∀ f, E ≤ f → Ev (fun k => hloop k f (l.take (E - 2)) (-1)) r) ∧ Ev (fun k => head_Parse.f k l) (outOf E r)) := by
  have htl : (l.take 512).length = min 512 l.length := List.length_take
  have hfacts := endI_facts (l.take 512) (hb.take _)
  have hend : endI (l.take 512) = if (endF (l.take 512)).2 = true then (endF (l.take 512)).1 else -1 := rfl
  have hrange := endF_range (l.take 512)
  have hu : ∀ k, head_Parse.f k l = (if (endF (l.take 512)).2 = true then
      (hloop k (l.length + 1) (l.take ((endF (l.take 512)).1 - 2).toNat) (-1)).bind fun t => if t.2 = 0 then (if t.1 < 0 then some (0, 0, 60) else some (t.1, (endF (l.take 512)).1, 0)) else some (0, 0, t.2)
    else if 512 ≤ l.length then some (0, 0, 5) else some (0, 0, 3)) := fun k => by
    unfold head_Parse.f
    rw [if_pos (fits_is hb)]
  simp only [hu]
  generalize endF (l.take 512) = F at hend hrange ⊢
  obtain ⟨F1, F2⟩ := F
  simp only at hend hrange
  cases F2
  · left
    simp only [Bool.false_eq_true, if_false] at hend ⊢
    refine ⟨hend, ?_⟩
    by_cases h5 : 512 ≤ l.length
    · simp only [if_pos h5]; exact Ev.now _
    · simp only [if_neg h5]; exact Ev.now _
  · right
    simp only [if_true] at hend ⊢
    have hr := hrange rfl
    rw [hend] at hfacts
    have fin : ∀ (E : Nat) (r : Int × Int), F1 = (E : Int) → 2 ≤ E → Ev (fun k => hloop k (E - 1) (l.take (E - 2)) (-1)) r → ∃ (E : Nat) (r : Int × Int), endI (l.take 512) = (E : Int) ∧ 2 ≤ E ∧ E ≤ 512 ∧ E ≤ l.length ∧ (r.2 = 0 ∨ r.2 = 5 ∨ r.2 = 60) ∧ (∀ f, E ≤ f → Ev (fun k => hloop k f (l.take (E - 2)) (-1)) r) ∧ Ev (fun k => (hloop k (l.length + 1) (l.take (F1 - 2).toNat) (-1)).bind fun t => if t.2 = 0 then (if t.1 < 0 then some (0, 0, 60) else some (t.1, F1, 0)) else some (0, 0, t.2)) (outOf E r) := by
      intro E r he hE2 hh
      subst he
      have hel : E ≤ l.length ∧ E ≤ 512 := by
        have g := hr.2
        rw [htl] at g
        clear hend hfacts hr
        omega
      refine ⟨E, r, hend, hE2, hel.2, hel.1, ?_, fun f hf => hloop_up (by omega) hh, ?_⟩
      · obtain ⟨K, h⟩ := hh
        exact hloop_err K _ _ _ _ (h K (Nat.le_refl _))
      · rw [show ((E : Int) - 2).toNat = E - 2 by omega]
        refine Ev.bind (hloop_up (by omega) hh) ?_
        unfold outOf
        by_cases h0 : r.2 = 0
        · simp only [if_pos h0]
          by_cases hn : r.1 < 0
          · simp only [if_pos hn]; exact Ev.now _
          · simp only [if_neg hn]; exact Ev.now _
        · simp only [if_neg h0]; exact Ev.now _
    rcases hfacts with hf | ⟨hf, hp⟩ | ⟨e, hf, he4, hel, hp4, hp2⟩
    · omega
    · refine fin 2 (-1, 0) hf (by decide) ?_
      simp only [Nat.sub_self, List.take_zero, hloop, List.length_nil, Nat.lt_irrefl, if_false]
      exact Ev.now _
    · have hel2 : e ≤ l.length := by omega
      obtain ⟨r, k1, _⟩ := loops (l.take 512) (hb.take _) (by omega) e he4 hel hp4 (e - 2) 0 (-1) (e - 1) (by omega) (by omega) (by omega)
      have e5 : e - 2 ≤ 512 := by
        have g := htl
        clear hend hf hr
        omega
      rw [List.drop_zero, List.take_take, Nat.min_eq_left e5] at k1
      exact fin e r hf (by omega) k1
end Go.Proofs.YtekmdbicobkffaaDoor.Pure
