/- What a reader answers, by the header parser's answer: the bodies that bytes begin with, what is left, and what is wrong with that. -/
import Derived.Test.YthkmacgjekienaaDoorFPB
namespace Go.Proofs.YthkmacgjekienaaDoor.Pure
open Go.RowKit Go.Proofs.YthkmacgjekienaaDoor.P Go.Proofs.YthkmacgjekienaaDoorW.PrintWords Go.Proofs.YthkmacgjekienaaDoorW.PrintMore
set_option linter.unusedVariables false
set_option linter.unusedSimpArgs false
open Classical in
/-- what the header says -/
noncomputable def hp (l : List Int) : Int × Int × Int := if h : ∃ r, Ev (fun k => head_Parse.f k l) r then h.choose else (0, 0, 3)
theorem hp_is {l : List Int} {r : Int × Int × Int} (h : Ev (fun k => head_Parse.f k l) r) : hp l = r := by
  have hx : ∃ r, Ev (fun k => head_Parse.f k l) r := ⟨r, h⟩
  unfold hp
  rw [dif_pos hx]
  exact ev_one hx.choose_spec h
theorem hp_ev {l : List Int} (hb : Byt l) (hl : l.length ≤ 140737488353792) : Ev (fun k => head_Parse.f k l) (hp l) := by
  obtain ⟨r, h, _⟩ := both_parse l hb hl
  rw [hp_is h]; exact h
theorem hp_ref {l : List Int} (hb : Byt l) (hl : l.length ≤ 140737488353792) : Ev (fun k => colophonref06_Parse.f k l) (hp l) := by
  obtain ⟨r, h, h2⟩ := both_parse l hb hl
  rw [hp_is h]; exact h2
/-- its answers -/
theorem hp_form {l : List Int} (hb : Byt l) (hl : l.length ≤ 140737488353792) :
    (hp l = (0, 0, 3) ∧ l.length < 512) ∨ hp l = (0, 0, 5) ∨ hp l = (0, 0, 60) ∨ ∃ n s : Nat, hp l = ((n : Int), (s : Int), 0) ∧ 2 ≤ s ∧ s ≤ 512 ∧ s ≤ l.length := by
  rcases parse_form l hb (by omega) with ⟨_, h⟩ | ⟨E, r, h1, h2, h3, h4, h5, h6, h7⟩
  · by_cases h512 : 512 ≤ l.length
    · rw [if_pos h512] at h
      exact .inr (.inl (hp_is h))
    · rw [if_neg h512] at h
      exact .inl ⟨hp_is h, by omega⟩
  · have h8 := hp_is h7
    unfold outOf at h8
    by_cases h0 : r.2 = 0
    · rw [if_pos h0] at h8
      by_cases hn : r.1 < 0
      · rw [if_pos hn] at h8
        exact .inr (.inr (.inl h8))
      · rw [if_neg hn] at h8
        obtain ⟨n, hn2⟩ := Int.eq_ofNat_of_zero_le (show 0 ≤ r.1 by omega)
        rw [hn2] at h8
        exact .inr (.inr (.inr ⟨n, E, h8, h2, h3, h4⟩))
    · rw [if_neg h0] at h8
      rcases h5 with h5 | h5 | h5
      · exact absurd h5 h0
      · rw [h5] at h8; exact .inr (.inl h8)
      · rw [h5] at h8; exact .inr (.inr (.inl h8))
noncomputable def sz (l : List Int) : Nat := (hp l).2.1.toNat
noncomputable def bn (l : List Int) : Nat := (hp l).1.toNat
/-- a whole frame stands there -/
def ok1 (l : List Int) : Prop := (hp l).2.2 = 0 ∧ sz l + bn l ≤ l.length ∧ 2 ≤ sz l
open Classical in
noncomputable def err1 (l : List Int) : Int := if (hp l).2.2 = 0 then 3 else (hp l).2.2
noncomputable def body1 (l : List Int) : List Int := (l.take (sz l + bn l)).drop (sz l)
noncomputable def rest1 (l : List Int) : List Int := l.drop (sz l + bn l)
theorem rest1_lt {l : List Int} (h : ok1 l) : (rest1 l).length < l.length := by
  obtain ⟨_, h1, h2⟩ := h
  unfold rest1
  rw [List.length_drop]
  omega
theorem body1_len {l : List Int} (h : ok1 l) : (body1 l).length = bn l := by
  obtain ⟨_, h1, h2⟩ := h
  unfold body1
  rw [List.length_drop, List.length_take]
  omega
open Classical in
noncomputable def bods : Nat → List Int → List (List Int) × List Int × Int
  | 0, l => ([], l, 3)
  | f + 1, l => if ok1 l then (body1 l :: (bods f (rest1 l)).1, (bods f (rest1 l)).2) else ([], l, err1 l)
theorem bods_more (f : Nat) : ∀ (l : List Int), l.length < f → bods (f + 1) l = bods f l := by
  induction f with
  | zero => intro l h; omega
  | succ f ih =>
    intro l h
    rw [bods]
    conv => rhs; rw [bods]
    by_cases ho : ok1 l
    · have := rest1_lt ho
      rw [if_pos ho, if_pos ho, ih (rest1 l) (by omega)]
    · rw [if_neg ho, if_neg ho]
theorem bods_up (l : List Int) (d : Nat) : bods (l.length + 1 + d) l = bods (l.length + 1) l := by
  induction d with
  | zero => rfl
  | succ d ih => rw [← ih]; exact bods_more (l.length + 1 + d) l (by omega)
/-- the bodies that bytes begin with; what is left; what is wrong with that -/
noncomputable def bodT (l : List Int) : List (List Int) × List Int × Int := bods (l.length + 1) l
theorem bodT_ok {l : List Int} (h : ok1 l) : bodT l = (body1 l :: (bodT (rest1 l)).1, (bodT (rest1 l)).2) := by
  have hlt := rest1_lt h
  unfold bodT
  rw [bods, if_pos h]
  have := bods_up (rest1 l) (l.length - (rest1 l).length - 1)
  rw [show (rest1 l).length + 1 + (l.length - (rest1 l).length - 1) = l.length by omega] at this
  rw [this]
theorem bodT_no {l : List Int} (h : ¬ ok1 l) : bodT l = ([], l, err1 l) := by
  unfold bodT
  rw [bods, if_neg h]
theorem Byt.rest1 {l : List Int} (h : Byt l) : Byt (rest1 l) := h.drop _
theorem Byt.body1 {l : List Int} (h : Byt l) : Byt (body1 l) := (h.take _).drop _
/-- by their number -/
theorem bod_ind {p : List Int → Prop} (h1 : ∀ l, ok1 l → p (Pure.rest1 l) → p l) (h2 : ∀ l, ¬ ok1 l → p l) (l : List Int) : p l := by
  have key : ∀ n, ∀ l : List Int, l.length < n → p l := by
    intro n
    induction n with
    | zero => intro l h; omega
    | succ n ih =>
      intro l h
      by_cases ho : ok1 l
      · exact h1 l ho (ih _ (by have := rest1_lt ho; omega))
      · exact h2 l ho
  exact key (l.length + 1) l (by omega)
theorem ok1_ref {l : List Int} (hb : Byt l) (hl : l.length ≤ 140737488353792) (h : ok1 l) : ∃ n s : Nat, hp l = ((n : Int), (s : Int), 0) ∧ sz l = s ∧ bn l = n ∧ 2 ≤ s ∧ s ≤ 512 ∧ s + n ≤ l.length := by
  obtain ⟨h0, h1, h2⟩ := h
  rcases hp_form hb hl with h | h | h | ⟨n, s, h, k1, k2, k3⟩
  · rw [h.1] at h0; cases h0
  · rw [h] at h0; cases h0
  · rw [h] at h0; cases h0
  · have e1 : sz l = s := by unfold sz; rw [h]; rfl
    have e2 : bn l = n := by unfold bn; rw [h]; rfl
    exact ⟨n, s, h, e1, e2, k1, k2, by omega⟩
theorem no1_form {l : List Int} (hb : Byt l) (hl : l.length ≤ 140737488353792) (h : ¬ ok1 l) : ((hp l).2.2 ≠ 0 ∧ err1 l = (hp l).2.2 ∧ ((hp l).2.2 = 3 ∨ (hp l).2.2 = 5 ∨ (hp l).2.2 = 60)) ∨ ∃ n s : Nat, hp l = ((n : Int), (s : Int), 0) ∧ err1 l = 3 ∧ 2 ≤ s ∧ s ≤ l.length ∧ s ≤ 512 ∧ l.length < s + n := by
  rcases hp_form hb hl with h' | h' | h' | ⟨n, s, h', k1, k2, k3⟩
  · left; unfold err1; rw [h'.1]; simp
  · left; unfold err1; rw [h']; simp
  · left; unfold err1; rw [h']; simp
  · right
    refine ⟨n, s, h', ?_, k1, k3, k2, ?_⟩
    · unfold err1; rw [h']; simp
    · rcases Nat.lt_or_ge l.length (s + n) with g | g
      · exact g
      · refine absurd ⟨by rw [h'], ?_, ?_⟩ h
        · unfold sz bn; rw [h']; simpa using g
        · unfold sz; rw [h']; simpa using k1
end Go.Proofs.YthkmacgjekienaaDoor.Pure
