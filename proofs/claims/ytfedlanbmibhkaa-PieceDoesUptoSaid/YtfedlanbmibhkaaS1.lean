/- A list in pieces: plain facts, no program in sight. -/
import Derived.Below
namespace Go.Proofs.Ytfedlanbmibhkaa.P
variable {α : Type}
def newS (a : List α) : List (List α) := match a with | [] => [] | x :: r => [x :: r]
def cutS : List (List α) → Nat → List (List α) × Nat
  | [], _ => ([], 0)
  | p :: r, at_ => if at_ = 0 then (p :: r, 0) else if at_ < p.length then (p.take at_ :: p.drop at_ :: r, 1) else (p :: (cutS r (at_ - p.length)).1, (cutS r (at_ - p.length)).2 + 1)
def putS (ps : List (List α)) (i : Nat) (x : List α) : List (List α) := match x with | [] => ps | y :: r => ps.take i ++ (y :: r) :: ps.drop i
def replS (ps : List (List α)) (f t : Nat) (x : List α) : List (List α) :=
  putS ((cutS (cutS ps f).1 t).1.take (cutS ps f).2 ++ (cutS (cutS ps f).1 t).1.drop (cutS (cutS ps f).1 t).2) (cutS ps f).2 x
def Full (ps : List (List α)) : Prop := ∀ p ∈ ps, p ≠ []

theorem newS_flat (a : List α) : (newS a).flatten = a := by cases a <;> simp [newS]
theorem newS_full (a : List α) : Full (newS a) := by
  cases a with
  | nil => intro p hp; simp [newS] at hp
  | cons x r => intro p hp; simp [newS] at hp; subst hp; simp
theorem newS_len (a : List α) : (newS a).length = min a.length 1 := by cases a <;> simp [newS]
theorem full_nil : Full ([] : List (List α)) := fun _ h => by cases h
theorem full_cons {p : List α} {r : List (List α)} : Full (p :: r) ↔ p ≠ [] ∧ Full r := by
  unfold Full; simp
theorem full_append {a b : List (List α)} : Full (a ++ b) ↔ Full a ∧ Full b := by
  unfold Full; simp only [List.mem_append]
  exact ⟨fun h => ⟨fun p hp => h p (.inl hp), fun p hp => h p (.inr hp)⟩, fun h p hp => hp.elim (h.1 p) (h.2 p)⟩
theorem full_le {ps : List (List α)} (h : Full ps) : ps.length ≤ ps.flatten.length := by
  induction ps with
  | nil => simp
  | cons p r ih =>
    obtain ⟨h1, h2⟩ := full_cons.mp h
    have := List.length_pos_iff.mpr h1
    have := ih h2
    simp only [List.length_cons, List.flatten_cons, List.length_append]; omega
theorem full_zero {ps : List (List α)} (h : Full ps) : ps.length = 0 ↔ ps.flatten.length = 0 := by
  constructor
  · intro h0; rw [List.length_eq_zero_iff.mp h0]; simp
  · intro h0; have := full_le h; omega

/-- A cut parts the pieces in two rows. -/
theorem cutS_parts (ps : List (List α)) : ∀ (k : Nat), k ≤ ps.flatten.length → Full ps → ∃ A B, cutS ps k = (A ++ B, A.length) ∧ A.flatten = ps.flatten.take k ∧ B.flatten = ps.flatten.drop k ∧ Full A ∧ Full B ∧ A.length + B.length ≤ ps.length + 1 := by
  induction ps with
  | nil => intro k hk _; exact ⟨[], [], by simp [cutS], by simp, by simp, full_nil, full_nil, by simp⟩
  | cons p r ih =>
    intro k hk hf
    obtain ⟨hp, hr⟩ := full_cons.mp hf
    simp only [List.flatten_cons, List.length_append] at hk
    by_cases h0 : k = 0
    · subst h0; exact ⟨[], p :: r, by simp [cutS], by simp, by simp, full_nil, hf, by simp⟩
    · by_cases h1 : k < p.length
      · refine ⟨[p.take k], p.drop k :: r, by simp [cutS, h0, h1], ?_, ?_, ?_, ?_, by simp; omega⟩
        · simp [List.take_append]; left; omega
        · simp [List.drop_append]; rw [show k - p.length = 0 by omega]; simp
        · refine full_cons.mpr ⟨?_, full_nil⟩
          intro e; have := congrArg List.length e; simp at this; rcases this with h | h
          · exact h0 h
          · exact hp h
        · refine full_cons.mpr ⟨?_, hr⟩
          intro e; have := congrArg List.length e; simp at this; omega
      · obtain ⟨A, B, e, e1, e2, f1, f2, l⟩ := ih (k - p.length) (by omega) hr
        refine ⟨p :: A, B, by simp [cutS, h0, h1, e], ?_, ?_, full_cons.mpr ⟨hp, f1⟩, f2, by simp at l ⊢; omega⟩
        · simp [List.take_append, e1, List.take_of_length_le (show p.length ≤ k by omega)]
        · simp [List.drop_append, e2, List.drop_eq_nil_of_le (show p.length ≤ k by omega)]
/-- What lies wholly ahead of a cut stays. -/
theorem cutS_skip (A : List (List α)) : ∀ (B : List (List α)) (k : Nat), Full A → A.flatten.length ≤ k → cutS (A ++ B) k = (A ++ (cutS B (k - A.flatten.length)).1, A.length + (cutS B (k - A.flatten.length)).2) := by
  induction A with
  | nil => intro B k _ _; simp
  | cons p r ih =>
    intro B k hf hk
    obtain ⟨hp, hr⟩ := full_cons.mp hf
    have hpl := List.length_pos_iff.mpr hp
    simp only [List.flatten_cons, List.length_append] at hk
    have h := ih B (k - p.length) hr (by omega)
    simp only [List.cons_append, cutS]
    rw [if_neg (by omega), if_neg (by omega), h]
    simp only [List.flatten_cons, List.length_append, Nat.sub_sub, List.length_cons]
    rw [show r.length + (cutS B (k - (p.length + r.flatten.length))).2 + 1 = r.length + 1 + (cutS B (k - (p.length + r.flatten.length))).2 by omega]
theorem putS_mid (A B : List (List α)) (x : List α) : putS (A ++ B) A.length x = A ++ newS x ++ B := by
  cases x <;> simp [putS, newS]
/-- What a replacement makes of the pieces: some ahead, what is put in, some behind. -/
theorem replS_parts (ps : List (List α)) (f t : Nat) (x : List α) (hft : f ≤ t) (ht : t ≤ ps.flatten.length) (hf : Full ps) :
    ∃ A B, replS ps f t x = A ++ newS x ++ B ∧ A.flatten = ps.flatten.take f ∧ B.flatten = ps.flatten.drop t ∧ Full A ∧ Full B ∧ A.length + B.length ≤ ps.length + 1 := by
  obtain ⟨A, B, e, e1, e2, f1, f2, l⟩ := cutS_parts ps f (by omega) hf
  have hA : A.flatten.length = f := by rw [e1, List.length_take]; omega
  have hB : B.flatten.length = ps.flatten.length - f := by rw [e2, List.length_drop]
  obtain ⟨C, D, e', e1', e2', f1', f2', l'⟩ := cutS_parts B (t - f) (by omega) f2
  have hs := cutS_skip A B t f1 (by omega)
  rw [hA, e'] at hs
  refine ⟨A, D, ?_, e1, ?_, f1, f2', ?_⟩
  · unfold replS
    rw [e]; simp only [hs]
    rw [show A ++ (C ++ D) = (A ++ C) ++ D by simp, show A.length + C.length = (A ++ C).length by simp, List.drop_left, List.append_assoc, List.take_left]
    rw [putS_mid]
  · rw [e2', e2, List.drop_drop]; congr 1; omega
  · by_cases hc : C = []
    · subst hc
      have h3 := congrArg List.length e1'
      rw [List.length_take] at h3
      simp only [List.flatten_nil, List.length_nil] at h3
      have hk : t - f = 0 := by omega
      rw [hk] at e'
      have hbd : D = B := by
        cases B with
        | nil => simp only [cutS, List.nil_append, Prod.mk.injEq] at e'; exact e'.1.symm
        | cons p r => simp only [cutS, if_pos, List.nil_append, Prod.mk.injEq] at e'; exact e'.1.symm
      rw [hbd]; exact l
    · have := List.length_pos_iff.mpr hc
      omega
theorem replS_flat (ps : List (List α)) (f t : Nat) (x : List α) (hft : f ≤ t) (ht : t ≤ ps.flatten.length) (hf : Full ps) : (replS ps f t x).flatten = ps.flatten.take f ++ x ++ ps.flatten.drop t := by
  obtain ⟨A, B, e, e1, e2, _⟩ := replS_parts ps f t x hft ht hf
  rw [e]; simp [e1, e2, newS_flat]
theorem replS_full (ps : List (List α)) (f t : Nat) (x : List α) (hft : f ≤ t) (ht : t ≤ ps.flatten.length) (hf : Full ps) : Full (replS ps f t x) := by
  obtain ⟨A, B, e, _, _, fa, fb, _⟩ := replS_parts ps f t x hft ht hf
  rw [e]; exact full_append.mpr ⟨full_append.mpr ⟨fa, newS_full x⟩, fb⟩
theorem replS_len (ps : List (List α)) (f t : Nat) (x : List α) (hft : f ≤ t) (ht : t ≤ ps.flatten.length) (hf : Full ps) : (replS ps f t x).length ≤ ps.length + 2 := by
  obtain ⟨A, B, e, _, _, _, _, l⟩ := replS_parts ps f t x hft ht hf
  rw [e]; simp only [List.length_append, newS_len]; omega
theorem cutS_facts (ps : List (List α)) (k : Nat) (hk : k ≤ ps.flatten.length) (hf : Full ps) : (cutS ps k).1.flatten = ps.flatten ∧ Full (cutS ps k).1 ∧ (cutS ps k).1.length ≤ ps.length + 1 ∧ (cutS ps k).2 ≤ (cutS ps k).1.length := by
  obtain ⟨A, B, e, e1, e2, f1, f2, l⟩ := cutS_parts ps k hk hf
  rw [e]
  refine ⟨?_, full_append.mpr ⟨f1, f2⟩, by simp only [List.length_append]; omega, by simp only [List.length_append]; omega⟩
  simp only [List.flatten_append, e1, e2, List.take_append_drop]
theorem cutS_mono (ps : List (List α)) (f t : Nat) (hft : f ≤ t) (ht : t ≤ ps.flatten.length) (hf : Full ps) : (cutS ps f).2 ≤ (cutS (cutS ps f).1 t).2 := by
  obtain ⟨A, B, e, e1, e2, f1, f2, l⟩ := cutS_parts ps f (by omega) hf
  have hA : A.flatten.length = f := by rw [e1, List.length_take]; omega
  rw [e]
  show A.length ≤ (cutS (A ++ B) t).2
  rw [cutS_skip A B t f1 (by omega)]
  exact Nat.le_add_right _ _
/-- two rows, element by element -/
inductive All2 {α β : Type} (R : α → β → Prop) : List α → List β → Prop
  | nil : All2 R [] []
  | cons {a : α} {b : β} {l : List α} {m : List β} : R a b → All2 R l m → All2 R (a :: l) (b :: m)
theorem All2.len {α β : Type} {R : α → β → Prop} {l : List α} {m : List β} (h : All2 R l m) : l.length = m.length := by
  induction h with
  | nil => rfl
  | cons _ _ ih => simp [ih]
theorem All2.imp {α β : Type} {R S : α → β → Prop} {l : List α} {m : List β} (h : All2 R l m) (hi : ∀ a b, R a b → S a b) : All2 S l m := by
  induction h with
  | nil => exact .nil
  | cons h _ ih => exact .cons (hi _ _ h) ih
theorem All2.append {α β : Type} {R : α → β → Prop} {l l' : List α} {m m' : List β} (h : All2 R l m) (k : All2 R l' m') : All2 R (l ++ l') (m ++ m') := by
  induction h with
  | nil => exact k
  | cons h _ ih => exact .cons h ih
theorem All2.take {α β : Type} {R : α → β → Prop} {l : List α} {m : List β} (h : All2 R l m) : ∀ i, All2 R (l.take i) (m.take i) := by
  induction h with
  | nil => intro i; simp; exact .nil
  | cons h _ ih =>
    intro i
    cases i with
    | zero => exact .nil
    | succ i => exact .cons h (ih i)
theorem All2.drop {α β : Type} {R : α → β → Prop} {l : List α} {m : List β} (h : All2 R l m) : ∀ i, All2 R (l.drop i) (m.drop i) := by
  induction h with
  | nil => intro i; simp; exact .nil
  | cons h hm ih =>
    intro i
    cases i with
    | zero => exact .cons h hm
    | succ i => exact ih i
theorem All2.get {α β : Type} {R : α → β → Prop} {l : List α} {m : List β} (h : All2 R l m) : ∀ (i : Nat) (a : α) (b : β), l[i]? = some a → m[i]? = some b → R a b := by
  induction h with
  | nil => intro i a b h; simp at h
  | cons h _ ih =>
    intro i a b ha hb
    cases i with
    | zero => simp at ha hb; subst ha; subst hb; exact h
    | succ i => exact ih i a b (by simpa using ha) (by simpa using hb)
theorem All2.left {α β : Type} {R : α → β → Prop} {P : α → Prop} {l : List α} {m : List β} (h : All2 R l m) (hp : ∀ a b, R a b → P a) : ∀ a ∈ l, P a := by
  induction h with
  | nil => intro a ha; cases ha
  | cons h _ ih =>
    intro a ha
    cases ha with
    | head => exact hp _ _ h
    | tail _ ha => exact ih a ha
end Go.Proofs.Ytfedlanbmibhkaa.P
