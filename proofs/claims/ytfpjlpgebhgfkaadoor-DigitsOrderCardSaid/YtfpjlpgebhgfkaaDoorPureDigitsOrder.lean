/- The plain law DigitsOrder: texts are in the order of their numbers. -/
import Derived.Test.YtfpjlpgebhgfkaaDoorQ3
import Derived.Test.YtfpjlpgebhgfkaaDoorP6
namespace Go.Proofs.YtfpjlpgebhgfkaaDoor.Pure
open Go.RowKit Go.Proofs.YtfpjlpgebhgfkaaDoor.P Go.Proofs.YtfpjlpgebhgfkaaDoorW.PrintWords
set_option linter.unusedVariables false
set_option linter.unusedSimpArgs false
theorem less_irrefl (a : List UInt8) : Op.bytesLess a a = false := by
  induction a with
  | nil => rfl
  | cons x a ih => simp [Op.bytesLess, ih]
theorem less_asymm (a : List UInt8) : ∀ b, Op.bytesLess a b = true → Op.bytesLess b a = false := by
  induction a with
  | nil => intro b h; cases b <;> simp [Op.bytesLess] at h ⊢
  | cons x a ih =>
    intro b h
    cases b with
    | nil => simp [Op.bytesLess] at h
    | cons y b =>
      simp only [Op.bytesLess, Bool.or_eq_true, decide_eq_true_eq, Bool.and_eq_true, beq_iff_eq] at h
      simp only [Op.bytesLess, Bool.or_eq_false_iff, decide_eq_false_iff_not, Bool.and_eq_false_iff, beq_eq_false_iff_ne, UInt8.not_lt]
      rcases h with h | ⟨rfl, h⟩
      · exact ⟨UInt8.le_of_lt h, .inl (fun e => by subst e; exact UInt8.lt_irrefl _ h)⟩
      · exact ⟨UInt8.le_refl _, .inr (ih b h)⟩
theorem less_snoc (a : List UInt8) (c d : UInt8) : ∀ b, a.length = b.length → Op.bytesLess a b = true → Op.bytesLess (a ++ [c]) (b ++ [d]) = true := by
  induction a with
  | nil => intro b hl h; cases b with
    | nil => simp [Op.bytesLess] at h
    | cons y b => simp at hl
  | cons x a ih =>
    intro b hl h
    cases b with
    | nil => simp at hl
    | cons y b =>
      simp only [Op.bytesLess, Bool.or_eq_true, decide_eq_true_eq, Bool.and_eq_true, beq_iff_eq] at h
      simp only [List.cons_append, Op.bytesLess, Bool.or_eq_true, decide_eq_true_eq, Bool.and_eq_true, beq_iff_eq]
      rcases h with h | ⟨e, h⟩
      · exact .inl h
      · exact .inr ⟨e, ih b (by simpa using hl) h⟩
theorem less_last (a : List UInt8) (c d : UInt8) (h : c < d) : Op.bytesLess (a ++ [c]) (a ++ [d]) = true := by
  induction a with
  | nil => simp [Op.bytesLess, h]
  | cons x a ih => simp [Op.bytesLess, ih]
theorem ofNat_lt {a b : Nat} (h : a < b) (hb : b < 256) : UInt8.ofNat a < UInt8.ofNat b := by
  rw [UInt8.lt_iff_toNat_lt]
  simp
  omega
theorem len_pos (u : Nat) : 1 ≤ (Lib.decDigits u).length := by
  by_cases h : u < 10
  · rw [dd_small h]; simp
  · rw [dd_big h]; simp
theorem order (y : Nat) : ∀ x, x < y → (Lib.decDigits x).length < (Lib.decDigits y).length ∨ ((Lib.decDigits x).length = (Lib.decDigits y).length ∧ Op.bytesLess (Lib.decDigits x) (Lib.decDigits y) = true) := by
  induction y using Nat.strongRecOn with
  | _ y ih =>
    intro x hx
    by_cases hy : y < 10
    · rw [dd_small hy, dd_small (show x < 10 by omega)]
      refine .inr ⟨rfl, less_last [] _ _ (ofNat_lt (by omega) (by omega))⟩
    · rw [dd_big hy]
      by_cases hx10 : x < 10
      · rw [dd_small hx10]
        have := len_pos (y / 10)
        exact .inl (by simp; omega)
      · rw [dd_big hx10]
        rcases Nat.lt_or_ge (x / 10) (y / 10) with h | h
        · rcases ih (y / 10) (by omega) (x / 10) h with h1 | ⟨h1, h2⟩
          · exact .inl (by simp; omega)
          · exact .inr ⟨by simp; omega, less_snoc _ _ _ _ h1 h2⟩
        · have e : x / 10 = y / 10 := by omega
          rw [e]
          exact .inr ⟨by simp, less_last _ _ _ (ofNat_lt (by omega) (by omega))⟩
theorem dd_inj {x y : Nat} (h : Lib.decDigits x = Lib.decDigits y) : x = y := by
  have h1 := val_nd x
  have h2 := val_nd y
  unfold nd at h1 h2
  rw [h, h2] at h1
  omega
theorem txt_list (u : Nat) : (txt u).toList = Lib.decDigits u := ByteArray.toList_eq _
theorem txt_len (u : Nat) : (txt u).size = (Lib.decDigits u).length := rfl
theorem DigitsOrder : colophonlaw05_DigitsOrder.Pure := by
  intro a b _ _
  refine Ev.rounds (g := fun k => colophonlaw05_DigitsOrder.f k a b) ?_
  unfold colophonlaw05_DigitsOrder.f
  have hx := bits_mask a 4611686018427387903 (by omega)
  have hy := bits_mask b 4611686018427387903 (by omega)
  simp only [Int.cast_ofNat_Int] at hx hy
  generalize Go.bits .and .i64 a 4611686018427387903 = X at *
  generalize Go.bits .and .i64 b 4611686018427387903 = Y at *
  obtain ⟨x, rfl⟩ := Int.eq_ofNat_of_zero_le hx.1
  obtain ⟨y, rfl⟩ := Int.eq_ofNat_of_zero_le hy.1
  simp only [text_is _ hx.1 (by omega), text_is _ hy.1 (by omega), Option.bind_some, Int.toNat_natCast, txt_list, txt_len]
  have heq : ((Lib.decDigits x == Lib.decDigits y) == ((x : Int) == (y : Int))) = true := by
    by_cases e : x = y
    · subst e; simp
    · have e1 : Lib.decDigits x ≠ Lib.decDigits y := fun h => e (dd_inj h)
      have e2 : (x : Int) ≠ y := by omega
      rw [beq_eq_false_iff_ne.2 e1, beq_eq_false_iff_ne.2 e2]
      rfl
  simp only [heq, if_true]
  rcases Nat.lt_trichotomy x y with h | h | h
  · have hd : decide ((x : Int) < y) = true := by simp; omega
    rcases order y x h with h1 | ⟨h1, h2⟩
    · have h1' : ((Lib.decDigits x).length : Int) < ((Lib.decDigits y).length : Int) := by omega
      simp only [if_pos h1', hd, beq_self_eq_true, if_true]
      exact awake_ev
    · have h1' : ¬ ((Lib.decDigits x).length : Int) < ((Lib.decDigits y).length : Int) := by omega
      have h1'' : ((Lib.decDigits x).length : Int) = ((Lib.decDigits y).length : Int) := by omega
      simp only [if_neg h1', if_pos h1'', h2, hd, beq_self_eq_true, if_true]
      exact awake_ev
  · subst h
    have hd : decide ((x : Int) < x) = false := by simp
    simp only [Int.lt_irrefl, if_false, less_irrefl, decide_false, beq_self_eq_true, if_true]
    exact awake_ev
  · have hd : decide ((x : Int) < y) = false := by simp; omega
    rcases order x y h with h1 | ⟨h1, h2⟩
    · have h1' : ¬ ((Lib.decDigits x).length : Int) < ((Lib.decDigits y).length : Int) := by omega
      have h1'' : ¬ ((Lib.decDigits x).length : Int) = ((Lib.decDigits y).length : Int) := by omega
      simp only [if_neg h1', if_neg h1'', hd, beq_self_eq_true, if_true]
      exact awake_ev
    · have h1' : ¬ ((Lib.decDigits x).length : Int) < ((Lib.decDigits y).length : Int) := by omega
      have h1'' : ((Lib.decDigits x).length : Int) = ((Lib.decDigits y).length : Int) := by omega
      simp only [if_neg h1', if_pos h1'', less_asymm _ _ h2, hd, beq_self_eq_true, if_true]
      exact awake_ev
end Go.Proofs.YtfpjlpgebhgfkaaDoor.Pure
