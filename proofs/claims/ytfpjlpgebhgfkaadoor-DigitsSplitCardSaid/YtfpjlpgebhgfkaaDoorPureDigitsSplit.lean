/- The plain law DigitsSplit: a run ends at what is no digit; its bytes are a number's. -/
import Derived.Test.YtfpjlpgebhgfkaaDoorQ4
import Derived.Test.YtfpjlpgebhgfkaaDoorP7
namespace Go.Proofs.YtfpjlpgebhgfkaaDoor.Pure
open Go.RowKit Go.Proofs.YtfpjlpgebhgfkaaDoor.P Go.Proofs.YtfpjlpgebhgfkaaDoorW.PrintWords
set_option linter.unusedVariables false
set_option linter.unusedSimpArgs false
theorem runLen_take (l : List Int) : ∀ m, runLen (l.take m) = min (runLen l) m := by
  induction l with
  | nil => intro m; simp [runLen]
  | cons c l ih =>
    intro m
    cases m with
    | zero => simp [runLen]
    | succ m =>
      rw [List.take_succ_cons, runLen_cons, runLen_cons]
      by_cases h : isDig c = true
      · rw [if_pos h, if_pos h, ih m]; omega
      · rw [if_neg h, if_neg h]; omega
theorem split_tail (l : List Int) (hl : l.length * 1 ≤ 140737488351232) (i : Nat) (hi : i ≤ l.length) (n : Nat) (hn : n = runLen (l.drop i)) : Ev (fun k => colophonlaw05_DigitsSplit.j1 k l i n) true := by
  have hrl := runLen_le (l.drop i)
  have hdl : (l.drop i).length = l.length - i := List.length_drop
  by_cases h : i + n < l.length
  · refine Ev.step (f := fun k => (digits_Parse.f k ((l.drop i).take (n + 1)) 4611686018427387904).bind fun bt => if bt.2 = 4 then ((colophonlaw05_awake.f k).bind fun t => some t) else some false) (fun k => ?_) ?_
    · simp only [colophonlaw05_DigitsSplit.j1]
      rw [wrap_nat (i := (i : Int) + n) (by omega) (by omega), if_pos (by omega), if_pos (by omega), wrap_nat (by omega) (by omega), if_pos (by omega), if_pos (by omega)]
      rw [show ((i : Int) + n + 1).toNat = i + n + 1 by omega, Int.toNat_natCast, List.drop_take, show i + n + 1 - i = n + 1 by omega]
    · refine Ev.bind (parse_ev _ (by simp; omega) 4611686018427387904 (by omega)) ?_
      have hp : parsed ((l.drop i).take (n + 1)) 4611686018427387904 = (0, 4) := by
        unfold parsed
        have hl2 : ((l.drop i).take (n + 1)).length = n + 1 := by rw [List.length_take]; omega
        rw [if_neg (by omega), if_pos (.inr (by rw [runLen_take, hl2]; omega))]
      rw [hp]
      simp only [if_true]
      exact awake_ev
  · refine Ev.step (f := fun k => (colophonlaw05_awake.f k).bind fun t => some t) (fun k => ?_) awake_ev
    simp only [colophonlaw05_DigitsSplit.j1]
    rw [wrap_nat (i := (i : Int) + n) (by omega) (by omega), if_neg (by omega)]
theorem DigitsSplit : colophonlaw05_DigitsSplit.Pure := by
  intro l a _ hl _ _
  refine Ev.rounds (g := fun k => colophonlaw05_DigitsSplit.f k l a) ?_
  unfold colophonlaw05_DigitsSplit.f
  have h0 := Int.emod_nonneg a (show (l.length : Int) + 1 ≠ 0 by omega)
  have h1 := Int.emod_lt_of_pos a (show (0 : Int) < (l.length : Int) + 1 by omega)
  simp only [wrap_nat (i := (l.length : Int) + 1) (by omega) (by omega), bring_is a ((l.length : Int) + 1) (by omega) (by omega), Option.bind_some, run_is]
  obtain ⟨i, hi⟩ := Int.eq_ofNat_of_zero_le h0
  rw [hi] at h1 ⊢
  have hil : i ≤ l.length := by omega
  have hr : runAt l i = (runLen (l.drop i) : Nat) := by
    unfold runAt
    rw [if_neg (by omega)]
    by_cases h : (l.length : Int) ≤ i
    · rw [if_pos h, List.drop_eq_nil_of_le (by omega)]; rfl
    · rw [if_neg h]; rfl
  have hrl := runLen_le (l.drop i)
  have hdl : (l.drop i).length = l.length - i := List.length_drop
  have hg : decide (((runLen (l.drop i) : Nat) : Int) > wrap64 ((l.length : Int) - i)) = false := by
    rw [wrap_nat (by omega) (by omega)]
    simp
    omega
  have hneg : ¬ ((runLen (l.drop i) : Nat) : Int) < 0 := by omega
  simp only [hr, if_neg hneg, hg]
  obtain ⟨n, hn⟩ : ∃ n, n = runLen (l.drop i) := ⟨_, rfl⟩
  rw [← hn] at hrl ⊢
  have tl := split_tail l hl i hil n hn
  by_cases hp : n = 0
  · refine Ev.step (f := fun k => colophonlaw05_DigitsSplit.j1 k l i n) (fun k => ?_) tl
    simp only [colophonlaw05_DigitsSplit.j0]
    rw [if_neg (by simp), if_neg (by omega)]
  · refine Ev.step (f := fun k => (digits_Parse.f k ((l.drop i).take n) 4611686018427387904).bind fun bt => if bt.2 = 0 then colophonlaw05_DigitsSplit.j1 k l i n else if bt.2 = 5 then colophonlaw05_DigitsSplit.j1 k l i n else some false) (fun k => ?_) ?_
    · simp only [colophonlaw05_DigitsSplit.j0]
      rw [if_neg (by simp), if_pos (by omega), if_pos (by omega), wrap_nat (by omega) (by omega), if_pos (by omega), if_pos (by omega)]
      rw [show ((i : Int) + n).toNat = i + n by omega, Int.toNat_natCast, List.drop_take, show i + n - i = n by omega]
    · refine Ev.bind (parse_ev _ (by simp; omega) 4611686018427387904 (by omega)) ?_
      have hl2 : ((l.drop i).take n).length = n := by rw [List.length_take]; omega
      unfold parsed told
      rw [if_neg (by omega), if_neg (by rw [runLen_take, hl2]; omega)]
      split
      · simp only [if_true]
        exact tl
      · simp
        exact tl
end Go.Proofs.YtfpjlpgebhgfkaaDoor.Pure
