/- The plain law DigitsAnew: what is parsed, written anew, is the same text, but for noughts ahead. -/
import Derived.Test.YtfpjlpgebhgfkaaDoorQ4
import Derived.Test.YtfpjlpgebhgfkaaDoorP6
namespace Go.Proofs.YtfpjlpgebhgfkaaDoor.Pure
open Go.RowKit Go.Proofs.YtfpjlpgebhgfkaaDoor.P Go.Proofs.YtfpjlpgebhgfkaaDoorW.PrintWords
set_option linter.unusedVariables false
set_option linter.unusedSimpArgs false
theorem val_lt (l : List Int) (h : ∀ c ∈ l, isDig c = true) : ∀ n, 0 ≤ n → val n l < (n + 1) * 10 ^ l.length := by
  induction l with
  | nil => intro n hn; simp [val]; omega
  | cons c l ih =>
    intro n hn
    have hc := h c (by simp)
    simp [isDig] at hc
    have := ih (fun x hx => h x (by simp [hx])) (n * 10 + (c - 48)) (by omega)
    simp only [val, List.length_cons, Int.pow_succ]
    have hp : (0 : Int) < 10 ^ l.length := Int.pow_pos (by omega)
    have h2 : (n * 10 + (c - 48) + 1) * 10 ^ l.length ≤ ((n + 1) * 10) * 10 ^ l.length := Int.mul_le_mul_of_nonneg_right (by omega) (by omega)
    rw [show (n + 1) * (10 ^ l.length * 10) = ((n + 1) * 10) * 10 ^ l.length by rw [Int.mul_comm (10 ^ l.length), Int.mul_assoc]]
    omega
theorem pow_le18 {n : Nat} (h : n ≤ 18) : (10 : Int) ^ n ≤ 1000000000000000000 := by
  have : (10 : Nat) ^ n ≤ 10 ^ 18 := Nat.pow_le_pow_right (by omega) h
  have h2 : ((10 ^ n : Nat) : Int) ≤ ((10 ^ 18 : Nat) : Int) := by omega
  simpa using h2
theorem val_nought (l : List Int) : val 0 (48 :: l) = val 0 l := rfl
theorem val_noughts (l : List Int) (i : Nat) (hi : i ≤ l.length) (h : ∀ j, j < i → rd l j = 48) : val 0 (l.drop i) = val 0 l := by
  induction i with
  | zero => simp
  | succ i ih =>
    rw [← ih (by omega) (fun j hj => h j (by omega)), drop_at (show i < l.length by omega), h i (by omega), val_nought]
theorem skip_loop (x : List Int) (hl : x.length ≤ 18) (hl0 : x.length ≠ 0) (hd : ∀ c ∈ x, isDig c = true) (n : Nat) (hn : (n : Int) = val 0 x) (d : Nat) : ∀ i : Nat, i + 1 + d = x.length → (∀ j, j < i → rd x j = 48) →
    Ev (fun k => colophonlaw05_DigitsAnew.l1 k x 0 (txt n) 0 i) true := by
  have fin : ∀ i : Nat, i < x.length → (∀ j, j < i → rd x j = 48) → (i + 1 = x.length ∨ rd x i ≠ 48) → (txt n).toList = (strOfNums (x.drop i)).toList := by
    intro i hi hz hx
    have h1 : nd (val 0 (x.drop i)).toNat = x.drop i := by
      refine nd_of _ (fun c hc => hd c (List.mem_of_mem_drop hc)) (by simp; omega) ?_
      rcases hx with h | h
      · exact .inl (by simp; omega)
      · refine .inr ?_
        rw [drop_at hi]
        simpa using h
    rw [val_noughts x i (by omega) hz, ← hn, Int.toNat_natCast] at h1
    rw [← h1, txt_of_nd]
  induction d with
  | zero =>
    intro i hi hz
    refine Ev.step (f := fun k => (colophonlaw05_awake.f k).bind fun t => some t) (fun k => ?_) awake_ev
    simp only [colophonlaw05_DigitsAnew.l1]
    rw [wrap_nat (by omega) (by omega), if_neg (by omega), if_pos (by trivial), if_pos (by trivial), if_pos (by omega), if_pos (by omega), Int.toNat_natCast, if_pos (fin i (by omega) hz (.inl (by omega)))]
  | succ d ih =>
    intro i hi hz
    by_cases hc : rd x i = 48
    · refine Ev.step (f := fun k => colophonlaw05_DigitsAnew.l1 k x 0 (txt n) 0 ((i + 1 : Nat) : Int)) (fun k => ?_) (ih (i + 1) (by omega) (fun j hj => ?_))
      · simp only [colophonlaw05_DigitsAnew.l1]
        rw [wrap_nat (by omega) (by omega), if_pos (by omega), if_pos (by omega), if_pos (by omega), if_pos hc, wrap_nat (by omega) (by omega)]
        rfl
      · rcases Nat.lt_or_ge j i with h | h
        · exact hz j h
        · obtain rfl : j = i := by omega
          exact hc
    · refine Ev.step (f := fun k => (colophonlaw05_awake.f k).bind fun t => some t) (fun k => ?_) awake_ev
      simp only [colophonlaw05_DigitsAnew.l1]
      rw [wrap_nat (by omega) (by omega), if_pos (by omega), if_pos (by omega), if_pos (by omega), if_neg hc, if_pos (by trivial), if_pos (by trivial), if_pos (by omega), Int.toNat_natCast, if_pos (fin i (by omega) hz (.inr hc))]
theorem anew_end (x : List Int) (hl : x.length ≤ 18) (hd : ∀ c ∈ x, isDig c = true) : Ev (fun k => colophonlaw05_DigitsAnew.j1 k x) true := by
  by_cases h0 : x.length = 0
  · refine Ev.step (f := fun k => (colophonlaw05_fails.f k (⟨#[]⟩ : ByteArray) 9 4).bind fun t => if t = true then ((colophonlaw05_awake.f k).bind fun t => some t) else some false) (fun k => ?_) ?_
    · simp only [colophonlaw05_DigitsAnew.j1]
      rw [if_pos (by omega)]
    · refine Ev.bind (fails_ev _ _ _ (by decide) (by omega) (by decide)) ?_
      simp only [if_true]
      exact awake_ev
  · have hv0 := val_ge x hd 0 (by omega)
    have hv1 := val_lt x hd 0 (by omega)
    have hp := pow_le18 hl
    obtain ⟨n, hn⟩ := Int.eq_ofNat_of_zero_le hv0
    refine Ev.step (f := fun k => (digits_Parse.f k x 4611686018427387904).bind fun bt => (digits_Text.f bt.1).bind fun bt2 => colophonlaw05_DigitsAnew.l1 k x bt.2 bt2.1 bt2.2 0) (fun k => ?_) ?_
    · simp only [colophonlaw05_DigitsAnew.j1]
      rw [if_neg (by omega)]
    · refine Ev.bind (parse_ev x (by omega) 4611686018427387904 (by omega)) ?_
      have hpd : parsed x 4611686018427387904 = ((n : Int), 0) := by
        unfold parsed told
        rw [if_neg (by omega), if_neg (by rw [runLen_all hd]; omega), if_pos (by omega), hn]
      rw [hpd]
      simp only [text_is (n : Int) (by omega) (by omega), Option.bind_some, Int.toNat_natCast]
      exact skip_loop x hl h0 hd n hn.symm (x.length - 1) 0 (by omega) (fun j hj => by omega)
theorem anew_loop (l : List Int) (hl : l.length ≤ 140737488351232) (hw : ∀ x ∈ l, (Lit.int .u8 x).wf = true) (d : Nat) : ∀ (i : Nat) (x : List Int), i + d = l.length → x.length ≤ 18 → (∀ c ∈ x, isDig c = true) →
    Ev (fun k => colophonlaw05_DigitsAnew.l0 k l x i) true := by
  induction d with
  | zero =>
    intro i x hi hx hd
    refine Ev.step (f := fun k => colophonlaw05_DigitsAnew.j1 k x) (fun k => ?_) (anew_end x hx hd)
    simp only [colophonlaw05_DigitsAnew.l0]
    rw [if_neg (by omega)]
  | succ d ih =>
    intro i x hi hx hd
    by_cases h18 : x.length < 18
    · have hr := byte_range (hw (rd l i) (by
        have hlt : i < l.length := by omega
        simp [rd, List.getD, hlt]))
      have hq : (48 + (Int.tmod (rd l i) 10)) % 256 = 48 + rd l i % 10 := by
        rw [tmod10 (by omega)]
        omega
      refine Ev.step (f := fun k => colophonlaw05_DigitsAnew.l0 k l (x ++ [48 + rd l i % 10]) ((i + 1 : Nat) : Int)) (fun k => ?_) (ih (i + 1) _ (by omega) (by simp; omega) ?_)
      · simp only [colophonlaw05_DigitsAnew.l0]
        rw [if_pos (by omega), if_pos (by omega), if_pos (by omega), if_pos (by omega), hq, wrap_nat (by omega) (by omega)]
        rfl
      · intro c hc
        rcases List.mem_append.1 hc with hc | hc
        · exact hd c hc
        · simp at hc
          subst hc
          simp [isDig]
          omega
    · refine Ev.step (f := fun k => colophonlaw05_DigitsAnew.j1 k x) (fun k => ?_) (anew_end x hx hd)
      simp only [colophonlaw05_DigitsAnew.l0]
      rw [if_pos (by omega), if_neg (by omega)]
theorem DigitsAnew : colophonlaw05_DigitsAnew.Pure := by
  intro l _ hl hw
  refine Ev.rounds (g := fun k => colophonlaw05_DigitsAnew.f k l) ?_
  unfold colophonlaw05_DigitsAnew.f
  exact anew_loop l (by omega) hw l.length 0 [] (by omega) (by simp) (by simp)
end Go.Proofs.YtfpjlpgebhgfkaaDoor.Pure
