/- What a decoded character is; what Check says. -/
import Derived.Test.YtjioglaobabmmaaDoorP1
import Derived.Test.YtjioglaobabmmaaDoorP6
import Derived.Test.YtjioglaobabmmaaDoorP9
import Derived.Test.YtjioglaobabmmaaDoorQ3
namespace Go.Proofs.YtjioglaobabmmaaDoor.Pure
open Go.RowKit Go.Proofs.YtjioglaobabmmaaDoor.P Go.Proofs.YtjioglaobabmmaaDoorW.PrintWords
set_option linter.unusedVariables false
set_option linter.unusedSimpArgs false
theorem encOf_char {c : Int} {x : List Int} (h : encOf c = (x, 0)) : isChar c ∧ bytesOfChar c = x := by
  unfold encOf at h
  split at h
  · rename_i hc
    exact ⟨hc, congrArg Prod.fst h⟩
  · exact absurd (congrArg Prod.snd h) (by show ¬ ((10 : Int) = 0); decide)
/-- A decoded character: it is one, and its bytes stand there. -/
theorem dec_spec (l : List Int) (hb : Bytes l) (c : Int) (n : Nat) (h : dec l = some (c, n)) : 1 ≤ n ∧ n ≤ 4 ∧ n ≤ l.length ∧ isChar c ∧ bytesOfChar c = l.take n := by
  match l, hb with
  | [], _ => simp [dec] at h
  | b0 :: t, hb =>
    obtain ⟨⟨g0, g1⟩, ht⟩ := hb.cons
    unfold dec at h
    by_cases h1 : b0 < 128
    · simp only [if_pos h1, Option.some.injEq, Prod.mk.injEq] at h
      obtain ⟨rfl, rfl⟩ := h
      have := encOf_char ((m1 b0 t g0 g1).mpr h1)
      exact ⟨by decide, by decide, by simp, this.1, this.2⟩
    · simp only [if_neg h1] at h
      by_cases h2 : b0 < 194
      · simp [h2] at h
      · simp only [if_neg h2] at h
        by_cases h3 : b0 > 244
        · simp only [if_pos h3] at h; cases h
        · simp only [if_neg h3] at h
          by_cases h4 : b0 < 224
          · simp only [if_pos h4] at h
            match t, ht with
            | [], _ => cases h
            | b1 :: t1, ht =>
              obtain ⟨⟨k0, k1⟩, ht1⟩ := ht.cons
              simp only at h
              split at h
              · rename_i c1
                simp only [Option.some.injEq, Prod.mk.injEq] at h
                obtain ⟨rfl, rfl⟩ := h
                have := encOf_char ((m2 b0 b1 t1 g0 g1 k0 k1).mpr ⟨by omega, by omega, c1⟩)
                rw [show b0 % 32 * 64 + b1 % 64 = (b0 - 192) * 64 + (b1 - 128) by omega] at this
                exact ⟨by decide, by decide, by simp, this.1, this.2⟩
              · cases h
          · simp only [if_neg h4] at h
            by_cases h5 : b0 < 240
            · simp only [if_pos h5] at h
              match t, ht with
              | [], _ => cases h
              | [b1], _ => cases h
              | b1 :: b2 :: t2, ht =>
                obtain ⟨⟨k0, k1⟩, ht1⟩ := ht.cons
                obtain ⟨⟨q0, q1⟩, ht2⟩ := ht1.cons
                simp only at h
                split at h
                · rename_i c1
                  simp only [Option.some.injEq, Prod.mk.injEq] at h
                  obtain ⟨rfl, rfl⟩ := h
                  have hb1 : 128 ≤ b1 ∧ b1 ≤ 191 := by
                    have := c1.1; have := c1.2.1; unfold lowOf at *; unfold highOf at *; split at * <;> split at * <;> omega
                  have := encOf_char ((m3 b0 b1 b2 t2 g0 g1 k0 k1 q0 q1).mpr ⟨by omega, by omega, c1⟩)
                  rw [show (b0 % 16 * 64 + b1 % 64) * 64 + b2 % 64 = (b0 - 224) * 4096 + (b1 - 128) * 64 + (b2 - 128) by omega] at this
                  exact ⟨by decide, by decide, by simp, this.1, this.2⟩
                · cases h
            · simp only [if_neg h5] at h
              match t, ht with
              | [], _ => cases h
              | [b1], _ => cases h
              | [b1, b2], _ => cases h
              | b1 :: b2 :: b3 :: t3, ht =>
                obtain ⟨⟨k0, k1⟩, ht1⟩ := ht.cons
                obtain ⟨⟨q0, q1⟩, ht2⟩ := ht1.cons
                obtain ⟨⟨s0, s1⟩, ht3⟩ := ht2.cons
                simp only at h
                split at h
                · rename_i c1
                  simp only [Option.some.injEq, Prod.mk.injEq] at h
                  obtain ⟨rfl, rfl⟩ := h
                  have hb1 : 128 ≤ b1 ∧ b1 ≤ 191 := by
                    have := c1.1; have := c1.2.1; unfold lowOf at *; unfold highOf at *; split at * <;> split at * <;> omega
                  have := encOf_char ((m4 b0 b1 b2 b3 t3 g0 g1 k0 k1 q0 q1 s0 s1).mpr ⟨by omega, by omega, c1⟩)
                  rw [show ((b0 % 8 * 64 + b1 % 64) * 64 + b2 % 64) * 64 + b3 % 64 = (b0 - 240) * 262144 + (b1 - 128) * 4096 + (b2 - 128) * 64 + (b3 - 128) by omega] at this
                  exact ⟨by decide, by decide, by simp, this.1, this.2⟩
                · cases h
/-- Both decoders at a place: the character, or each some fault. -/
theorem both_dec (l : List Int) (hb : Bytes l) (i : Nat) (hi : i < l.length) :
    (∃ (c : Int) (n : Nat), dec (l.drop i) = some (c, n) ∧ 1 ≤ n ∧ n ≤ 4 ∧ i + n ≤ l.length ∧ isChar c ∧ bytesOfChar c = (l.drop i).take n ∧ Ev (fun k => runes_Decode.f k l i) (c, (n : Int), 0) ∧ Ev (fun k => colophonref01_Decode.f k l i) (c, (n : Int), 0))
    ∨ (dec (l.drop i) = none ∧ (∃ e : Int, e ≠ 0 ∧ Ev (fun k => runes_Decode.f k l i) (0, 0, e)) ∧ (∃ e : Int, e ≠ 0 ∧ Ev (fun k => colophonref01_Decode.f k l i) (0, 0, e))) := by
  obtain ⟨r, hr, hd⟩ := runes_dec l hb i hi
  obtain ⟨r', hr', hd'⟩ := ref_dec l hb i hi
  cases h : dec (l.drop i) with
  | none =>
    rw [h] at hd hd'
    obtain ⟨x, y, z⟩ := r
    obtain ⟨x', y', z'⟩ := r'
    obtain ⟨rfl, rfl, hz⟩ := hd
    obtain ⟨rfl, rfl, hz'⟩ := hd'
    exact .inr ⟨rfl, ⟨z, hz, hr⟩, ⟨z', hz', hr'⟩⟩
  | some p =>
    obtain ⟨c, n⟩ := p
    rw [h] at hd hd'
    have hs := dec_spec _ (hb.drop i) c n h
    subst hd
    subst hd'
    refine .inl ⟨c, n, rfl, hs.1, hs.2.1, ?_, hs.2.2.2.1, hs.2.2.2.2, hr, hr'⟩
    have := hs.2.2.1
    rw [List.length_drop] at this
    omega
/-- UTF-8, from a place on. -/
def val : Nat → List Int → Bool
  | 0, l => l.isEmpty
  | f + 1, l => if l.isEmpty then true else match dec l with
    | some (_, n) => val f (l.drop n)
    | none => false
theorem check_loop (l : List Int) (hb : Bytes l) (hl : l.length ≤ 140737488355328) (f : Nat) : ∀ i : Nat, i ≤ l.length → l.length ≤ i + f →
    (∃ a e, Ev (fun k => runes_Check.l0 k l i) (a, e) ∧ (e = 0 ↔ val f (l.drop i) = true)) ∧ (∃ a e, Ev (fun k => colophonref01_Check.l0 k l i) (a, e) ∧ (e = 0 ↔ val f (l.drop i) = true)) := by
  induction f with
  | zero =>
    intro i hi hf
    have he : l.drop i = [] := List.drop_eq_nil_of_le (by omega)
    refine ⟨⟨i, 0, Ev.step (f := fun _ => some _) (fun k => ?_) (Ev.now _), by simp [val, he]⟩, ⟨i, 0, Ev.step (f := fun _ => some _) (fun k => ?_) (Ev.now _), by simp [val, he]⟩⟩
    · simp only [runes_Check.l0]; rw [if_neg (by omega)]
    · simp only [colophonref01_Check.l0]; rw [if_neg (by omega)]
  | succ f ih =>
    intro i hi hf
    by_cases hlt : i < l.length
    · have hne : (l.drop i).isEmpty = false := by rw [List.isEmpty_eq_false_iff]; intro h; have := congrArg List.length h; simp at this; omega
      rcases both_dec l hb i hlt with ⟨c, n, h, h1, h4, hn, hc, hx, ha, hb'⟩ | ⟨h, ⟨e, he, ha⟩, ⟨e', he', hb'⟩⟩
      · obtain ⟨⟨a1, e1, k1, g1⟩, ⟨a2, e2, k2, g2⟩⟩ := ih (i + n) hn (by omega)
        have hv : val (f + 1) (l.drop i) = val f (l.drop (i + n)) := by
          simp only [val, hne, Bool.false_eq_true, if_false, h]
          rw [List.drop_drop]
        rw [hv]
        refine ⟨⟨a1, e1, Ev.step (f := fun k => (runes_Decode.f k l i).bind fun bt111 => (if bt111.2.2 = 0 then (runes_Check.l0 k l (wrap64 ((i : Int) + bt111.2.1))) else (some ((i : Int), bt111.2.2)))) (fun k => ?_) (Ev.bind ha ?_), g1⟩, ⟨a2, e2, Ev.step (f := fun k => (colophonref01_Decode.f k l i).bind fun bt193 => (if bt193.2.2 = 0 then (colophonref01_Check.l0 k l (wrap64 ((i : Int) + bt193.2.1))) else (some ((i : Int), bt193.2.2)))) (fun k => ?_) (Ev.bind hb' ?_), g2⟩⟩
        · simp only [runes_Check.l0]; rw [if_pos (by omega)]
        · simp only [if_true]
          rw [wrap_nat (by omega) (by omega)]
          exact k1
        · simp only [colophonref01_Check.l0]; rw [if_pos (by omega)]
        · simp only [if_true]
          rw [wrap_nat (by omega) (by omega)]
          exact k2
      · have hv : val (f + 1) (l.drop i) = false := by simp only [val, hne, Bool.false_eq_true, if_false, h]
        rw [hv]
        refine ⟨⟨i, e, Ev.step (f := fun k => (runes_Decode.f k l i).bind fun bt111 => (if bt111.2.2 = 0 then (runes_Check.l0 k l (wrap64 ((i : Int) + bt111.2.1))) else (some ((i : Int), bt111.2.2)))) (fun k => ?_) (Ev.bind ha ?_), by simp [he]⟩, ⟨i, e', Ev.step (f := fun k => (colophonref01_Decode.f k l i).bind fun bt193 => (if bt193.2.2 = 0 then (colophonref01_Check.l0 k l (wrap64 ((i : Int) + bt193.2.1))) else (some ((i : Int), bt193.2.2)))) (fun k => ?_) (Ev.bind hb' ?_), by simp [he']⟩⟩
        · simp only [runes_Check.l0]; rw [if_pos (by omega)]
        · simp only [if_neg he]; exact Ev.now _
        · simp only [colophonref01_Check.l0]; rw [if_pos (by omega)]
        · simp only [if_neg he']; exact Ev.now _
    · have he : l.drop i = [] := List.drop_eq_nil_of_le (by omega)
      refine ⟨⟨i, 0, Ev.step (f := fun _ => some _) (fun k => ?_) (Ev.now _), by simp [val, he]⟩, ⟨i, 0, Ev.step (f := fun _ => some _) (fun k => ?_) (Ev.now _), by simp [val, he]⟩⟩
      · simp only [runes_Check.l0]; rw [if_neg (by omega)]
      · simp only [colophonref01_Check.l0]; rw [if_neg (by omega)]
def utf (l : List Int) : Bool := val l.length l
theorem check_ev (l : List Int) (hb : Bytes l) (hl : l.length ≤ 140737488355328) :
    (∃ a e, Ev (fun k => runes_Check.f k l) (a, e) ∧ (e = 0 ↔ utf l = true)) ∧ (∃ a e, Ev (fun k => colophonref01_Check.f k l) (a, e) ∧ (e = 0 ↔ utf l = true)) := by
  have := check_loop l hb hl l.length 0 (by omega) (by omega)
  simpa [runes_Check.f, colophonref01_Check.f, utf] using this
end Go.Proofs.YtjioglaobabmmaaDoor.Pure
