/- A text of the laws: sixty characters at most. -/
import Derived.Test.YtjioglaobabmmaaDoorP11
import Derived.Test.YtjioglaobabmmaaDoorQB
namespace Go.Proofs.YtjioglaobabmmaaDoor.Pure
open Go.RowKit Go.Proofs.YtjioglaobabmmaaDoor.P Go.Proofs.YtjioglaobabmmaaDoorW.PrintWords
set_option linter.unusedVariables false
set_option linter.unusedSimpArgs false
theorem text_loop (l : List Int) (hl : l.length < 4611686018427387904) (d : Nat) : ∀ (i : Nat) (cs : List Int), i + d = 60 → (∀ c ∈ cs, isChar c) → cs.length ≤ i →
    ∃ cs', (∀ c ∈ cs', isChar c) ∧ cs'.length ≤ 60 ∧ Ev (fun k => colophonlaw08_text.l0 k l (chs cs) i) (strOfNums (chs cs')) := by
  induction d with
  | zero =>
    intro i cs hi hc hn
    refine ⟨cs, hc, by omega, ?_⟩
    have hj : Ev (fun k => colophonlaw08_text.j1 k l (chs cs) i false) (strOfNums (chs cs)) := Ev.step (f := fun _ => some _) (fun k => by simp only [colophonlaw08_text.j1, Bool.false_eq_true, if_false]) (Ev.now _)
    refine Ev.step (f := fun k => colophonlaw08_text.j1 k l (chs cs) i false) (fun k => ?_) hj
    simp only [colophonlaw08_text.l0]
    rw [show decide ((i : Int) < 60) = false from decide_eq_false (by omega)]
    split <;> rfl
  | succ d ih =>
    intro i cs hi hc hn
    have hcl := chs_len cs
    by_cases h : i < l.length
    · obtain ⟨x, hx, hx0, hx1⟩ := bring_at (rd l i) 1114112 (by decide) (by decide)
      have key : ∀ c, isChar c → encOf x = encOf x → ∃ cs', (∀ c ∈ cs', isChar c) ∧ cs'.length ≤ 60 ∧ Ev (fun k => colophonlaw08_text.l0 k l (chs cs ++ bytesOfChar c) (wrap64 ((i : Int) + 1))) (strOfNums (chs cs')) := by
        intro c hcc _
        have := ih (i + 1) (cs ++ [c]) (by omega) (fun y hy => by
          rcases List.mem_append.mp hy with g | g
          · exact hc y g
          · simp at g; subst g; exact hcc) (by rw [List.length_append, List.length_cons, List.length_nil]; omega)
        rw [chs_append, show chs [c] = bytesOfChar c from by simp [chs]] at this
        rw [wrap_nat (by omega) (by omega)]
        exact this
      have step : ∀ r, Ev (fun k => colophonlaw08_text.j1 k l (chs cs) i true) r → Ev (fun k => colophonlaw08_text.l0 k l (chs cs) i) r := by
        intro r hr
        refine Ev.step (fun k => ?_) hr
        simp only [colophonlaw08_text.l0]
        rw [if_pos (by omega), show decide ((i : Int) < 60) = true from decide_eq_true (by omega)]
      by_cases hch : isChar x
      · obtain ⟨cs', h1, h2, h3⟩ := key x hch rfl
        refine ⟨cs', h1, h2, step _ (Ev.step (fun k => ?_) h3)⟩
        have hlx := char_len x
        simp only [colophonlaw08_text.j1, if_true]
        rw [if_pos (by omega), if_pos (by omega), hx]
        simp only [Option.bind_some, enc_is, encOf, if_pos hch, if_true]
        rw [if_pos (by omega)]
      · obtain ⟨cs', h1, h2, h3⟩ := key 120 (by decide) rfl
        refine ⟨cs', h1, h2, step _ (Ev.step (fun k => ?_) h3)⟩
        simp only [colophonlaw08_text.j1, if_true]
        rw [if_pos (by omega), if_pos (by omega), hx]
        simp only [Option.bind_some, enc_is, encOf, if_neg hch]
        rw [if_neg (by decide), if_pos (by simp only [List.length_cons, List.length_nil]; omega)]
        rfl
    · refine ⟨cs, hc, by omega, ?_⟩
      have hj : Ev (fun k => colophonlaw08_text.j1 k l (chs cs) i false) (strOfNums (chs cs)) := Ev.step (f := fun _ => some _) (fun k => by simp only [colophonlaw08_text.j1, Bool.false_eq_true, if_false]) (Ev.now _)
      refine Ev.step (f := fun k => colophonlaw08_text.j1 k l (chs cs) i false) (fun k => ?_) hj
      simp only [colophonlaw08_text.l0]
      rw [if_neg (by omega)]
theorem text_ev (l : List Int) (hl : l.length < 4611686018427387904) : ∃ cs, (∀ c ∈ cs, isChar c) ∧ cs.length ≤ 60 ∧ Ev (fun k => colophonlaw08_text.f k l) (strOfNums (chs cs)) :=
  text_loop l hl 60 0 [] rfl (fun c hc => by cases hc) (Nat.le_refl _)
end Go.Proofs.YtjioglaobabmmaaDoor.Pure
