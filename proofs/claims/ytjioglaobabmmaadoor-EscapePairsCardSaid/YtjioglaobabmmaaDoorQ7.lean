/- The document's escape at a place, and both readers of a string. -/
import Derived.Test.YtjioglaobabmmaaDoorP6
import Derived.Test.YtjioglaobabmmaaDoorP7
import Derived.Test.YtjioglaobabmmaaDoorQ6
namespace Go.Proofs.YtjioglaobabmmaaDoor.Pure
open Go.RowKit Go.Proofs.YtjioglaobabmmaaDoor.P Go.Proofs.YtjioglaobabmmaaDoorW.PrintWords
set_option linter.unusedVariables false
set_option linter.unusedSimpArgs false
theorem unitR_at (l : List Int) (j : Nat) : if j + 1 < l.length ∧ rd l (j : Int) = 92 ∧ rd l ((j + 1 : Nat) : Int) = 117 then unitR (l.drop j) = fourR 4 (l.drop (j + 2)) 0 else (unitR (l.drop j)).2 ≠ 0 := by
  by_cases h0 : j < l.length
  · rw [drop_rd h0]
    by_cases h1 : j + 1 < l.length
    · rw [drop_rd h1]
      by_cases a : rd l (j : Int) = 92
      · by_cases b : rd l ((j + 1 : Nat) : Int) = 117
        · rw [if_pos ⟨h1, a, b⟩]
          simp only [unitR, a, b, if_true]
        · rw [if_neg (fun h => b h.2.2)]
          simp only [unitR, a, if_true, if_neg b]
          decide
      · rw [if_neg (fun h => a h.2.1)]
        simp only [unitR, if_neg a]
        decide
    · rw [if_neg (fun h => h1 h.1), show l.drop (j + 1) = [] from List.drop_eq_nil_of_le (by omega)]
      simp only [unitR]
      split <;> decide
  · rw [if_neg (by omega), List.drop_eq_nil_of_le (by omega)]
    simp only [unitR]
    decide
theorem long_ev (c : Int) (h0 : 0 ≤ c) (h1 : c ≤ 255) : Ev (fun k => colophonref08_long.f k c) (match letR c with | some v => v | none => -1) := by
  obtain ⟨n, rfl⟩ := Int.eq_ofNat_of_zero_le h0
  have : ∀ n : Nat, n < 256 → colophonref08_long.f 1 (n : Int) = some (match letR (n : Int) with | some v => v | none => -1) := by decide +kernel
  exact Ev.of (fun k => colophonref08_long.mono _ k) (this n (by omega))
theorem letR_nonneg {c v : Int} (h0 : 0 ≤ c) (h : letR c = some v) : 0 ≤ v := by
  unfold letR at h
  repeat' split at h
  all_goals (cases h <;> omega)
theorem ref_esc (l : List Int) (hb : Bytes l) (hl : l.length ≤ 140737488355328) (i : Nat) (hi : i < l.length) (h92 : rd l (i : Int) = 92) :
    ∃ r, Ev (fun k => colophonref08_escape.f k l i) r ∧ r.2.2 = (escR (l.drop i)).2.2 ∧ (r.2.2 = 0 → r = escR (l.drop i)) := by
  unfold colophonref08_escape.f escR
  have w1 : wrap64 ((i : Int) + 1) = ((i + 1 : Nat) : Int) := by rw [wrap_nat (by omega) (by omega)]; rfl
  have w2 : wrap64 ((i : Int) + 2) = ((i + 2 : Nat) : Int) := by rw [wrap_nat (by omega) (by omega)]; rfl
  have w6 : wrap64 ((i : Int) + 6) = ((i + 6 : Nat) : Int) := by rw [wrap_nat (by omega) (by omega)]; rfl
  have w7 : wrap64 ((i : Int) + 7) = ((i + 7 : Nat) : Int) := by rw [wrap_nat (by omega) (by omega)]; rfl
  have w8 : wrap64 ((i : Int) + 8) = ((i + 8 : Nat) : Int) := by rw [wrap_nat (by omega) (by omega)]; rfl
  simp only [w1, w2]
  by_cases h1 : i + 1 < l.length
  · simp only [if_neg (show ¬ (((i + 1 : Nat) : Int) ≥ (l.length : Int)) by omega), if_pos (show (0 : Int) ≤ ((i + 1 : Nat) : Int) by omega), if_pos (show ((i + 1 : Nat) : Int) < (l.length : Int) by omega), if_neg (show ¬ (l.drop i).length < 2 by rw [List.length_drop]; omega)]
    have hrd : rd (l.drop i) 1 = rd l ((i + 1 : Nat) : Int) := by
      rw [drop_rd hi, drop_rd h1]; rfl
    rw [hrd]
    have hby := rd_byte hb h1
    have hU := unitR_at l i
    by_cases c : rd l ((i + 1 : Nat) : Int) = 117
    · rw [if_pos ⟨h1, h92, c⟩] at hU
      simp only [if_pos c]
      rw [c, show letR 117 = none from by decide]
      simp only
      rw [hU]
      have hr := fourR_range 4 (l.drop (i + 2)) 0 1 (by decide) (by decide) (by decide)
      have hf : Ev (fun k => colophonref08_four.f k l ((i + 2 : Nat) : Int)) (fourR 4 (l.drop (i + 2)) 0) := by
        have := four_ev l hb (i + 2) (by omega) 4 0 0 rfl (by decide) (by decide)
        simpa [colophonref08_four.f] using this
      generalize fourR 4 (l.drop (i + 2)) 0 = u at hr hf ⊢
      obtain ⟨n, e⟩ := u
      simp only at hr ⊢
      have hr' : 0 ≤ n ∧ n < 65536 := by simpa using hr
      by_cases he : e = 0
      · subst he
        simp only [ne_eq, not_true_eq_false, if_false]
        by_cases q : n < 55296 ∨ 57343 < n
        · simp only [if_pos q]
          refine ⟨(n, 6, 0), Ev.bind hf ?_, rfl, fun _ => rfl⟩
          simp only [if_true]
          by_cases q1 : n < 55296
          · simp only [if_pos q1]
            refine Ev.step (f := fun _ => some (n, 6, 0)) (fun k => ?_) (Ev.now _)
            simp only [colophonref08_escape.j0, if_true]
          · simp only [if_neg q1, decide_eq_true (show n > 57343 by omega)]
            refine Ev.step (f := fun _ => some (n, 6, 0)) (fun k => ?_) (Ev.now _)
            simp only [colophonref08_escape.j0, if_true]
        · simp only [if_neg q]
          have hd6 : (l.drop i).drop 6 = l.drop (i + 6) := by rw [List.drop_drop]
          rw [hd6]
          have hV := unitR_at l (i + 6)
          -- what the document does from here
          have fin : ∀ r : Int × Int × Int, Ev (fun k => colophonref08_escape.j0 k l i n false) r → Ev (fun n_1 => (fun bt285 : Int × Int => if bt285.2 = 0 then if bt285.1 < 55296 then colophonref08_escape.j0 n_1 l (↑i) bt285.1 true else colophonref08_escape.j0 n_1 l (↑i) bt285.1 (decide (bt285.1 > 57343)) else some (0, 0, bt285.2)) (n, 0)) r := by
            intro r hr
            simp only [if_true, if_neg (show ¬ n < 55296 by omega), decide_eq_false (show ¬ n > 57343 by omega)]
            exact hr
          have lone : Ev (fun k => colophonref08_escape.j1 k l i n false) (65533, 6, 0) := by
            refine Ev.step (f := fun _ => some (65533, 6, 0)) (fun k => ?_) (Ev.now _)
            simp only [colophonref08_escape.j1, Bool.false_eq_true, if_false]
          by_cases p : i + 7 < l.length ∧ rd l ((i + 6 : Nat) : Int) = 92 ∧ rd l ((i + 7 : Nat) : Int) = 117
          · rw [if_pos (show i + 6 + 1 < l.length ∧ rd l ((i + 6 : Nat) : Int) = 92 ∧ rd l ((i + 6 + 1 : Nat) : Int) = 117 from p)] at hV
            rw [hV]
            have hf2 : Ev (fun k => colophonref08_four.f k l ((i + 8 : Nat) : Int)) (fourR 4 (l.drop (i + 6 + 2)) 0) := by
              have := four_ev l hb (i + 8) (by omega) 4 0 0 rfl (by decide) (by decide)
              simpa [colophonref08_four.f] using this
            have hr2 := fourR_range 4 (l.drop (i + 6 + 2)) 0 1 (by decide) (by decide) (by decide)
            generalize fourR 4 (l.drop (i + 6 + 2)) 0 = v at hf2 hr2 ⊢
            obtain ⟨m, e2⟩ := v
            have hr2' : 0 ≤ m ∧ m < 65536 := by simpa using hr2
            simp only
            by_cases q3 : n ≤ 56319
            · have go : ∀ r : Int × Int × Int, Ev (fun k => (fun bt289 : Int × Int => (if bt289.2 = 0 then (if bt289.1 ≥ 56320 then (if bt289.1 ≤ 57343 then (some (wrap64 ((wrap64 ((wrap64 (65536 + (wrap64 (1024 * (wrap64 (n - 55296)))))) + bt289.1)) - 56320), 12, 0)) else (some (65533, 6, 0))) else (some (65533, 6, 0))) else (some ((65533 : Int), (6 : Int), (0 : Int))))) (m, e2)) r → Ev (fun k => colophonref08_escape.j0 k l i n false) r := by
                intro r hr
                refine Ev.step (f := fun k => colophonref08_escape.j1 k l i n true) (fun k => ?_) (Ev.step (f := fun k => (colophonref08_four.f k l ((i + 8 : Nat) : Int)).bind fun bt289 => (if bt289.2 = 0 then (if bt289.1 ≥ 56320 then (if bt289.1 ≤ 57343 then (some (wrap64 ((wrap64 ((wrap64 (65536 + (wrap64 (1024 * (wrap64 (n - 55296)))))) + bt289.1)) - 56320), 12, 0)) else (some (65533, 6, 0))) else (some (65533, 6, 0))) else (some (65533, 6, 0)))) (fun k => ?_) (Ev.bind hf2 hr))
                · simp only [colophonref08_escape.j0, Bool.false_eq_true, if_false]
                  rw [if_pos q3, w7, w6, if_pos (by omega), if_pos (by omega), if_pos (by omega), if_pos p.2.1, if_pos (by omega), p.2.2]
                  rfl
                · simp only [colophonref08_escape.j1, if_true]
                  rw [w8]
              by_cases r1 : e2 = 0
              · by_cases r3 : m ≥ 56320
                · by_cases r4 : m ≤ 57343
                  · rw [if_pos (⟨r1, by omega, r3, r4⟩ : e2 = 0 ∧ n < 56320 ∧ 56320 ≤ m ∧ m ≤ 57343)]
                    refine ⟨_, Ev.bind hf (fin _ (go _ ?_)), rfl, fun _ => rfl⟩
                    simp only [if_pos r1, if_pos r3, if_pos r4]
                    rw [wrap_nat (i := n - 55296) (by omega) (by omega), wrap_nat (i := 1024 * (n - 55296)) (by omega) (by omega), wrap_nat (i := 65536 + 1024 * (n - 55296)) (by omega) (by omega), wrap_nat (i := 65536 + 1024 * (n - 55296) + m) (by omega) (by omega), wrap_nat (by omega) (by omega)]
                    rw [Int.mul_comm 1024]
                    exact Ev.now _
                  · rw [if_neg (fun h => r4 h.2.2.2)]
                    refine ⟨_, Ev.bind hf (fin _ (go _ ?_)), rfl, fun _ => rfl⟩
                    simp only [if_pos r1, if_pos r3, if_neg r4]
                    exact Ev.now _
                · rw [if_neg (fun h => r3 h.2.2.1)]
                  refine ⟨_, Ev.bind hf (fin _ (go _ ?_)), rfl, fun _ => rfl⟩
                  simp only [if_pos r1, if_neg r3]
                  exact Ev.now _
              · rw [if_neg (fun h => r1 h.1)]
                refine ⟨_, Ev.bind hf (fin _ (go _ ?_)), rfl, fun _ => rfl⟩
                simp only [if_neg r1]
                exact Ev.now _
            · rw [if_neg (fun h => by have := h.2.1; omega)]
              refine ⟨_, Ev.bind hf (fin _ (Ev.step (fun k => ?_) lone)), rfl, fun _ => rfl⟩
              simp only [colophonref08_escape.j0, Bool.false_eq_true, if_false]
              rw [if_neg q3]
          · rw [if_neg (show ¬ (i + 6 + 1 < l.length ∧ rd l ((i + 6 : Nat) : Int) = 92 ∧ rd l ((i + 6 + 1 : Nat) : Int) = 117) from p)] at hV
            rw [if_neg (fun h => hV h.1)]
            refine ⟨_, Ev.bind hf (fin _ (Ev.step (fun k => ?_) lone)), rfl, fun _ => rfl⟩
            simp only [colophonref08_escape.j0, Bool.false_eq_true, if_false]
            by_cases q3 : n ≤ 56319
            · rw [if_pos q3, w7, w6]
              by_cases p1 : i + 7 < l.length
              · rw [if_pos (by omega), if_pos (by omega), if_pos (by omega)]
                by_cases p2 : rd l ((i + 6 : Nat) : Int) = 92
                · rw [if_pos p2, if_pos (by omega), beq_eq_false_iff_ne.mpr (fun h => p ⟨p1, p2, h⟩)]
                · rw [if_neg p2]
              · rw [if_neg (by omega)]
            · rw [if_neg q3]
      · simp only [if_pos (show e ≠ 0 from he)]
        refine ⟨(0, 0, e), Ev.bind hf ?_, rfl, fun h => absurd h he⟩
        simp only [if_neg he]
        exact Ev.now _
    · simp only [if_neg c]
      have hlg := long_ev (rd l ((i + 1 : Nat) : Int)) hby.1 hby.2
      cases hlt : letR (rd l ((i + 1 : Nat) : Int)) with
      | some v =>
        rw [hlt] at hlg
        have hv := letR_nonneg hby.1 hlt
        refine ⟨(v, 2, 0), Ev.bind hlg ?_, rfl, fun _ => rfl⟩
        simp only [if_neg (show ¬ v < 0 by omega)]
        exact Ev.now _
      | none =>
        rw [hlt] at hlg
        have hun : unitR (l.drop i) = (0, 80) := by
          rw [drop_rd hi, drop_rd h1]
          simp only [unitR, h92, if_true, if_neg c]
        refine ⟨(0, 0, 80), Ev.bind hlg ?_, ?_, fun h => absurd h (by decide)⟩
        · simp only [show ((-1 : Int) < 0) by decide, if_true]
          exact Ev.now _
        · simp only [hun]
          rw [if_pos (show (80 : Int) ≠ 0 by decide)]
  · simp only [if_pos (show (((i + 1 : Nat) : Int) ≥ (l.length : Int)) by omega), if_pos (show (l.drop i).length < 2 by rw [List.length_drop]; omega)]
    exact ⟨(0, 0, 3), Ev.now _, rfl, fun _ => rfl⟩
end Go.Proofs.YtjioglaobabmmaaDoor.Pure
