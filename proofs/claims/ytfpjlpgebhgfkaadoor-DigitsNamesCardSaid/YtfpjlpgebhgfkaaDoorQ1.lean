/- Plain facts on the printed functions of the Digits laws. -/
import Derived.Test.YtfpjlpgebhgfkaaDoorP3
import Derived.DataShut
namespace Go.Proofs.YtfpjlpgebhgfkaaDoor.Pure
open Go.RowKit Go.Proofs.YtfpjlpgebhgfkaaDoor.P Go.Proofs.YtfpjlpgebhgfkaaDoorW.PrintWords
set_option linter.unusedSimpArgs false
set_option linter.unusedVariables false

theorem wrap_nat {i : Int} (h0 : -9223372036854775808 ≤ i) (h : i < 9223372036854775808) : wrap64 i = i := by unfold wrap64; omega
theorem int_range {n : Int} (h : (Lit.int .i64 n).wf = true) : -9223372036854775808 ≤ n ∧ n ≤ 9223372036854775807 := by
  have := (Lit.wf_int_iff _ _).1 h
  simpa [IntKind.min, IntKind.max, IntKind.bits, IntKind.signed] using this
theorem byte_range {n : Int} (h : (Lit.int .u8 n).wf = true) : 0 ≤ n ∧ n ≤ 255 := by
  have := (Lit.wf_int_iff _ _).1 h
  simpa [IntKind.min, IntKind.max, IntKind.bits, IntKind.signed] using this
theorem copy_some (l : List Int) (h : l.length * 1 ≤ 140737488351232) : colophonref00_CopyBytes.f l = some l := by
  unfold colophonref00_CopyBytes.f
  rw [if_pos (by simp; omega)]
  simp
theorem itoa0 : strconv_Itoa_27.f 0 = some ⟨#[48]⟩ := by simp [strconv_Itoa_27.f, Lib.itoa, Lib.decDigits]
theorem itoa907 : strconv_Itoa_27.f 907 = some ⟨#[57, 48, 55]⟩ := by simp [strconv_Itoa_27.f, Lib.itoa, Lib.decDigits]
theorem awake_true : colophonlaw05_awake.f 10 = some true := by
  unfold colophonlaw05_awake.f digits_Text.f
  rw [itoa0, itoa907]
  decide +kernel
theorem awake_ev : Ev (fun k => (colophonlaw05_awake.f k).bind fun t => some t) true :=
  Ev.bind (Ev.of (fun k => colophonlaw05_awake.mono k) awake_true) (Ev.now true)

/-- How many digits stand at a place. -/
def runAt (l : List Int) (a : Int) : Int := if a < 0 then 0 else if (l.length : Int) ≤ a then 0 else runLen (l.drop a.toNat)
theorem run_is (l : List Int) (a : Int) : digits_Run.f l a = some (runAt l a) := by
  unfold digits_Run.f runAt
  split
  · rfl
  · split <;> rfl
theorem digit_is (c : Int) : colophonref05_digit.f c = some (isDig c) := by
  unfold colophonref05_digit.f isDig
  by_cases h : c ≥ 48
  · rw [if_pos h]; simp [h]
  · rw [if_neg h]; simp [h]
theorem runLen_cons (c : Int) (l : List Int) : runLen (c :: l) = if isDig c = true then runLen l + 1 else 0 := by
  by_cases h : isDig c = true <;> simp [runLen, h]
theorem drop_at {l : List Int} {i : Nat} (h : i < l.length) : l.drop i = rd l i :: l.drop (i + 1) := by
  rw [List.drop_eq_getElem_cons h]
  simp [rd, List.getD, h]
theorem refRun_loop (l : List Int) (hl : l.length ≤ 140737488351232) (d : Nat) : ∀ (c i : Nat), i + d = l.length → c ≤ i →
    Ev (fun k => colophonref05_Run.l0 k l c i) ((c + runLen (l.drop i) : Nat) : Int) := by
  induction d with
  | zero =>
    intro c i h _
    refine Ev.step (f := fun _ => some (((c + runLen (l.drop i) : Nat) : Int))) (fun k => ?_) (Ev.now _)
    simp only [colophonref05_Run.l0]
    rw [if_pos (by omega), if_neg (by omega), List.drop_eq_nil_of_le (by omega)]
    simp [runLen]
  | succ d ih =>
    intro c i h hc
    have hlt : i < l.length := by omega
    by_cases hd : isDig (rd l i) = true
    · refine Ev.step (f := fun k => colophonref05_Run.l0 k l ((c + 1 : Nat) : Int) ((i + 1 : Nat) : Int)) (fun k => ?_) ?_
      · simp only [colophonref05_Run.l0]
        rw [if_pos (by omega), if_pos (by omega), if_pos (by omega), digit_is, hd]
        simp only [Option.bind_some, if_true]
        rw [wrap_nat (by omega) (by omega), wrap_nat (by omega) (by omega)]
        rfl
      · have := ih (c + 1) (i + 1) (by omega) (by omega)
        rw [drop_at hlt, runLen_cons, if_pos hd]
        rw [show c + (runLen (l.drop (i + 1)) + 1) = c + 1 + runLen (l.drop (i + 1)) by omega]
        exact this
    · refine Ev.step (f := fun _ => some (((c + runLen (l.drop i) : Nat) : Int))) (fun k => ?_) (Ev.now _)
      simp only [colophonref05_Run.l0]
      rw [if_pos (by omega), if_pos (by omega), if_pos (by omega), digit_is, Option.bind_some, if_neg hd, drop_at hlt, runLen_cons, if_neg hd]
      rfl
theorem refRun_ev (l : List Int) (hl : l.length * 1 ≤ 140737488351232) (a : Int) : Ev (fun k => colophonref05_Run.f k l a) (runAt l a) := by
  unfold colophonref05_Run.f runAt
  by_cases h1 : a < 0
  · rw [if_pos h1]
    refine Ev.step (f := fun _ => some 0) (fun k => ?_) (Ev.now _)
    simp only [colophonref05_Run.l0]
    rw [if_neg (by omega)]
  · rw [if_neg h1]
    by_cases h2 : (l.length : Int) ≤ a
    · rw [if_pos h2]
      refine Ev.step (f := fun _ => some 0) (fun k => ?_) (Ev.now _)
      simp only [colophonref05_Run.l0]
      rw [if_pos (by omega), if_neg (by omega)]
    · rw [if_neg h2]
      obtain ⟨i, rfl⟩ := Int.eq_ofNat_of_zero_le (show 0 ≤ a by omega)
      have := refRun_loop l (by omega) (l.length - i) 0 i (by omega) (by omega)
      simpa using this
theorem eqb_loop (l : List Int) (hl : l.length ≤ 140737488351232) (d : Nat) : ∀ i : Nat, i + d = l.length → Ev (fun k => colophonref00_EqBytes.l0 k l l i) true := by
  induction d with
  | zero =>
    intro i h
    refine Ev.step (f := fun _ => some true) (fun k => ?_) (Ev.now _)
    simp only [colophonref00_EqBytes.l0]
    rw [if_neg (by omega)]
  | succ d ih =>
    intro i h
    refine Ev.step (f := fun k => colophonref00_EqBytes.l0 k l l ((i + 1 : Nat) : Int)) (fun k => ?_) (ih (i + 1) (by omega))
    simp only [colophonref00_EqBytes.l0]
    rw [if_pos (by omega), if_pos (by omega), if_pos (by omega), if_pos trivial, wrap_nat (by omega) (by omega)]
    rfl
theorem eqb_ev (l : List Int) (hl : l.length * 1 ≤ 140737488351232) : Ev (fun k => colophonref00_EqBytes.f k l l) true := by
  unfold colophonref00_EqBytes.f
  simp only [if_true]
  exact eqb_loop l (by omega) l.length 0 (by omega)
end Go.Proofs.YtfpjlpgebhgfkaaDoor.Pure
