/- Plain facts: numbers, bytes, digits (as in the seat of Digits). -/
import Derived.Test.YtekmdbicobkffaaDoorP6
import Derived.DataShut
namespace Go.Proofs.YtekmdbicobkffaaDoor.Pure
open Go.RowKit Go.Proofs.YtekmdbicobkffaaDoor.P Go.Proofs.YtekmdbicobkffaaDoorW.PrintWords Go.Proofs.YtekmdbicobkffaaDoorW.PrintMore
set_option linter.unusedSimpArgs false
set_option linter.unusedVariables false
theorem wrap_nat {i : Int} (h0 : -9223372036854775808 ≤ i) (h : i < 9223372036854775808) : wrap64 i = i := by unfold wrap64; omega
theorem int_range {n : Int} (h : (Lit.int .i64 n).wf = true) : -9223372036854775808 ≤ n ∧ n ≤ 9223372036854775807 := by
  have := (Lit.wf_int_iff _ _).1 h
  simpa [IntKind.min, IntKind.max, IntKind.bits, IntKind.signed] using this
theorem byte_range {n : Int} (h : (Lit.int .u8 n).wf = true) : 0 ≤ n ∧ n ≤ 255 := by
  have := (Lit.wf_int_iff _ _).1 h
  simpa [IntKind.min, IntKind.max, IntKind.bits, IntKind.signed] using this
theorem copy_some (l : List Int) (h : l.length * 1 ≤ 140737488351232) : colophonref00_CopyBytes.f l = some l := by
  unfold colophonref00_CopyBytes.f
  rw [if_pos (by simp; omega)]
  simp
/-- How many digits stand at a place. -/
def runAt (l : List Int) (a : Int) : Int := if a < 0 then 0 else if (l.length : Int) ≤ a then 0 else runLen (l.drop a.toNat)
theorem run_is (l : List Int) (a : Int) : digits_Run.f l a = some (runAt l a) := by
  unfold digits_Run.f runAt
  split
  · rfl
  · split <;> rfl
theorem digit_is (c : Int) : colophonref05_digit.f c = some (isDig c) := by
  unfold colophonref05_digit.f isDig
  by_cases h : c ≥ 48
  · rw [if_pos h]; simp [h]
  · rw [if_neg h]; simp [h]
theorem runLen_cons (c : Int) (l : List Int) : runLen (c :: l) = if isDig c = true then runLen l + 1 else 0 := by
  by_cases h : isDig c = true <;> simp [runLen, h]
theorem drop_at {l : List Int} {i : Nat} (h : i < l.length) : l.drop i = rd l i :: l.drop (i + 1) := by
  rw [List.drop_eq_getElem_cons h]
  simp [rd, List.getD, h]
theorem refRun_loop (l : List Int) (hl : l.length ≤ 140737488351232) (d : Nat) : ∀ (c i : Nat), i + d = l.length → c ≤ i →
    Ev (fun k => colophonref05_Run.l0 k l c i) ((c + runLen (l.drop i) : Nat) : Int) := by
  induction d with
  | zero =>
    intro c i h _
    refine Ev.step (f := fun _ => some (((c + runLen (l.drop i) : Nat) : Int))) (fun k => ?_) (Ev.now _)
    simp only [colophonref05_Run.l0]
    rw [if_pos (by omega), if_neg (by omega), List.drop_eq_nil_of_le (by omega)]
    simp [runLen]
  | succ d ih =>
    intro c i h hc
    have hlt : i < l.length := by omega
    by_cases hd : isDig (rd l i) = true
    · refine Ev.step (f := fun k => colophonref05_Run.l0 k l ((c + 1 : Nat) : Int) ((i + 1 : Nat) : Int)) (fun k => ?_) ?_
      · simp only [colophonref05_Run.l0]
        rw [if_pos (by omega), if_pos (by omega), if_pos (by omega), digit_is, hd]
        simp only [Option.bind_some, if_true]
        rw [wrap_nat (by omega) (by omega), wrap_nat (by omega) (by omega)]
        rfl
      · have := ih (c + 1) (i + 1) (by omega) (by omega)
        rw [drop_at hlt, runLen_cons, if_pos hd]
        rw [show c + (runLen (l.drop (i + 1)) + 1) = c + 1 + runLen (l.drop (i + 1)) by omega]
        exact this
    · refine Ev.step (f := fun _ => some (((c + runLen (l.drop i) : Nat) : Int))) (fun k => ?_) (Ev.now _)
      simp only [colophonref05_Run.l0]
      rw [if_pos (by omega), if_pos (by omega), if_pos (by omega), digit_is, Option.bind_some, if_neg hd, drop_at hlt, runLen_cons, if_neg hd]
      rfl
theorem refRun_ev (l : List Int) (hl : l.length * 1 ≤ 140737488351232) (a : Int) : Ev (fun k => colophonref05_Run.f k l a) (runAt l a) := by
  unfold colophonref05_Run.f runAt
  by_cases h1 : a < 0
  · rw [if_pos h1]
    refine Ev.step (f := fun _ => some 0) (fun k => ?_) (Ev.now _)
    simp only [colophonref05_Run.l0]
    rw [if_neg (by omega)]
  · rw [if_neg h1]
    by_cases h2 : (l.length : Int) ≤ a
    · rw [if_pos h2]
      refine Ev.step (f := fun _ => some 0) (fun k => ?_) (Ev.now _)
      simp only [colophonref05_Run.l0]
      rw [if_pos (by omega), if_neg (by omega)]
    · rw [if_neg h2]
      obtain ⟨i, rfl⟩ := Int.eq_ofNat_of_zero_le (show 0 ≤ a by omega)
      have := refRun_loop l (by omega) (l.length - i) 0 i (by omega) (by omega)
      simpa using this
theorem eqb_loop (l : List Int) (hl : l.length ≤ 140737488351232) (d : Nat) : ∀ i : Nat, i + d = l.length → Ev (fun k => colophonref00_EqBytes.l0 k l l i) true := by
  induction d with
  | zero =>
    intro i h
    refine Ev.step (f := fun _ => some true) (fun k => ?_) (Ev.now _)
    simp only [colophonref00_EqBytes.l0]
    rw [if_neg (by omega)]
  | succ d ih =>
    intro i h
    refine Ev.step (f := fun k => colophonref00_EqBytes.l0 k l l ((i + 1 : Nat) : Int)) (fun k => ?_) (ih (i + 1) (by omega))
    simp only [colophonref00_EqBytes.l0]
    rw [if_pos (by omega), if_pos (by omega), if_pos (by omega), if_pos trivial, wrap_nat (by omega) (by omega)]
    rfl
theorem eqb_ev (l : List Int) (hl : l.length * 1 ≤ 140737488351232) : Ev (fun k => colophonref00_EqBytes.f k l l) true := by
  unfold colophonref00_EqBytes.f
  simp only [if_true]
  exact eqb_loop l (by omega) l.length 0 (by omega)
/-- The number of digits, with one ahead. -/
def val : Int → List Int → Int
  | n, [] => n
  | n, c :: l => val (n * 10 + (c - 48)) l
theorem val_ge (l : List Int) (h : ∀ c ∈ l, isDig c = true) : ∀ n, 0 ≤ n → n ≤ val n l := by
  induction l with
  | nil => intro n _; exact Int.le_refl _
  | cons c l ih =>
    intro n hn
    have hc := h c (by simp)
    simp [isDig] at hc
    have := ih (fun x hx => h x (by simp [hx])) (n * 10 + (c - 48)) (by omega)
    simp only [val]
    omega
/-- What a parser answers of digits. -/
def told (most n : Int) (l : List Int) : Int × Int := if val n l ≤ most then (val n l, 0) else (0, 5)
theorem told_over {most n : Int} {l : List Int} (h : ∀ c ∈ l, isDig c = true) (hn : 0 ≤ n) (hm : most < n) : told most n l = (0, 5) := by
  have := val_ge l h n hn
  unfold told
  rw [if_neg (by omega)]
theorem tdiv10 {a : Int} (h : 0 ≤ a) : a.tdiv 10 = a / 10 := Int.tdiv_eq_ediv_of_nonneg h
theorem tmod10 {a : Int} (h : 0 ≤ a) : a.tmod 10 = a % 10 := Int.tmod_eq_emod_of_nonneg h

theorem parse_loop (l : List Int) (hl : l.length ≤ 140737488351232) (hd : ∀ c ∈ l, isDig c = true) (most : Int) (hm : most < 9223372036854775808) (d : Nat) : ∀ (n : Int) (i : Nat), i + d = l.length → 0 ≤ n → n ≤ most →
    Ev (fun k => digits_Parse.l0 k most n l l.length i) (told most n (l.drop i)) := by
  induction d with
  | zero =>
    intro n i h h0 h1
    refine Ev.step (f := fun _ => some (told most n (l.drop i))) (fun k => ?_) (Ev.now _)
    simp only [digits_Parse.l0]
    rw [if_neg (by omega), List.drop_eq_nil_of_le (by omega)]
    simp [told, val, h1]
  | succ d ih =>
    intro n i h h0 h1
    have hlt : i < l.length := by omega
    have hc : isDig (rd l i) = true := hd _ (by simp [rd, List.getD, hlt])
    have hc2 := hc
    simp [isDig] at hc2
    have hmod : (rd l i - 48) % 256 = rd l i - 48 := by omega
    have hds : ∀ c ∈ l.drop (i + 1), isDig c = true := fun c hx => hd c (List.mem_of_mem_drop hx)
    have hv : told most n (l.drop i) = told most (n * 10 + (rd l i - 48)) (l.drop (i + 1)) := by
      rw [drop_at hlt]
      rfl
    by_cases hb : n * 10 + (rd l i - 48) ≤ most
    · refine Ev.step (f := fun k => digits_Parse.l0 k most (n * 10 + (rd l i - 48)) l l.length ((i + 1 : Nat) : Int)) (fun k => ?_) ?_
      · simp only [digits_Parse.l0]
        rw [if_pos (by omega), if_pos (by omega), if_pos (by omega), hmod, if_neg (by omega), wrap_nat (i := most - (rd l i - 48)) (by omega) (by omega), tdiv10 (by omega), wrap_nat (by omega) (by omega), if_neg (by omega),
          wrap_nat (i := n * 10) (by omega) (by omega), wrap_nat (by omega) (by omega), wrap_nat (by omega) (by omega)]
        rfl
      · rw [hv]
        exact ih _ (i + 1) (by omega) (by omega) hb
    · refine Ev.step (f := fun _ => some (told most n (l.drop i))) (fun k => ?_) (Ev.now _)
      have ht : told most n (l.drop i) = (0, 5) := by rw [hv]; exact told_over hds (by omega) (by omega)
      rw [ht]
      simp only [digits_Parse.l0]
      rw [if_pos (by omega), if_pos (by omega), if_pos (by omega), hmod]
      by_cases hx : rd l i - 48 > most
      · rw [if_pos hx]
      · rw [if_neg hx, wrap_nat (i := most - (rd l i - 48)) (by omega) (by omega), tdiv10 (by omega), wrap_nat (by omega) (by omega), if_pos (by omega)]

/-- What Parse answers. -/
def parsed (l : List Int) (most : Int) : Int × Int :=
  if most < 0 then (0, 2) else if l.length = 0 ∨ runLen l ≠ l.length then (0, 4) else told most 0 l
theorem runLen_full {l : List Int} (h : runLen l = l.length) : ∀ c ∈ l, isDig c = true := by
  intro c hc
  obtain ⟨i, hi, rfl⟩ := List.mem_iff_getElem.1 hc
  have := runLen_lt (l := l) (k := i) (by omega)
  simpa [List.getD, hi] using this
theorem runLen_all {l : List Int} (h : ∀ c ∈ l, isDig c = true) : runLen l = l.length := by
  induction l with
  | nil => rfl
  | cons c l ih =>
    rw [runLen_cons, if_pos (h c (by simp)), ih (fun x hx => h x (by simp [hx]))]
    rfl
theorem runAt_zero (l : List Int) : runAt l 0 = runLen l := by
  unfold runAt
  rw [if_neg (by omega)]
  by_cases h : (l.length : Int) ≤ 0
  · rw [if_pos h]
    obtain rfl := List.eq_nil_of_length_eq_zero (show l.length = 0 by omega)
    rfl
  · rw [if_neg h]
    rfl
theorem parse_ev (l : List Int) (hl : l.length * 1 ≤ 140737488351232) (most : Int) (hm : most < 9223372036854775808) : Ev (fun k => digits_Parse.f k l most) (parsed l most) := by
  unfold digits_Parse.f parsed
  by_cases h1 : most < 0
  · simp only [if_pos h1]
    exact Ev.now _
  · simp only [if_neg h1]
    by_cases h2 : l.length = 0
    · have h2' : (l.length : Int) = 0 := by omega
      simp only [if_pos h2', h2, true_or, if_true]
      exact Ev.now _
    · have h2' : ¬ (l.length : Int) = 0 := by omega
      simp only [if_neg h2', run_is, Option.bind_some, runAt_zero, h2, false_or]
      by_cases h3 : runLen l = l.length
      · simp only [h3, if_true, ne_eq, not_true, if_false]
        exact parse_loop l (by omega) (runLen_full h3) most hm l.length 0 0 (by omega) (by omega) (by omega)
      · have h3' : ¬ ((runLen l : Nat) : Int) = (l.length : Int) := by omega
        simp only [if_neg h3', ne_eq, h3, not_false_eq_true, if_true]
        exact Ev.now _

theorem refParse_loop (l : List Int) (hl : l.length ≤ 140737488351232) (hd : ∀ c ∈ l, isDig c = true) (most : Int) (hm : most < 9223372036854775808) (d : Nat) : ∀ (n : Int) (i : Nat), i + d = l.length → 0 ≤ n → n ≤ most →
    Ev (fun k => colophonref05_Parse.l0 k l most n i) (told most n (l.drop i)) := by
  induction d with
  | zero =>
    intro n i h h0 h1
    refine Ev.step (f := fun _ => some (told most n (l.drop i))) (fun k => ?_) (Ev.now _)
    simp only [colophonref05_Parse.l0]
    rw [if_neg (by omega), List.drop_eq_nil_of_le (by omega)]
    simp [told, val, h1]
  | succ d ih =>
    intro n i h h0 h1
    have hlt : i < l.length := by omega
    have hc : isDig (rd l i) = true := hd _ (by simp [rd, List.getD, hlt])
    have hc2 := hc
    simp [isDig] at hc2
    have hmod : (rd l i - 48) % 256 = rd l i - 48 := by omega
    have hds : ∀ c ∈ l.drop (i + 1), isDig c = true := fun c hx => hd c (List.mem_of_mem_drop hx)
    have hv : told most n (l.drop i) = told most (n * 10 + (rd l i - 48)) (l.drop (i + 1)) := by
      rw [drop_at hlt]
      rfl
    have hw : wrap64 (Int.tdiv most 10) = most / 10 := by rw [tdiv10 (by omega), wrap_nat (by omega) (by omega)]
    have hr : Int.tmod most 10 = most % 10 := tmod10 (by omega)
    by_cases hb : n * 10 + (rd l i - 48) ≤ most
    · refine Ev.step (f := fun k => colophonref05_Parse.l0 k l most (n * 10 + (rd l i - 48)) ((i + 1 : Nat) : Int)) (fun k => ?_) ?_
      · simp only [colophonref05_Parse.l0]
        rw [if_pos (by omega), if_pos (by omega), hmod, hw, hr, if_neg (by omega), wrap_nat (i := n * 10) (by omega) (by omega), wrap_nat (by omega) (by omega), wrap_nat (by omega) (by omega)]
        by_cases he : n = most / 10
        · rw [if_pos he, if_neg (by omega)]
          rfl
        · rw [if_neg he]
          rfl
      · rw [hv]
        exact ih _ (i + 1) (by omega) (by omega) hb
    · refine Ev.step (f := fun _ => some (told most n (l.drop i))) (fun k => ?_) (Ev.now _)
      have ht : told most n (l.drop i) = (0, 5) := by rw [hv]; exact told_over hds (by omega) (by omega)
      rw [ht]
      simp only [colophonref05_Parse.l0]
      rw [if_pos (by omega), if_pos (by omega), hmod, hw, hr]
      by_cases hx : n > most / 10
      · rw [if_pos hx]
      · rw [if_neg hx, if_pos (by omega), if_pos (by omega)]
theorem refParse_ev (l : List Int) (hl : l.length * 1 ≤ 140737488351232) (most : Int) (hm : most < 9223372036854775808) : Ev (fun k => colophonref05_Parse.f k l most) (parsed l most) := by
  unfold colophonref05_Parse.f parsed
  have hyes : Ev (fun k => colophonref05_Parse.j0 k l most true) (0, 4) := Ev.step (f := fun _ => some (0, 4)) (fun k => by simp only [colophonref05_Parse.j0, if_true]) (Ev.now _)
  by_cases h1 : most < 0
  · simp only [if_pos h1]
    exact Ev.now _
  · simp only [if_neg h1]
    by_cases h2 : l.length = 0
    · have h2' : (l.length : Int) = 0 := by omega
      simp only [if_pos h2', h2, true_or, if_true]
      exact hyes
    · have h2' : ¬ (l.length : Int) = 0 := by omega
      simp only [if_neg h2', h2, false_or]
      refine Ev.bind (refRun_ev l hl 0) ?_
      rw [runAt_zero]
      by_cases h3 : runLen l = l.length
      · simp only [h3, ne_eq, not_true, if_false, bne_self_eq_false]
        refine Ev.step (f := fun k => colophonref05_Parse.l0 k l most 0 0) (fun k => by simp only [colophonref05_Parse.j0]; rfl) ?_
        exact refParse_loop l (by omega) (runLen_full h3) most hm l.length 0 0 (by omega) (by omega) (by omega)
      · have h3' : (((runLen l : Nat) : Int) != (l.length : Int)) = true := by simp; omega
        simp only [h3', ne_eq, h3, not_false_eq_true, if_true]
        exact hyes
theorem rd_getElem {l : List Int} {i : Nat} (h : i < l.length) : rd l (i : Int) = l[i] := by simp [rd, List.getD, h]
end Go.Proofs.YtekmdbicobkffaaDoor.Pure
