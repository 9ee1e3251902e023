/- What the header parsers answer: the program's and the document's are one. -/
import Derived.Test.YthkmacgjekienaaDoorP2
import Derived.Test.YthkmacgjekienaaDoorP7
import Derived.Test.YthkmacgjekienaaDoorSParse
import Derived.DataShut
import Derived.Lib.IndexMore
namespace Go.Proofs.YthkmacgjekienaaDoor.Pure
open Go.RowKit Go.Proofs.YthkmacgjekienaaDoor.P Go.Proofs.YthkmacgjekienaaDoorW.PrintWords Go.Proofs.YthkmacgjekienaaDoorW.PrintMore
set_option linter.unusedSimpArgs false
set_option linter.unusedVariables false
theorem wrap_nat {i : Int} (h0 : -9223372036854775808 ≤ i) (h : i < 9223372036854775808) : wrap64 i = i := by unfold wrap64; omega
theorem int_range {n : Int} (h : (Lit.int .i64 n).wf = true) : -9223372036854775808 ≤ n ∧ n ≤ 9223372036854775807 := by
  have := (Lit.wf_int_iff _ _).1 h
  simpa [IntKind.min, IntKind.max, IntKind.bits, IntKind.signed] using this
theorem byte_range {n : Int} (h : (Lit.int .u8 n).wf = true) : 0 ≤ n ∧ n ≤ 255 := by
  have := (Lit.wf_int_iff _ _).1 h
  simpa [IntKind.min, IntKind.max, IntKind.bits, IntKind.signed] using this
theorem copy_some (l : List Int) (h : l.length * 1 ≤ 140737488353792) : colophonref00_CopyBytes.f l = some l := by
  unfold colophonref00_CopyBytes.f
  rw [if_pos (by simp; omega)]
  simp
/-- How many digits stand at a place. -/
def runAt (l : List Int) (a : Int) : Int := if a < 0 then 0 else if (l.length : Int) ≤ a then 0 else runLen (l.drop a.toNat)
theorem run_is (l : List Int) (a : Int) : digits_Run.f l a = some (runAt l a) := by
  unfold digits_Run.f runAt
  split
  · rfl
  · split <;> rfl
theorem digit_is (c : Int) : colophonref05_digit.f c = some (isDig c) := by
  unfold colophonref05_digit.f isDig
  by_cases h : c ≥ 48
  · rw [if_pos h]; simp [h]
  · rw [if_neg h]; simp [h]
theorem runLen_cons (c : Int) (l : List Int) : runLen (c :: l) = if isDig c = true then runLen l + 1 else 0 := by
  by_cases h : isDig c = true <;> simp [runLen, h]
theorem drop_at {l : List Int} {i : Nat} (h : i < l.length) : l.drop i = rd l i :: l.drop (i + 1) := by
  rw [List.drop_eq_getElem_cons h]
  simp [rd, List.getD, h]
theorem refRun_loop (l : List Int) (hl : l.length ≤ 140737488353792) (d : Nat) : ∀ (c i : Nat), i + d = l.length → c ≤ i →
    Ev (fun k => colophonref05_Run.l0 k l c i) ((c + runLen (l.drop i) : Nat) : Int) := by
  induction d with
  | zero =>
    intro c i h _
    refine Ev.step (f := fun _ => some (((c + runLen (l.drop i) : Nat) : Int))) (fun k => ?_) (Ev.now _)
    simp only [colophonref05_Run.l0]
    rw [if_pos (by omega), if_neg (by omega), List.drop_eq_nil_of_le (by omega)]
    simp [runLen]
  | succ d ih =>
    intro c i h hc
    have hlt : i < l.length := by omega
    by_cases hd : isDig (rd l i) = true
    · refine Ev.step (f := fun k => colophonref05_Run.l0 k l ((c + 1 : Nat) : Int) ((i + 1 : Nat) : Int)) (fun k => ?_) ?_
      · simp only [colophonref05_Run.l0]
        rw [if_pos (by omega), if_pos (by omega), if_pos (by omega), digit_is, hd]
        simp only [Option.bind_some, if_true]
        rw [wrap_nat (by omega) (by omega), wrap_nat (by omega) (by omega)]
        rfl
      · have := ih (c + 1) (i + 1) (by omega) (by omega)
        rw [drop_at hlt, runLen_cons, if_pos hd]
        rw [show c + (runLen (l.drop (i + 1)) + 1) = c + 1 + runLen (l.drop (i + 1)) by omega]
        exact this
    · refine Ev.step (f := fun _ => some (((c + runLen (l.drop i) : Nat) : Int))) (fun k => ?_) (Ev.now _)
      simp only [colophonref05_Run.l0]
      rw [if_pos (by omega), if_pos (by omega), if_pos (by omega), digit_is, Option.bind_some, if_neg hd, drop_at hlt, runLen_cons, if_neg hd]
      rfl
theorem refRun_ev (l : List Int) (hl : l.length * 1 ≤ 140737488353792) (a : Int) : Ev (fun k => colophonref05_Run.f k l a) (runAt l a) := by
  unfold colophonref05_Run.f runAt
  by_cases h1 : a < 0
  · rw [if_pos h1]
    refine Ev.step (f := fun _ => some 0) (fun k => ?_) (Ev.now _)
    simp only [colophonref05_Run.l0]
    rw [if_neg (by omega)]
  · rw [if_neg h1]
    by_cases h2 : (l.length : Int) ≤ a
    · rw [if_pos h2]
      refine Ev.step (f := fun _ => some 0) (fun k => ?_) (Ev.now _)
      simp only [colophonref05_Run.l0]
      rw [if_pos (by omega), if_neg (by omega)]
    · rw [if_neg h2]
      obtain ⟨i, rfl⟩ := Int.eq_ofNat_of_zero_le (show 0 ≤ a by omega)
      have := refRun_loop l (by omega) (l.length - i) 0 i (by omega) (by omega)
      simpa using this
theorem eqb_loop (l : List Int) (hl : l.length ≤ 140737488353792) (d : Nat) : ∀ i : Nat, i + d = l.length → Ev (fun k => colophonref00_EqBytes.l0 k l l i) true := by
  induction d with
  | zero =>
    intro i h
    refine Ev.step (f := fun _ => some true) (fun k => ?_) (Ev.now _)
    simp only [colophonref00_EqBytes.l0]
    rw [if_neg (by omega)]
  | succ d ih =>
    intro i h
    refine Ev.step (f := fun k => colophonref00_EqBytes.l0 k l l ((i + 1 : Nat) : Int)) (fun k => ?_) (ih (i + 1) (by omega))
    simp only [colophonref00_EqBytes.l0]
    rw [if_pos (by omega), if_pos (by omega), if_pos (by omega), if_pos trivial, wrap_nat (by omega) (by omega)]
    rfl
theorem eqb_ev (l : List Int) (hl : l.length * 1 ≤ 140737488353792) : Ev (fun k => colophonref00_EqBytes.f k l l) true := by
  unfold colophonref00_EqBytes.f
  simp only [if_true]
  exact eqb_loop l (by omega) l.length 0 (by omega)
/-- The number of digits, with one ahead. -/
def val : Int → List Int → Int
  | n, [] => n
  | n, c :: l => val (n * 10 + (c - 48)) l
theorem val_ge (l : List Int) (h : ∀ c ∈ l, isDig c = true) : ∀ n, 0 ≤ n → n ≤ val n l := by
  induction l with
  | nil => intro n _; exact Int.le_refl _
  | cons c l ih =>
    intro n hn
    have hc := h c (by simp)
    simp [isDig] at hc
    have := ih (fun x hx => h x (by simp [hx])) (n * 10 + (c - 48)) (by omega)
    simp only [val]
    omega
/-- What a parser answers of digits. -/
def told (most n : Int) (l : List Int) : Int × Int := if val n l ≤ most then (val n l, 0) else (0, 5)
theorem told_over {most n : Int} {l : List Int} (h : ∀ c ∈ l, isDig c = true) (hn : 0 ≤ n) (hm : most < n) : told most n l = (0, 5) := by
  have := val_ge l h n hn
  unfold told
  rw [if_neg (by omega)]
theorem tdiv10 {a : Int} (h : 0 ≤ a) : a.tdiv 10 = a / 10 := Int.tdiv_eq_ediv_of_nonneg h
theorem tmod10 {a : Int} (h : 0 ≤ a) : a.tmod 10 = a % 10 := Int.tmod_eq_emod_of_nonneg h

theorem parse_loop (l : List Int) (hl : l.length ≤ 140737488353792) (hd : ∀ c ∈ l, isDig c = true) (most : Int) (hm : most < 9223372036854775808) (d : Nat) : ∀ (n : Int) (i : Nat), i + d = l.length → 0 ≤ n → n ≤ most →
    Ev (fun k => digits_Parse.l0 k most n l l.length i) (told most n (l.drop i)) := by
  induction d with
  | zero =>
    intro n i h h0 h1
    refine Ev.step (f := fun _ => some (told most n (l.drop i))) (fun k => ?_) (Ev.now _)
    simp only [digits_Parse.l0]
    rw [if_neg (by omega), List.drop_eq_nil_of_le (by omega)]
    simp [told, val, h1]
  | succ d ih =>
    intro n i h h0 h1
    have hlt : i < l.length := by omega
    have hc : isDig (rd l i) = true := hd _ (by simp [rd, List.getD, hlt])
    have hc2 := hc
    simp [isDig] at hc2
    have hmod : (rd l i - 48) % 256 = rd l i - 48 := by omega
    have hds : ∀ c ∈ l.drop (i + 1), isDig c = true := fun c hx => hd c (List.mem_of_mem_drop hx)
    have hv : told most n (l.drop i) = told most (n * 10 + (rd l i - 48)) (l.drop (i + 1)) := by
      rw [drop_at hlt]
      rfl
    by_cases hb : n * 10 + (rd l i - 48) ≤ most
    · refine Ev.step (f := fun k => digits_Parse.l0 k most (n * 10 + (rd l i - 48)) l l.length ((i + 1 : Nat) : Int)) (fun k => ?_) ?_
      · simp only [digits_Parse.l0]
        rw [if_pos (by omega), if_pos (by omega), if_pos (by omega), hmod, if_neg (by omega), wrap_nat (i := most - (rd l i - 48)) (by omega) (by omega), tdiv10 (by omega), wrap_nat (by omega) (by omega), if_neg (by omega),
          wrap_nat (i := n * 10) (by omega) (by omega), wrap_nat (by omega) (by omega), wrap_nat (by omega) (by omega)]
        rfl
      · rw [hv]
        exact ih _ (i + 1) (by omega) (by omega) hb
    · refine Ev.step (f := fun _ => some (told most n (l.drop i))) (fun k => ?_) (Ev.now _)
      have ht : told most n (l.drop i) = (0, 5) := by rw [hv]; exact told_over hds (by omega) (by omega)
      rw [ht]
      simp only [digits_Parse.l0]
      rw [if_pos (by omega), if_pos (by omega), if_pos (by omega), hmod]
      by_cases hx : rd l i - 48 > most
      · rw [if_pos hx]
      · rw [if_neg hx, wrap_nat (i := most - (rd l i - 48)) (by omega) (by omega), tdiv10 (by omega), wrap_nat (by omega) (by omega), if_pos (by omega)]

/-- What Parse answers. -/
def parsed (l : List Int) (most : Int) : Int × Int :=
  if most < 0 then (0, 2) else if l.length = 0 ∨ runLen l ≠ l.length then (0, 4) else told most 0 l
theorem runLen_full {l : List Int} (h : runLen l = l.length) : ∀ c ∈ l, isDig c = true := by
  intro c hc
  obtain ⟨i, hi, rfl⟩ := List.mem_iff_getElem.1 hc
  have := runLen_lt (l := l) (k := i) (by omega)
  simpa [List.getD, hi] using this
theorem runLen_all {l : List Int} (h : ∀ c ∈ l, isDig c = true) : runLen l = l.length := by
  induction l with
  | nil => rfl
  | cons c l ih =>
    rw [runLen_cons, if_pos (h c (by simp)), ih (fun x hx => h x (by simp [hx]))]
    rfl
theorem runAt_zero (l : List Int) : runAt l 0 = runLen l := by
  unfold runAt
  rw [if_neg (by omega)]
  by_cases h : (l.length : Int) ≤ 0
  · rw [if_pos h]
    obtain rfl := List.eq_nil_of_length_eq_zero (show l.length = 0 by omega)
    rfl
  · rw [if_neg h]
    rfl
theorem parse_ev (l : List Int) (hl : l.length * 1 ≤ 140737488353792) (most : Int) (hm : most < 9223372036854775808) : Ev (fun k => digits_Parse.f k l most) (parsed l most) := by
  unfold digits_Parse.f parsed
  by_cases h1 : most < 0
  · simp only [if_pos h1]
    exact Ev.now _
  · simp only [if_neg h1]
    by_cases h2 : l.length = 0
    · have h2' : (l.length : Int) = 0 := by omega
      simp only [if_pos h2', h2, true_or, if_true]
      exact Ev.now _
    · have h2' : ¬ (l.length : Int) = 0 := by omega
      simp only [if_neg h2', run_is, Option.bind_some, runAt_zero, h2, false_or]
      by_cases h3 : runLen l = l.length
      · simp only [h3, if_true, ne_eq, not_true, if_false]
        exact parse_loop l (by omega) (runLen_full h3) most hm l.length 0 0 (by omega) (by omega) (by omega)
      · have h3' : ¬ ((runLen l : Nat) : Int) = (l.length : Int) := by omega
        simp only [if_neg h3', ne_eq, h3, not_false_eq_true, if_true]
        exact Ev.now _

theorem refParse_loop (l : List Int) (hl : l.length ≤ 140737488353792) (hd : ∀ c ∈ l, isDig c = true) (most : Int) (hm : most < 9223372036854775808) (d : Nat) : ∀ (n : Int) (i : Nat), i + d = l.length → 0 ≤ n → n ≤ most →
    Ev (fun k => colophonref05_Parse.l0 k l most n i) (told most n (l.drop i)) := by
  induction d with
  | zero =>
    intro n i h h0 h1
    refine Ev.step (f := fun _ => some (told most n (l.drop i))) (fun k => ?_) (Ev.now _)
    simp only [colophonref05_Parse.l0]
    rw [if_neg (by omega), List.drop_eq_nil_of_le (by omega)]
    simp [told, val, h1]
  | succ d ih =>
    intro n i h h0 h1
    have hlt : i < l.length := by omega
    have hc : isDig (rd l i) = true := hd _ (by simp [rd, List.getD, hlt])
    have hc2 := hc
    simp [isDig] at hc2
    have hmod : (rd l i - 48) % 256 = rd l i - 48 := by omega
    have hds : ∀ c ∈ l.drop (i + 1), isDig c = true := fun c hx => hd c (List.mem_of_mem_drop hx)
    have hv : told most n (l.drop i) = told most (n * 10 + (rd l i - 48)) (l.drop (i + 1)) := by
      rw [drop_at hlt]
      rfl
    have hw : wrap64 (Int.tdiv most 10) = most / 10 := by rw [tdiv10 (by omega), wrap_nat (by omega) (by omega)]
    have hr : Int.tmod most 10 = most % 10 := tmod10 (by omega)
    by_cases hb : n * 10 + (rd l i - 48) ≤ most
    · refine Ev.step (f := fun k => colophonref05_Parse.l0 k l most (n * 10 + (rd l i - 48)) ((i + 1 : Nat) : Int)) (fun k => ?_) ?_
      · simp only [colophonref05_Parse.l0]
        rw [if_pos (by omega), if_pos (by omega), hmod, hw, hr, if_neg (by omega), wrap_nat (i := n * 10) (by omega) (by omega), wrap_nat (by omega) (by omega), wrap_nat (by omega) (by omega)]
        by_cases he : n = most / 10
        · rw [if_pos he, if_neg (by omega)]
          rfl
        · rw [if_neg he]
          rfl
      · rw [hv]
        exact ih _ (i + 1) (by omega) (by omega) hb
    · refine Ev.step (f := fun _ => some (told most n (l.drop i))) (fun k => ?_) (Ev.now _)
      have ht : told most n (l.drop i) = (0, 5) := by rw [hv]; exact told_over hds (by omega) (by omega)
      rw [ht]
      simp only [colophonref05_Parse.l0]
      rw [if_pos (by omega), if_pos (by omega), hmod, hw, hr]
      by_cases hx : n > most / 10
      · rw [if_pos hx]
      · rw [if_neg hx, if_pos (by omega), if_pos (by omega)]
theorem refParse_ev (l : List Int) (hl : l.length * 1 ≤ 140737488353792) (most : Int) (hm : most < 9223372036854775808) : Ev (fun k => colophonref05_Parse.f k l most) (parsed l most) := by
  unfold colophonref05_Parse.f parsed
  have hyes : Ev (fun k => colophonref05_Parse.j0 k l most true) (0, 4) := Ev.step (f := fun _ => some (0, 4)) (fun k => by simp only [colophonref05_Parse.j0, if_true]) (Ev.now _)
  by_cases h1 : most < 0
  · simp only [if_pos h1]
    exact Ev.now _
  · simp only [if_neg h1]
    by_cases h2 : l.length = 0
    · have h2' : (l.length : Int) = 0 := by omega
      simp only [if_pos h2', h2, true_or, if_true]
      exact hyes
    · have h2' : ¬ (l.length : Int) = 0 := by omega
      simp only [if_neg h2', h2, false_or]
      refine Ev.bind (refRun_ev l hl 0) ?_
      rw [runAt_zero]
      by_cases h3 : runLen l = l.length
      · simp only [h3, ne_eq, not_true, if_false, bne_self_eq_false]
        refine Ev.step (f := fun k => colophonref05_Parse.l0 k l most 0 0) (fun k => by simp only [colophonref05_Parse.j0]; rfl) ?_
        exact refParse_loop l (by omega) (runLen_full h3) most hm l.length 0 0 (by omega) (by omega) (by omega)
      · have h3' : (((runLen l : Nat) : Int) != (l.length : Int)) = true := by simp; omega
        simp only [h3', ne_eq, h3, not_false_eq_true, if_true]
        exact hyes
theorem rd_getElem {l : List Int} {i : Nat} (h : i < l.length) : rd l (i : Int) = l[i] := by simp [rd, List.getD, h]
end Go.Proofs.YthkmacgjekienaaDoor.Pure
namespace Go.Proofs.YthkmacgjekienaaDoor.Pure
open Go.RowKit Go.Proofs.YthkmacgjekienaaDoor.P Go.Proofs.YthkmacgjekienaaDoorW.PrintWords
set_option linter.unusedVariables false
set_option linter.unusedSimpArgs false
end Go.Proofs.YthkmacgjekienaaDoor.Pure
namespace Go.Proofs.YthkmacgjekienaaDoor.Pure
open Go.RowKit Go.Proofs.YthkmacgjekienaaDoor.P Go.Proofs.YthkmacgjekienaaDoorW.PrintWords Go.Proofs.YthkmacgjekienaaDoorW.PrintMore
set_option linter.unusedVariables false
set_option linter.unusedSimpArgs false
def Byt (l : List Int) : Prop := ∀ x ∈ l, 0 ≤ x ∧ x < 256
theorem Byt.drop {l : List Int} (h : Byt l) (n : Nat) : Byt (l.drop n) := fun x hx => h x (List.mem_of_mem_drop hx)
theorem Byt.take {l : List Int} (h : Byt l) (n : Nat) : Byt (l.take n) := fun x hx => h x (List.mem_of_mem_take hx)
theorem Byt.cons {a : Int} {l : List Int} (h : Byt (a :: l)) : (0 ≤ a ∧ a < 256) ∧ Byt l := ⟨h a (by simp), fun x hx => h x (by simp [hx])⟩
theorem fits_is {l : List Int} (h : Byt l) : fitsB l = true := by
  unfold fitsB
  rw [List.all_eq_true]
  intro x hx
  have := h x hx
  simp [this.1, this.2]
theorem rd_drop (l : List Int) (i j : Nat) : rd (l.drop i) (j : Int) = rd l ((i + j : Nat) : Int) := by
  unfold rd
  rw [Int.toNat_natCast, Int.toNat_natCast]
  simp [List.getD, List.getElem?_drop]
theorem u8eq (a : Int) (k : Nat) (h : 0 ≤ a ∧ a < 256) (hk : k < 256) : (UInt8.ofNat k == UInt8.ofNat a.toNat) = decide (a = (k : Int)) := by
  obtain ⟨n, rfl⟩ := Int.eq_ofNat_of_zero_le h.1
  have hn : n < 256 := by omega
  rw [Int.toNat_natCast]
  by_cases e : n = k
  · subst e; simp
  · rw [decide_eq_false (by omega)]
    rw [beq_eq_false_iff_ne]
    intro he
    have := congrArg UInt8.toNat he
    rw [UInt8.toNat_ofNat', UInt8.toNat_ofNat'] at this
    omega
/-- Do 13 10 stand at a place? -/
def pairB (l : List Int) (i : Nat) : Bool := decide (rd l i = 13) && (decide (i + 1 < l.length) && decide (rd l ((i + 1 : Nat) : Int) = 10))
theorem pair_is (l : List Int) (hl : l.length < 4611686018427387904) (i : Nat) (hi : i < 4611686018427387904) : colophonref06_pair.f l (i : Int) = some (pairB l i) := by
  unfold colophonref06_pair.f pairB
  by_cases h : i + 1 < l.length
  · rw [wrap_nat (by omega) (by omega), if_pos (by omega), if_pos (by omega), if_pos (by omega)]
    by_cases h13 : rd l i = 13
    · rw [if_pos h13, if_pos (by omega), decide_eq_true h13, decide_eq_true h]
      rw [show ((i : Int) + 1) = ((i + 1 : Nat) : Int) from rfl]
      by_cases h10 : rd l ((i + 1 : Nat) : Int) = 10
      · rw [h10]; rfl
      · rw [decide_eq_false h10, beq_eq_false_iff_ne.mpr h10]; rfl
    · rw [if_neg h13, decide_eq_false h13]; rfl
  · rw [decide_eq_false h]
    rw [wrap_nat (by omega) (by omega), if_neg (by omega)]; simp
theorem bytesOf_drop (l : List Int) (i : Nat) : (Lib.bytesOf l).drop i = Lib.bytesOf (l.drop i) := by simp [Lib.bytesOf, List.map_drop]
theorem occ2 (l : List Int) (hb : Byt l) (i : Nat) : Lib.occAt (Lib.bytesOf l) [13, 10] i = pairB l i := by
  unfold Lib.occAt
  rw [bytesOf_drop]
  have hd := hb.drop i
  have hlen := List.length_drop (i := i) (l := l)
  have h0 : rd l i = rd (l.drop i) ((0 : Nat) : Int) := by rw [rd_drop]; rfl
  have h1 : rd l ((i + 1 : Nat) : Int) = rd (l.drop i) ((1 : Nat) : Int) := by rw [rd_drop]
  unfold pairB
  rw [h0, h1]
  generalize l.drop i = m at hd hlen ⊢
  match m, hd, hlen with
  | [], _, hlen => simp [Lib.bytesOf, List.isPrefixOf, rd, List.getD]
  | [a], hd, hlen =>
    simp only [Lib.bytesOf, List.map_cons, List.map_nil, List.isPrefixOf]
    simp at hlen
    rw [decide_eq_false (show ¬ i + 1 < l.length by omega)]
    simp
  | a :: b :: t, hd, hlen =>
    have ha := hd.cons.1
    have hb' := hd.cons.2.cons.1
    simp only [Lib.bytesOf, List.map_cons, List.isPrefixOf]
    simp only [List.length_cons] at hlen
    rw [decide_eq_true (show i + 1 < l.length by omega)]
    have e1 := u8eq a 13 ha (by decide)
    have e2 := u8eq b 10 hb' (by decide)
    rw [show (UInt8.ofNat 13) = 13 from rfl] at e1
    rw [show (UInt8.ofNat 10) = 10 from rfl] at e2
    rw [e1, e2]
    simp [rd, List.getD]
theorem occ4 (l : List Int) (hb : Byt l) (i : Nat) : Lib.occAt (Lib.bytesOf l) [13, 10, 13, 10] i = (pairB l i && pairB l (i + 2)) := by
  rw [← occ2 l hb i, ← occ2 l hb (i + 2)]
  unfold Lib.occAt
  rw [← List.drop_drop]
  generalize (Lib.bytesOf l).drop i = m
  match m with
  | [] => simp [List.isPrefixOf]
  | [a] => simp [List.isPrefixOf]
  | a :: b :: t =>
    rw [show List.drop 2 (a :: b :: t) = t from rfl]
    simp [List.isPrefixOf, Bool.and_assoc]
theorem prefix0 (l : List Int) (hb : Byt l) : Lib.hasPrefix (Lib.bytesOf l) [13, 10] = pairB l 0 := by
  rw [← occ2 l hb 0]
  simp [Lib.hasPrefix, Lib.occAt]
/-- The first 13 10, or none. -/
theorem idx2_spec (l : List Int) (hb : Byt l) : (Lib.index (Lib.bytesOf l) [13, 10] = -1 ∧ ∀ j, pairB l j = false) ∨ (∃ i : Nat, Lib.index (Lib.bytesOf l) [13, 10] = i ∧ pairB l i = true ∧ ∀ j, j < i → pairB l j = false) := by
  rcases Lib.index_spec (Lib.bytesOf l) [13, 10] with ⟨h1, h2⟩ | ⟨i, h1, h2, h3, h4⟩
  · left
    refine ⟨h1, fun j => ?_⟩
    rcases Nat.lt_or_ge (Lib.bytesOf l).length j with g | g
    · rw [Lib.bytesOf_length] at g
      unfold pairB
      rw [decide_eq_false (show ¬ j + 1 < l.length by omega)]; simp
    · rw [← occ2 l hb j]; exact h2 j g
  · right
    exact ⟨i, h1, by rw [← occ2 l hb i]; exact h3, fun j hj => by rw [← occ2 l hb j]; exact h4 j hj⟩
theorem idx4_spec (l : List Int) (hb : Byt l) : (Lib.index (Lib.bytesOf l) [13, 10, 13, 10] = -1 ∧ ∀ j, (pairB l j && pairB l (j + 2)) = false) ∨ (∃ i : Nat, Lib.index (Lib.bytesOf l) [13, 10, 13, 10] = i ∧ (pairB l i && pairB l (i + 2)) = true ∧ ∀ j, j < i → (pairB l j && pairB l (j + 2)) = false) := by
  rcases Lib.index_spec (Lib.bytesOf l) [13, 10, 13, 10] with ⟨h1, h2⟩ | ⟨i, h1, h2, h3, h4⟩
  · left
    refine ⟨h1, fun j => ?_⟩
    rcases Nat.lt_or_ge (Lib.bytesOf l).length j with g | g
    · rw [Lib.bytesOf_length] at g
      unfold pairB
      rw [decide_eq_false (show ¬ j + 1 < l.length by omega)]; simp
    · rw [← occ4 l hb j]; exact h2 j g
  · right
    exact ⟨i, h1, by rw [← occ4 l hb i]; exact h3, fun j hj => by rw [← occ4 l hb j]; exact h4 j hj⟩
theorem pair_lt {l : List Int} {i : Nat} (h : pairB l i = true) : i + 1 < l.length ∧ rd l i = 13 ∧ rd l ((i + 1 : Nat) : Int) = 10 := by
  simp only [pairB, Bool.and_eq_true, decide_eq_true_eq] at h
  exact ⟨h.2.1, h.1, h.2.2⟩
/-- Where the header ends; -1: it does not. -/
def endI (l : List Int) : Int := if (endF l).2 = true then (endF l).1 else -1
theorem end_loop (l : List Int) (hb : Byt l) (hl : l.length ≤ 140737488353792) (d : Nat) : ∀ i : Nat, i + d = l.length → (∀ j, j < i → (pairB l j && pairB l (j + 2)) = false) → Ev (fun k => colophonref06_End.l0 k l i) (if 0 ≤ Lib.index (Lib.bytesOf l) [13, 10, 13, 10] then Lib.index (Lib.bytesOf l) [13, 10, 13, 10] + 4 else -1) := by
  induction d with
  | zero =>
    intro i hi hn
    refine Ev.step (f := fun _ => some _) (fun k => ?_) (Ev.now _)
    simp only [colophonref06_End.l0]
    rw [if_neg (by omega)]
    rcases idx4_spec l hb with ⟨h1, h2⟩ | ⟨i', h1, h2, h3⟩
    · rw [h1, if_neg (by decide)]
    · exfalso
      simp only [Bool.and_eq_true] at h2
      have := (pair_lt h2.1).1
      have := hn i' (by omega)
      rw [h2.1, h2.2] at this
      cases this
  | succ d ih =>
    intro i hi hn
    have hp := pair_is l (by omega) i (by omega)
    have hp2 := pair_is l (by omega) (i + 2) (by omega)
    have hw2 : wrap64 ((i : Int) + 2) = ((i + 2 : Nat) : Int) := by rw [wrap_nat (by omega) (by omega)]; rfl
    have hw1 : wrap64 ((i : Int) + 1) = ((i + 1 : Nat) : Int) := by rw [wrap_nat (by omega) (by omega)]; rfl
    have hw4 : wrap64 ((i : Int) + 4) = (i : Int) + 4 := wrap_nat (by omega) (by omega)
    by_cases hh : (pairB l i && pairB l (i + 2)) = true
    · refine Ev.step (f := fun _ => some _) (fun k => ?_) (Ev.now _)
      have hh' := hh
      simp only [Bool.and_eq_true] at hh'
      simp only [colophonref06_End.l0]
      rw [if_pos (by omega), hp, hh'.1, Option.bind_some, if_pos rfl, hw2, hp2, hh'.2, Option.bind_some, if_pos rfl, hw4]
      rcases idx4_spec l hb with ⟨h1, h2⟩ | ⟨i', h1, h2, h3⟩
      · rw [h2 i] at hh; cases hh
      · have : i' = i := by
          rcases Nat.lt_trichotomy i' i with g | g | g
          · rw [hn i' g] at h2; cases h2
          · exact g
          · rw [h3 i g] at hh; cases hh
        subst this
        rw [h1, if_pos (by omega)]
    · have hf : (pairB l i && pairB l (i + 2)) = false := by simpa using hh
      have next := ih (i + 1) (by omega) (fun j hj => by
        rcases Nat.lt_or_ge j i with g | g
        · exact hn j g
        · rw [show j = i by omega]; exact hf)
      refine Ev.step (fun k => ?_) next
      simp only [colophonref06_End.l0]
      rw [if_pos (by omega), hp, Option.bind_some, hw2, hp2, hw1]
      cases h1 : pairB l i
      · rw [if_neg (by simp)]
      · rw [h1] at hf
        rw [if_pos rfl, Option.bind_some, show pairB l (i + 2) = false by simpa using hf, if_neg (by simp)]
theorem end_ev (l : List Int) (hb : Byt l) (hl : l.length ≤ 140737488353792) : Ev (fun k => colophonref06_End.f k l) (endI l) := by
  unfold colophonref06_End.f endI endF
  rw [prefix0 l hb, show colophonref06_pair.f l 0 = some (pairB l 0) from pair_is l (by omega) 0 (by omega)]
  simp only [Option.bind_some]
  cases h : pairB l 0
  · simp only [Bool.false_eq_true, if_false]
    have := end_loop l hb hl l.length 0 (by omega) (fun j hj => absurd hj (by omega))
    by_cases g : 0 ≤ Lib.index (Lib.bytesOf l) [13, 10, 13, 10]
    · rw [if_pos g] at this; rw [decide_eq_true g, if_pos rfl]; exact this
    · rw [if_neg g] at this; rw [decide_eq_false g, if_neg (by simp)]; exact this
  · simp only [if_true]; exact Ev.now _
/-- What is known of a header's end. -/
theorem endI_facts (l : List Int) (hb : Byt l) : endI l = -1 ∨ (endI l = 2 ∧ pairB l 0 = true) ∨ ∃ e : Nat, endI l = (e : Int) ∧ 4 ≤ e ∧ e ≤ l.length ∧ pairB l (e - 4) = true ∧ pairB l (e - 2) = true := by
  unfold endI endF
  rw [prefix0 l hb]
  cases h : pairB l 0
  · simp only [Bool.false_eq_true, if_false]
    rcases idx4_spec l hb with ⟨h1, h2⟩ | ⟨i, h1, h2, h3⟩
    · left; rw [h1]; rfl
    · right; right
      simp only [Bool.and_eq_true] at h2
      have := (pair_lt h2.2).1
      refine ⟨i + 4, ?_, by omega, by omega, h2.1, h2.2⟩
      rw [h1, decide_eq_true (by omega), if_pos rfl]; rfl
  · right; left; exact ⟨rfl, rfl⟩
end Go.Proofs.YthkmacgjekienaaDoor.Pure
namespace Go.Proofs.YthkmacgjekienaaDoor.Pure
open Go.RowKit Go.Proofs.YthkmacgjekienaaDoor.P Go.Proofs.YthkmacgjekienaaDoorW.PrintWords Go.Proofs.YthkmacgjekienaaDoorW.PrintMore
set_option linter.unusedVariables false
set_option linter.unusedSimpArgs false
theorem inName_is (c : Int) : colophonref06_inName.f c = some (nameI c) := by
  unfold colophonref06_inName.f nameI
  by_cases h1 : 97 ≤ c
  · rw [if_pos (show c ≥ 97 from h1), decide_eq_true h1]
    by_cases h2 : c ≤ 122
    · rw [if_pos h2, decide_eq_true h2]; simp
    · rw [if_neg h2, decide_eq_false h2, if_pos (by omega), if_neg (by omega), if_pos (by omega), if_neg (by omega), decide_eq_false (show ¬ c ≤ 90 by omega), decide_eq_false (show ¬ c ≤ 57 by omega)]; simp
  · rw [if_neg (show ¬ c ≥ 97 from h1), decide_eq_false h1]
    by_cases h3 : 65 ≤ c
    · rw [if_pos (show c ≥ 65 from h3), decide_eq_true h3]
      by_cases h4 : c ≤ 90
      · rw [if_pos h4, decide_eq_true h4]; simp
      · rw [if_neg h4, decide_eq_false h4, if_pos (by omega), if_neg (by omega), decide_eq_false (show ¬ c ≤ 57 by omega)]; simp
    · rw [if_neg (show ¬ c ≥ 65 from h3), decide_eq_false h3]
      by_cases h5 : 48 ≤ c
      · rw [if_pos (show c ≥ 48 from h5), decide_eq_true h5]
        by_cases h6 : c ≤ 57
        · rw [if_pos h6, decide_eq_true h6]; simp
        · rw [if_neg h6, decide_eq_false h6]; simp
      · rw [if_neg (show ¬ c ≥ 48 from h5), decide_eq_false h5]; simp
theorem blank_is (c : Int) : colophonref06_blank.f c = some (isBl c) := by
  unfold colophonref06_blank.f isBl
  by_cases h : c = 32
  · subst h; rfl
  · rw [if_neg h, beq_eq_false_iff_ne.mpr h]; simp
def lowI (c : Int) : Int := if 65 ≤ c ∧ c ≤ 90 then c + 32 else c
def rtrim (v : List Int) : List Int := (v.reverse.dropWhile isBl).reverse
theorem low_loop (l : List Int) (hb : Byt l) (hl : l.length ≤ 140737488353792) (d : Nat) : ∀ (i : Nat) (acc : List Int), i + d = l.length → acc.length = i → Ev (fun k => colophonref06_low.l0 k l acc i) (strOfNums (acc ++ (l.drop i).map lowI)) := by
  induction d with
  | zero =>
    intro i acc hi ha
    refine Ev.step (f := fun _ => some _) (fun k => ?_) (Ev.now _)
    simp only [colophonref06_low.l0]
    rw [if_neg (by omega), List.drop_of_length_le (by omega)]
    simp
  | succ d ih =>
    intro i acc hi ha
    have hlt : i < l.length := by omega
    have hr := hb _ (List.getElem_mem hlt)
    have hrd := rd_getElem hlt
    have hw : wrap64 ((i : Int) + 1) = ((i + 1 : Nat) : Int) := by rw [wrap_nat (by omega) (by omega)]; rfl
    have next := ih (i + 1) (acc ++ [lowI (rd l i)]) (by omega) (by rw [List.length_append, ha]; rfl)
    rw [drop_at hlt, List.map_cons, show acc ++ lowI (rd l i) :: (l.drop (i + 1)).map lowI = (acc ++ [lowI (rd l i)]) ++ (l.drop (i + 1)).map lowI by simp]
    refine Ev.step (fun k => ?_) next
    simp only [colophonref06_low.l0]
    rw [if_pos (by omega), if_pos (by omega), hw]
    rw [← hrd] at hr
    unfold lowI
    by_cases h1 : 65 ≤ rd l i
    · rw [if_pos (show rd l i ≥ 65 from h1)]
      by_cases h2 : rd l i ≤ 90
      · rw [if_pos h2, if_pos (by omega), if_pos ⟨h1, h2⟩, show (rd l i + 32) % 256 = rd l i + 32 by omega]
      · rw [if_neg h2, if_pos (by omega), if_neg (fun h => h2 h.2)]
    · rw [if_neg (show ¬ rd l i ≥ 65 from h1), if_pos (by omega), if_neg (fun h => h1 h.1)]
theorem low_ev (l : List Int) (hb : Byt l) (hl : l.length ≤ 140737488353792) : Ev (fun k => colophonref06_low.f k l) (strOfNums (l.map lowI)) := by
  have := low_loop l hb hl l.length 0 [] (by omega) rfl
  simpa [colophonref06_low.f] using this
theorem l3_ev (l : List Int) (hb : Byt l) (hl : l.length ≤ 140737488353792) (m : Nat) (hm : m ≤ l.length) (r : List Int) : r.length ≤ 140737488353792 → Ev (fun k => colophonref06_Line.l3 k l m r.reverse) (strOfNums ((l.take m).map lowI), (r.dropWhile isBl).reverse, true) := by
  have hlow := low_ev (l.take m) (hb.take m) (by rw [List.length_take]; omega)
  induction r with
  | nil =>
    intro _
    refine Ev.step (fun k => by simp only [colophonref06_Line.l3]; rw [if_neg (by decide), if_pos (by omega), if_pos (by omega), Int.toNat_natCast]) (Ev.bind hlow ?_)
    simp only [copy_some [] (by decide), Option.bind_some, List.reverse_nil, List.dropWhile_nil]
    exact Ev.now _
  | cons a r ih =>
    intro hr
    have hlen : (a :: r).reverse.length = r.length + 1 := by simp
    rw [List.length_cons] at hr
    have hw : wrap64 (((a :: r).reverse.length : Int) - 1) = (r.length : Int) := by rw [hlen, wrap_nat (by omega) (by omega)]; omega
    have hrd : rd (a :: r).reverse (r.length : Int) = a := by
      rw [rd_getElem (by omega)]
      simp
    have htk : (a :: r).reverse.take r.length = r.reverse := by
      rw [List.reverse_cons, List.take_left' (by simp)]
    cases hq : isBl a
    · refine Ev.step (fun k => by simp only [colophonref06_Line.l3]; rw [hw, if_pos (by omega), if_pos (by omega), if_pos (by omega), hrd, blank_is, hq, Option.bind_some, if_neg (by simp), if_pos (by omega), if_pos (by omega), Int.toNat_natCast]) (Ev.bind hlow ?_)
      simp only [copy_some (a :: r).reverse (by rw [hlen]; omega), Option.bind_some, List.dropWhile_cons, hq, Bool.false_eq_true, if_false]
      exact Ev.now _
    · have next := ih (by omega)
      simp only [List.dropWhile_cons, hq, if_true]
      refine Ev.step (fun k => ?_) next
      simp only [colophonref06_Line.l3]
      rw [hw, if_pos (by omega), if_pos (by omega), if_pos (by omega), hrd, blank_is, hq, Option.bind_some, if_pos rfl, if_pos (by omega), Int.toNat_natCast, htk]
theorem l2_ev (l : List Int) (hb : Byt l) (hl : l.length ≤ 140737488353792) (m : Nat) (hm : m ≤ l.length) (v : List Int) : v.length ≤ 140737488353792 → Ev (fun k => colophonref06_Line.l2 k l m v) (strOfNums ((l.take m).map lowI), rtrim (v.dropWhile isBl), true) := by
  induction v with
  | nil =>
    intro _
    have h3 := l3_ev l hb hl m hm [] (by simp)
    rw [List.reverse_nil] at h3
    refine Ev.step (fun k => by simp only [colophonref06_Line.l2]; rw [if_neg (by decide)]) (Ev.step (fun k => by simp only [colophonref06_Line.j5]) h3)
  | cons a v ih =>
    intro hv
    rw [List.length_cons] at hv
    cases hq : isBl a
    · have h3 := l3_ev l hb hl m hm (a :: v).reverse (by simp; omega)
      rw [List.reverse_reverse] at h3
      simp only [List.dropWhile_cons, hq, Bool.false_eq_true, if_false]
      refine Ev.step (fun k => by simp only [colophonref06_Line.l2]; rw [if_pos (by rw [List.length_cons]; omega), if_pos (by rw [List.length_cons]; omega), show rd (a :: v) 0 = a from rfl, blank_is, hq, Option.bind_some, if_neg (by simp)]) (Ev.step (fun k => by simp only [colophonref06_Line.j5]) h3)
    · have next := ih (by omega)
      simp only [List.dropWhile_cons, hq, if_true]
      refine Ev.step (fun k => ?_) next
      simp only [colophonref06_Line.l2]
      rw [if_pos (by rw [List.length_cons]; omega), if_pos (by rw [List.length_cons]; omega), show rd (a :: v) 0 = a from rfl, blank_is, hq, Option.bind_some, if_pos rfl, if_pos (by rw [List.length_cons]; omega)]
      rfl
theorem l1_ev (l : List Int) (hb : Byt l) (hl : l.length ≤ 140737488353792) (m : Nat) (hm : m ≤ l.length) (v : List Int) (hv : v.length ≤ 140737488353792) (d : Nat) : ∀ i : Nat, i + d = v.length →
    Ev (fun k => colophonref06_Line.l1 k l m v i) (if (v.drop i).all valI = true then (strOfNums ((l.take m).map lowI), rtrim (v.dropWhile isBl), true) else (⟨#[]⟩, [], false)) := by
  induction d with
  | zero =>
    intro i hi
    rw [List.drop_of_length_le (by omega)]
    simp only [List.all_nil, if_true]
    refine Ev.step (fun k => ?_) (l2_ev l hb hl m hm v hv)
    simp only [colophonref06_Line.l1]
    rw [if_neg (by omega)]
  | succ d ih =>
    intro i hi
    have hlt : i < v.length := by omega
    have hw : wrap64 ((i : Int) + 1) = ((i + 1 : Nat) : Int) := by rw [wrap_nat (by omega) (by omega)]; rfl
    rw [drop_at hlt, List.all_cons]
    have next := ih (i + 1) (by omega)
    by_cases h9 : rd v i = 9
    · have hv9 : valI (rd v i) = true := by rw [h9]; rfl
      rw [hv9, Bool.true_and]
      refine Ev.step (fun k => ?_) next
      simp only [colophonref06_Line.l1]
      rw [if_pos (by omega), if_pos (by omega), if_pos h9, hw]
    · by_cases h32 : rd v i < 32
      · have hvf : valI (rd v i) = false := by unfold valI; rw [beq_eq_false_iff_ne.mpr h9, decide_eq_false (by omega)]; rfl
        rw [hvf, Bool.false_and, if_neg (by simp)]
        refine Ev.step (f := fun _ => some _) (fun k => ?_) (Ev.now _)
        simp only [colophonref06_Line.l1]
        rw [if_pos (by omega), if_pos (by omega), if_neg h9, if_pos h32]
      · by_cases h126 : rd v i > 126
        · have hvf : valI (rd v i) = false := by unfold valI; rw [beq_eq_false_iff_ne.mpr h9, decide_eq_false (show ¬ rd v i ≤ 126 by omega)]; simp
          rw [hvf, Bool.false_and, if_neg (by simp)]
          refine Ev.step (f := fun _ => some _) (fun k => ?_) (Ev.now _)
          simp only [colophonref06_Line.l1]
          rw [if_pos (by omega), if_pos (by omega), if_neg h9, if_neg h32, if_pos h126]
        · have hvt : valI (rd v i) = true := by unfold valI; rw [decide_eq_true (show 32 ≤ rd v i by omega), decide_eq_true (show rd v i ≤ 126 by omega)]; simp
          rw [hvt, Bool.true_and]
          refine Ev.step (fun k => ?_) next
          simp only [colophonref06_Line.l1]
          rw [if_pos (by omega), if_pos (by omega), if_neg h9, if_neg h32, if_neg h126, hw]
theorem rd_cons (a : Int) (t : List Int) (k : Nat) : rd (a :: t) ((k + 1 : Nat) : Int) = rd t (k : Int) := by
  unfold rd
  rw [Int.toNat_natCast, Int.toNat_natCast]
  simp [List.getD]
theorem tw_in (p : Int → Bool) : ∀ (l : List Int) (k : Nat), k < (l.takeWhile p).length → p (rd l (k : Int)) = true
  | [], k, h => by simp at h
  | a :: t, k, h => by
    cases hq : p a
    · rw [List.takeWhile_cons, hq] at h; simp at h
    · rw [List.takeWhile_cons, hq] at h
      cases k with
      | zero => exact hq
      | succ k =>
        simp at h
        rw [rd_cons]
        exact tw_in p t k h
theorem tw_out (p : Int → Bool) : ∀ (l : List Int), (l.takeWhile p).length < l.length → p (rd l ((l.takeWhile p).length : Int)) = false
  | [], h => by simp at h
  | a :: t, h => by
    cases hq : p a
    · rw [List.takeWhile_cons, hq]; exact hq
    · rw [List.takeWhile_cons, hq] at h ⊢
      simp at h
      simp only [if_true, List.length_cons]
      rw [rd_cons]
      exact tw_out p t h
def nameLen (l : List Int) : Nat := (l.takeWhile nameI).length
theorem nameLen_le (l : List Int) : nameLen l ≤ l.length := (List.takeWhile_sublist _).length_le
/-- The document's line. -/
def lineD (l : List Int) : Option (List Int × List Int) :=
  if nameLen l = 0 ∨ l.length ≤ nameLen l ∨ rd l (nameLen l : Int) ≠ 58 then none
  else if (l.drop (nameLen l + 1)).all valI = true then some (l.take (nameLen l), rtrim ((l.drop (nameLen l + 1)).dropWhile isBl)) else none
def lineOut (o : Option (List Int × List Int)) : ByteArray × List Int × Bool := match o with
  | none => (⟨#[]⟩, [], false)
  | some (n, v) => (strOfNums (n.map lowI), v, true)
theorem line_loop (l : List Int) (hl : l.length ≤ 140737488353792) (r : ByteArray × List Int × Bool) (hr : Ev (fun k => colophonref06_Line.j1 k l (nameLen l)) r) (d : Nat) : ∀ i : Nat, i + d = nameLen l → Ev (fun k => colophonref06_Line.l0 k l i) r := by
  have hle := nameLen_le l
  induction d with
  | zero =>
    intro i hi
    rw [show i = nameLen l by omega]
    by_cases h : nameLen l < l.length
    · have hn : nameI (rd l (nameLen l : Int)) = false := by
        exact tw_out nameI l h
      refine Ev.step (fun k => ?_) hr
      simp only [colophonref06_Line.l0]
      rw [if_pos (by omega), if_pos (by omega), inName_is, hn, Option.bind_some, if_neg (by simp)]
    · refine Ev.step (fun k => ?_) hr
      simp only [colophonref06_Line.l0]
      rw [if_neg (by omega)]
  | succ d ih =>
    intro i hi
    have hlt : i < l.length := by omega
    have hn : nameI (rd l (i : Int)) = true := tw_in nameI l i (by unfold nameLen at hi; omega)
    have hw : wrap64 ((i : Int) + 1) = ((i + 1 : Nat) : Int) := by rw [wrap_nat (by omega) (by omega)]; rfl
    refine Ev.step (fun k => ?_) (ih (i + 1) (by omega))
    simp only [colophonref06_Line.l0]
    rw [if_pos (by omega), if_pos (by omega), inName_is, hn, Option.bind_some, if_pos rfl, hw]
theorem line_ev (l : List Int) (hb : Byt l) (hl : l.length ≤ 140737488353792) : Ev (fun k => colophonref06_Line.f k l) (lineOut (lineD l)) := by
  have hle := nameLen_le l
  unfold colophonref06_Line.f
  refine line_loop l hl _ ?_ (nameLen l) 0 (by omega)
  unfold lineD
  have bad : Ev (fun k => colophonref06_Line.j2 k l (nameLen l) true) (⟨#[]⟩, [], false) := Ev.step (f := fun _ => some _) (fun k => by simp only [colophonref06_Line.j2, if_true]) (Ev.now _)
  have hw : wrap64 ((nameLen l : Int) + 1) = ((nameLen l + 1 : Nat) : Int) := by rw [wrap_nat (by omega) (by omega)]; rfl
  by_cases h0 : nameLen l = 0
  · rw [if_pos (.inl h0)]
    refine Ev.step (fun k => ?_) bad
    simp only [colophonref06_Line.j1]
    rw [if_pos (by omega)]
  · by_cases h1 : l.length ≤ nameLen l
    · rw [if_pos (.inr (.inl h1))]
      refine Ev.step (fun k => ?_) bad
      simp only [colophonref06_Line.j1]
      rw [if_neg (by omega), if_pos (by omega)]
    · by_cases h2 : rd l (nameLen l : Int) = 58
      · rw [if_neg (by simp only [not_or, ne_eq, Decidable.not_not]; exact ⟨h0, h1, h2⟩)]
        have hd : ((l.drop (nameLen l + 1)).drop 0) = l.drop (nameLen l + 1) := rfl
        have h3 := l1_ev l hb hl (nameLen l) hle (l.drop (nameLen l + 1)) (by rw [List.length_drop]; omega) (l.drop (nameLen l + 1)).length 0 (by omega)
        rw [hd] at h3
        have e : lineOut (if (l.drop (nameLen l + 1)).all valI = true then some (l.take (nameLen l), rtrim ((l.drop (nameLen l + 1)).dropWhile isBl)) else none) = (if (l.drop (nameLen l + 1)).all valI = true then (strOfNums ((l.take (nameLen l)).map lowI), rtrim ((l.drop (nameLen l + 1)).dropWhile isBl), true) else (⟨#[]⟩, [], false)) := by
          split <;> rfl
        rw [e]
        refine Ev.step (fun k => by simp only [colophonref06_Line.j1]; rw [if_neg (by omega), if_neg (by omega), if_pos (by omega), if_pos (by omega)]) (Ev.step (fun k => ?_) h3)
        simp only [colophonref06_Line.j2]
        rw [h2, if_neg (by decide), hw, if_pos (by omega), if_pos (by omega), Int.toNat_natCast]
        rfl
      · rw [if_pos (.inr (.inr h2))]
        refine Ev.step (fun k => ?_) bad
        simp only [colophonref06_Line.j1]
        rw [if_neg (by omega), if_neg (by omega), if_pos (by omega), if_pos (by omega), bne_iff_ne.mpr h2]
end Go.Proofs.YthkmacgjekienaaDoor.Pure
namespace Go.Proofs.YthkmacgjekienaaDoor.Pure
open Go.RowKit Go.Proofs.YthkmacgjekienaaDoor.P Go.Proofs.YthkmacgjekienaaDoorW.PrintWords Go.Proofs.YthkmacgjekienaaDoorW.PrintMore
set_option linter.unusedVariables false
set_option linter.unusedSimpArgs false
theorem occ1 (l : List Int) (hb : Byt l) (i : Nat) : Lib.occAt (Lib.bytesOf l) [58] i = (decide (i < l.length) && decide (rd l (i : Int) = 58)) := by
  unfold Lib.occAt
  rw [bytesOf_drop]
  have hd := hb.drop i
  have hlen := List.length_drop (i := i) (l := l)
  have h0 : rd l i = rd (l.drop i) ((0 : Nat) : Int) := by rw [rd_drop]; rfl
  rw [h0]
  generalize l.drop i = m at hd hlen ⊢
  match m, hd, hlen with
  | [], _, hlen =>
    simp at hlen
    rw [decide_eq_false (show ¬ i < l.length by omega)]
    simp [Lib.bytesOf, List.isPrefixOf]
  | a :: t, hd, hlen =>
    have ha := hd.cons.1
    simp only [Lib.bytesOf, List.map_cons, List.isPrefixOf]
    simp only [List.length_cons] at hlen
    rw [decide_eq_true (show i < l.length by omega)]
    have e1 := u8eq a 58 ha (by decide)
    rw [show (UInt8.ofNat 58) = 58 from rfl] at e1
    rw [e1]
    simp [rd, List.getD]
theorem idx1_spec (l : List Int) (hb : Byt l) : (Lib.index (Lib.bytesOf l) [58] = -1 ∧ ∀ j, j < l.length → rd l (j : Int) ≠ 58) ∨ (∃ i : Nat, Lib.index (Lib.bytesOf l) [58] = i ∧ i < l.length ∧ rd l (i : Int) = 58 ∧ ∀ j, j < i → rd l (j : Int) ≠ 58) := by
  rcases Lib.index_spec (Lib.bytesOf l) [58] with ⟨h1, h2⟩ | ⟨i, h1, h2, h3, h4⟩
  · left
    refine ⟨h1, fun j hj he => ?_⟩
    have := h2 j (by rw [Lib.bytesOf_length]; omega)
    rw [occ1 l hb j, decide_eq_true hj, decide_eq_true he] at this
    cases this
  · right
    rw [occ1 l hb i] at h3
    simp only [Bool.and_eq_true, decide_eq_true_eq] at h3
    refine ⟨i, h1, h3.1, h3.2, fun j hj he => ?_⟩
    have := h4 j hj
    rw [occ1 l hb j, decide_eq_true (show j < l.length by omega), decide_eq_true he] at this
    cases this
theorem name_take (l : List Int) : l.take (nameLen l) = l.takeWhile nameI := (List.prefix_iff_eq_take.mp (List.takeWhile_prefix nameI)).symm
theorem rtrim_cons (a : Int) (t : List Int) : rtrim (a :: t) = if rtrim t = [] then (if isBl a = true then [] else [a]) else a :: rtrim t := by
  unfold rtrim
  rw [List.reverse_cons, List.dropWhile_append]
  cases hq : t.reverse.dropWhile isBl with
  | nil =>
    simp only [List.isEmpty_nil, if_true, List.reverse_nil, List.dropWhile_cons, List.dropWhile_nil]
    split <;> simp
  | cons x y => simp
theorem trim_comm (v : List Int) : rtrim (v.dropWhile isBl) = (rtrim v).dropWhile isBl := by
  induction v with
  | nil => rfl
  | cons a t ih =>
    rw [rtrim_cons]
    cases hq : isBl a
    · simp only [List.dropWhile_cons, hq, Bool.false_eq_true, if_false]
      rw [rtrim_cons, hq]
      split
      · simp [hq]
      · simp [hq]
    · simp only [List.dropWhile_cons, hq, if_true]
      rw [ih]
      split
      · rename_i h; rw [h]
      · simp [hq]
theorem bytesOf_rev (v : List Int) : (Lib.bytesOf v).reverse = Lib.bytesOf v.reverse := by simp [Lib.bytesOf, List.map_reverse]
theorem bytesOf_dropWhile (v : List Int) (hb : Byt v) : (Lib.bytesOf v).dropWhile (fun x => List.contains [32, 9] x) = Lib.bytesOf (v.dropWhile isBl) := by
  induction v with
  | nil => rfl
  | cons a t ih =>
    have ha := hb.cons.1
    have := ih hb.cons.2
    unfold Lib.bytesOf at this ⊢
    rw [List.map_cons, List.dropWhile_cons, List.dropWhile_cons, set_bl a ha.1 ha.2]
    cases hq : isBl a
    · simp
    · simpa using this
theorem trim_eq (v : List Int) (hb : Byt v) : trimI v = rtrim (v.dropWhile isBl) := by
  have hk : trimK v = (rtrim v).length := by
    unfold trimK Lib.trimRightS rtrim
    rw [bytesOf_rev, show (fun x : UInt8 => List.contains [32, 9] x) = (fun x => List.contains [32, 9] x) from rfl]
    have := bytesOf_dropWhile v.reverse (fun x hx => hb x (by simpa using hx))
    rw [List.length_reverse, List.length_reverse]
    have e := congrArg List.length this
    rw [Lib.bytesOf_length] at e
    exact e
  have hp : v.take (rtrim v).length = rtrim v := by
    have hsplit : v = rtrim v ++ (v.reverse.takeWhile isBl).reverse := by
      unfold rtrim
      rw [← List.reverse_append, List.takeWhile_append_dropWhile, List.reverse_reverse]
    conv => lhs; rw [hsplit]
    rw [show (rtrim (rtrim v ++ (v.reverse.takeWhile isBl).reverse)).length = (rtrim v).length by rw [← hsplit]]
    rw [List.take_left']
    rfl
  unfold trimI
  rw [hk, hp, trim_comm]
theorem line_eq (l : List Int) (hb : Byt l) : lineF l = lineD l := by
  have hle := nameLen_le l
  unfold lineF lineD
  rcases idx1_spec l hb with ⟨h1, h2⟩ | ⟨i, h1, h2, h3, h4⟩
  · rw [h1, if_pos (by decide), if_pos]
    by_cases g : l.length ≤ nameLen l
    · exact .inr (.inl g)
    · exact .inr (.inr (h2 _ (by omega)))
  · rw [h1, if_neg (by omega), Int.toNat_natCast]
    have hmi : nameLen l ≤ i := by
      rcases Nat.lt_or_ge i (nameLen l) with g | g
      · have := tw_in nameI l i g
        rw [h3] at this
        exact absurd this (by decide)
      · exact g
    by_cases e : nameLen l = i
    · rw [e]
      by_cases h0 : i = 0
      · rw [if_pos h0, if_pos (.inl h0)]
      · have ha : (l.take i).all nameI = true := by rw [← e, name_take]; exact List.all_takeWhile
        have hn3 : ¬ (i = 0 ∨ l.length ≤ i ∨ rd l (i : Int) ≠ 58) := fun g => g.elim h0 (fun g => g.elim (fun g => absurd h2 (by omega)) (fun g => g h3))
        rw [if_neg h0, if_pos ha, if_neg hn3, trim_eq _ (hb.drop _)]
    · have hlt : nameLen l < i := by omega
      have hout : nameI (rd l (nameLen l : Int)) = false := tw_out nameI l (by unfold nameLen at hlt; omega)
      rw [if_pos (c := nameLen l = 0 ∨ l.length ≤ nameLen l ∨ rd l (nameLen l : Int) ≠ 58) (.inr (.inr (h4 _ hlt)))]
      by_cases h0 : i = 0
      · rw [if_pos h0]
      · rw [if_neg h0, if_neg]
        intro ha
        have hm : rd l (nameLen l : Int) ∈ l.take i := by
          rw [rd_getElem (show nameLen l < l.length by omega)]
          rw [List.mem_take_iff_getElem]
          exact ⟨nameLen l, by omega, rfl⟩
        have := List.all_eq_true.mp ha _ hm
        rw [hout] at this
        cases this
def goodP (p : UInt8 × UInt8) : Bool := (List.range 128).all fun x => Lib.foldEq (UInt8.ofNat x) p.1 == decide (UInt8.ofNat (lowI (x : Int)).toNat = p.2)
theorem fold_low (P : List (UInt8 × UInt8)) (hP : P.all goodP = true) : ∀ n : List Int, n.all nameI = true → Lib.equalFold (Lib.bytesOf n) (P.map (·.1)) = decide (Lib.bytesOf (n.map lowI) = P.map (·.2)) := by
  induction P with
  | nil =>
    intro n _
    cases n with
    | nil => rfl
    | cons a t => rfl
  | cons p P ih =>
    intro n hn
    rw [List.all_cons, Bool.and_eq_true] at hP
    cases n with
    | nil => rfl
    | cons a t =>
      rw [List.all_cons, Bool.and_eq_true] at hn
      have ha : 0 ≤ a ∧ a < 128 := by
        refine ⟨?_, ?_⟩
        · rcases Int.lt_or_le a 0 with g | g
          · exfalso
            have := hn.1
            unfold nameI at this
            rw [decide_eq_false (show ¬ 97 ≤ a by omega), decide_eq_false (show ¬ 65 ≤ a by omega), decide_eq_false (show ¬ 48 ≤ a by omega), beq_eq_false_iff_ne.mpr (show a ≠ 45 by omega)] at this
            cases this
          · exact g
        · rcases Int.lt_or_le a 128 with g | g
          · exact g
          · have := hn.1; rw [nameI_high g] at this; cases this
      obtain ⟨x, rfl⟩ := Int.eq_ofNat_of_zero_le ha.1
      have hg := List.all_eq_true.mp hP.1 x (List.mem_range.mpr (by omega))
      have hg' : Lib.foldEq (UInt8.ofNat x) p.1 = decide (UInt8.ofNat (lowI (x : Int)).toNat = p.2) := by simpa using hg
      have e := ih hP.2 t hn.2
      unfold Lib.bytesOf at e ⊢
      simp only [List.map_cons, Int.toNat_natCast, Lib.equalFold]
      rw [hg', e]
      simp only [List.cons.injEq]
      by_cases c1 : UInt8.ofNat (lowI (x : Int)).toNat = p.2
      · rw [decide_eq_true c1, Bool.true_and]; simp [c1]
      · rw [decide_eq_false c1, Bool.false_and]; simp [c1]
theorem eqCL_is (n : List Int) (hn : n.all nameI = true) : eqCL n = decide ((strOfNums (n.map lowI)).toList = ([99, 111, 110, 116, 101, 110, 116, 45, 108, 101, 110, 103, 116, 104] : List UInt8)) := by
  unfold eqCL
  rw [Lib.toList_data, strOfNums_data]
  exact fold_low [(67, 99), (111, 111), (110, 110), (116, 116), (101, 101), (110, 110), (116, 116), (45, 45), (76, 108), (101, 101), (110, 110), (103, 103), (116, 116), (104, 104)] (by decide +kernel) n hn
theorem lineD_name {l n v : List Int} (h : lineD l = some (n, v)) : n.all nameI = true := by
  unfold lineD at h
  split at h
  · cases h
  · split at h
    · simp only [Option.some.injEq, Prod.mk.injEq] at h
      rw [← h.1, name_take]
      exact List.all_takeWhile
    · cases h
end Go.Proofs.YthkmacgjekienaaDoor.Pure
namespace Go.Proofs.YthkmacgjekienaaDoor.Pure
open Go.RowKit Go.Proofs.YthkmacgjekienaaDoor.P Go.Proofs.YthkmacgjekienaaDoorW.PrintWords Go.Proofs.YthkmacgjekienaaDoorW.PrintMore
set_option linter.unusedVariables false
set_option linter.unusedSimpArgs false
theorem lineD_len {l n v : List Int} (h : lineD l = some (n, v)) : v.length ≤ l.length := by
  unfold lineD at h
  split at h
  · cases h
  · split at h
    · simp only [Option.some.injEq, Prod.mk.injEq] at h
      rw [← h.2]
      unfold rtrim
      have h1 := (List.dropWhile_sublist isBl (l := ((l.drop (nameLen l + 1)).dropWhile isBl).reverse)).length_le
      have h2 := (List.dropWhile_sublist isBl (l := l.drop (nameLen l + 1))).length_le
      rw [List.length_reverse] at h1 ⊢
      rw [List.length_drop] at h2
      omega
    · cases h
theorem rd_sub (l : List Int) (N a j : Nat) (h : a + j < N) : rd ((l.take N).drop a) (j : Int) = rd l ((a + j : Nat) : Int) := by
  rw [rd_drop]
  unfold rd
  rw [Int.toNat_natCast]
  simp [List.getD, List.getElem?_take, h]
theorem pair_sub (l : List Int) (N a j : Nat) (hN : N ≤ l.length) (h : a + j + 1 < N) : pairB ((l.take N).drop a) j = pairB l (a + j) := by
  unfold pairB
  rw [rd_sub l N a j (by omega), rd_sub l N a (j + 1) (by omega), List.length_drop, List.length_take, decide_eq_true (show j + 1 < min N l.length - a by omega), decide_eq_true (show a + j + 1 < l.length by omega)]
  rfl
theorem stop_ev (l : List Int) (hl : l.length ≤ 140737488353792) (E body : Int) (at_ s : Nat) (hs : s < l.length) (r : Int × Int × Int) (hr : Ev (fun k => colophonref06_Parse.l1 k l E body at_ s) r) (d : Nat) : ∀ c : Nat, c + d = s → (∀ j, c ≤ j → j < s → pairB l j = false) → Ev (fun k => colophonref06_Parse.l1 k l E body at_ c) r := by
  induction d with
  | zero => intro c hc _; rw [show c = s by omega]; exact hr
  | succ d ih =>
    intro c hc hn
    have hp := pair_is l (by omega) c (by omega)
    rw [hn c (Nat.le_refl _) (by omega)] at hp
    have hw : wrap64 ((c : Int) + 1) = ((c + 1 : Nat) : Int) := by rw [wrap_nat (by omega) (by omega)]; rfl
    refine Ev.step (fun k => ?_) (ih (c + 1) (by omega) (fun j h1 h2 => hn j (by omega) h2))
    simp only [colophonref06_Parse.l1]
    rw [hp, Option.bind_some, if_neg (by simp), hw]
/-- The document, from the start of a line. -/
theorem doc_line (l : List Int) (hl : l.length ≤ 140737488353792) (E : Nat) (hE4 : 4 ≤ E) (hEl : E ≤ l.length) (body : Int) (at_ s : Nat) (h1 : at_ ≤ s) (h2 : s + 4 ≤ E) (hpl : pairB l s = true) (hpn : ∀ j, at_ ≤ j → j < s → pairB l j = false) (r : Int × Int × Int)
    (hr : Ev (fun k => (colophonref06_Line.f k ((l.take s).drop at_)).bind fun bt172 => (if bt172.2.2 = true then (if bt172.1.toList = ([99, 111, 110, 116, 101, 110, 116, 45, 108, 101, 110, 103, 116, 104] : List UInt8) then ((colophonref05_Parse.f k bt172.2.1 65536).bind fun bt177 => (if bt177.2 = 5 then (some (0, 0, 5)) else (if bt177.2 = 0 then (if body ≥ 0 then (if bt177.1 = body then (colophonref06_Parse.l0 k l E bt177.1 ((s + 2 : Nat) : Int)) else (some (0, 0, 60))) else (colophonref06_Parse.l0 k l E bt177.1 ((s + 2 : Nat) : Int))) else (some (0, 0, 60))))) else (colophonref06_Parse.l0 k l E body ((s + 2 : Nat) : Int))) else (some (0, 0, 60)))) r) : Ev (fun k => colophonref06_Parse.l0 k l E body at_) r := by
  have hw2 : wrap64 ((E : Int) - 2) = ((E - 2 : Nat) : Int) := by rw [wrap_nat (by omega) (by omega)]; omega
  have hpi := pair_is l (by omega) s (by omega)
  rw [hpl] at hpi
  have hws : wrap64 ((s : Int) + 2) = ((s + 2 : Nat) : Int) := by rw [wrap_nat (by omega) (by omega)]; rfl
  have i1 : (0 : Int) ≤ (at_ : Int) := by omega
  have i2 : (at_ : Int) ≤ (s : Int) := by omega
  have i3 : (s : Int) ≤ (l.length : Int) := by omega
  have i4 : (at_ : Int) < ((E - 2 : Nat) : Int) := by omega
  have hs1 : Ev (fun k => colophonref06_Parse.l1 k l E body at_ s) r := by
    refine Ev.step (fun k => ?_) hr
    rw [colophonref06_Parse.l1, hpi, Option.bind_some, if_pos rfl, if_pos i1, if_pos i2, if_pos i3, Int.toNat_natCast, Int.toNat_natCast, hws]
  have hs2 := stop_ev l hl E body at_ s (by omega) r hs1 (s - at_) at_ (by omega) hpn
  refine Ev.step (fun k => ?_) hs2
  rw [colophonref06_Parse.l0, hw2, if_pos i4]
def outOf (E : Int) (t : Int × Int) : Int × Int × Int := if t.2 = 0 then (if t.1 < 0 then (0, 0, 60) else (t.1, E, 0)) else (0, 0, t.2)
set_option maxHeartbeats 2000000 in
theorem loops (l : List Int) (hb : Byt l) (hl : l.length ≤ 140737488353792) (E : Nat) (hE4 : 4 ≤ E) (hEl : E ≤ l.length) (hp4 : pairB l (E - 4) = true) (d : Nat) : ∀ (at_ : Nat) (body : Int) (f : Nat), E - 2 - at_ ≤ d → (at_ + 4 ≤ E ∨ at_ + 2 = E) → d < f →
    ∃ r, Ev (fun k => hloop k f ((l.take (E - 2)).drop at_) body) r ∧ Ev (fun k => colophonref06_Parse.l0 k l E body at_) (outOf E r) := by
  have hw2 : wrap64 ((E : Int) - 2) = ((E - 2 : Nat) : Int) := by rw [wrap_nat (by omega) (by omega)]; omega
  have stop : ∀ (at_ : Nat) (body : Int) (f : Nat), at_ + 2 = E → ∃ r, Ev (fun k => hloop k (f + 1) ((l.take (E - 2)).drop at_) body) r ∧ Ev (fun k => colophonref06_Parse.l0 k l E body at_) (outOf E r) := by
    intro at_ body f h
    have he : (l.take (E - 2)).drop at_ = [] := by rw [List.drop_of_length_le]; rw [List.length_take]; omega
    refine ⟨(body, 0), ?_, ?_⟩
    · rw [he]
      simp only [hloop, List.length_nil, Nat.lt_irrefl, if_false]
      exact Ev.now _
    · refine Ev.step (f := fun _ => some (outOf E (body, 0))) (fun k => ?_) (Ev.now _)
      simp only [colophonref06_Parse.l0, outOf]
      rw [hw2, if_neg (by omega), if_pos trivial]
      split <;> rfl
  induction d with
  | zero =>
    intro at_ body f hd hat hf
    obtain ⟨f, rfl⟩ : ∃ g, f = g + 1 := ⟨f - 1, by omega⟩
    exact stop at_ body f (by omega)
  | succ d ih =>
    intro at_ body f hd hat hf
    obtain ⟨f, rfl⟩ : ∃ g, f = g + 1 := ⟨f - 1, by omega⟩
    rcases hat with hat | hat
    · have hrl : ((l.take (E - 2)).drop at_).length = E - 2 - at_ := by rw [List.length_drop, List.length_take]; omega
      have hrb : Byt ((l.take (E - 2)).drop at_) := (hb.take _).drop _
      have hpr : pairB ((l.take (E - 2)).drop at_) (E - 4 - at_) = true := by
        rw [pair_sub l (E - 2) at_ _ (by omega) (by omega), show at_ + (E - 4 - at_) = E - 4 by omega]; exact hp4
      rcases idx2_spec _ hrb with ⟨h1, h2⟩ | ⟨i, h1, h2, h3⟩
      · rw [h2] at hpr; cases hpr
      · have hi4 : i ≤ E - 4 - at_ := by
          rcases Nat.lt_or_ge (E - 4 - at_) i with g | g
          · rw [h3 _ g] at hpr; cases hpr
          · exact g
        have hpl : pairB l (at_ + i) = true := by rw [← pair_sub l (E - 2) at_ i (by omega) (by omega)]; exact h2
        have hpn : ∀ j, at_ ≤ j → j < at_ + i → pairB l j = false := fun j g1 g2 => by
          have := h3 (j - at_) (by omega)
          rw [pair_sub l (E - 2) at_ _ (by omega) (by omega), show at_ + (j - at_) = j by omega] at this
          exact this
        have hone : ((l.take (E - 2)).drop at_).take i = (l.take (at_ + i)).drop at_ := by
          rw [List.drop_take, List.drop_take, List.take_take]
          congr 1
          omega
        have hrest : ((l.take (E - 2)).drop at_).drop (i + 2) = (l.take (E - 2)).drop (at_ + i + 2) := by rw [List.drop_drop, Nat.add_assoc]
        have hcut : cutF ((l.take (E - 2)).drop at_) = ((l.take (at_ + i)).drop at_, (l.take (E - 2)).drop (at_ + i + 2)) := by
          unfold cutF
          rw [h1, if_pos (by omega), Int.toNat_natCast, hone, hrest]
        have hnext : at_ + i + 2 + 4 ≤ E ∨ at_ + i + 2 + 2 = E := by
          by_cases g : at_ + i + 5 = E
          · exfalso
            have g1 := (pair_lt hpl).2.2
            have g2 := (pair_lt hp4).2.1
            rw [show E - 4 = at_ + i + 1 by omega, g1] at g2
            cases g2
          · omega
        have IH := fun b => ih (at_ + i + 2) b f (by omega) hnext (by omega)
        have hpos : 0 < ((l.take (E - 2)).drop at_).length := by omega
        have hob : Byt ((l.take (at_ + i)).drop at_) := (hb.take _).drop _
        have hol : ((l.take (at_ + i)).drop at_).length ≤ 140737488353792 := by rw [List.length_drop, List.length_take]; omega
        have hln := line_ev _ hob hol
        have hle := line_eq _ hob
        have hnm := fun n v (h : lineD ((l.take (at_ + i)).drop at_) = some (n, v)) => And.intro (lineD_name h) (lineD_len h)
        have doc := doc_line l hl E hE4 hEl body at_ (at_ + i) (by omega) (by omega) hpl hpn
        generalize (l.take (at_ + i)).drop at_ = one at hcut hln hle hnm doc hol
        generalize (l.take (E - 2)).drop (at_ + i + 2) = rest2 at hcut IH
        generalize (l.take (E - 2)).drop at_ = rest at hcut hpos
        have hu : ∀ k, hloop k (f + 1) rest body = (match lineD one with
          | none => some (0, 60)
          | some (n, v) => if eqCL n = true then
              (digits_Parse.f k v 65536).bind fun t => if t.2 = 5 then some (0, 5) else if t.2 = 0 then (if 0 ≤ body then (if t.1 = body then hloop k f rest2 t.1 else some (0, 60)) else hloop k f rest2 t.1) else some (0, 60)
            else hloop k f rest2 body) := fun k => by rw [hloop, if_pos hpos, hcut, hle]; rfl
        simp only [hu]
        cases hD : lineD one with
        | none =>
          rw [hD] at hln
          refine ⟨(0, 60), Ev.now _, doc _ (Ev.bind hln ?_)⟩
          simp only [lineOut, Bool.false_eq_true, if_false]
          exact Ev.now _
        | some nv =>
          obtain ⟨n, v⟩ := nv
          obtain ⟨hna, hvl⟩ := hnm n v hD
          rw [hD] at hln
          have heq := eqCL_is n hna
          simp only
          by_cases hq : eqCL n = true
          · rw [hq] at heq
            have hq2 := of_decide_eq_true heq.symm
            simp only [if_pos hq]
            have p1 := parse_ev v (by omega) 65536 (by decide)
            have p2 := refParse_ev v (by omega) 65536 (by decide)
            generalize parsed v 65536 = t at p1 p2
            obtain ⟨t1, t2⟩ := t
            have key : ∃ r, Ev (fun k => if t2 = 5 then some (0, 5) else if t2 = 0 then (if 0 ≤ body then (if t1 = body then hloop k f rest2 t1 else some (0, 60)) else hloop k f rest2 t1) else some (0, 60)) r ∧ Ev (fun k => (if t2 = 5 then (some (0, 0, 5)) else (if t2 = 0 then (if body ≥ 0 then (if t1 = body then (colophonref06_Parse.l0 k l E t1 ((at_ + i + 2 : Nat) : Int)) else (some (0, 0, 60))) else (colophonref06_Parse.l0 k l E t1 ((at_ + i + 2 : Nat) : Int))) else (some (0, 0, 60))))) (outOf E r) := by
              by_cases h5 : t2 = 5
              · simp only [if_pos h5]
                exact ⟨(0, 5), Ev.now _, Ev.now _⟩
              · simp only [if_neg h5]
                by_cases h0 : t2 = 0
                · simp only [if_pos h0, ge_iff_le]
                  by_cases hbp : 0 ≤ body
                  · simp only [if_pos hbp]
                    by_cases he : t1 = body
                    · simp only [if_pos he]; exact IH t1
                    · simp only [if_neg he]; exact ⟨(0, 60), Ev.now _, Ev.now _⟩
                  · simp only [if_neg hbp]; exact IH t1
                · simp only [if_neg h0]
                  exact ⟨(0, 60), Ev.now _, Ev.now _⟩
            obtain ⟨r, k1, k2⟩ := key
            refine ⟨r, Ev.bind p1 k1, doc _ (Ev.bind hln ?_)⟩
            simp only [lineOut, if_true, eq_true hq2]
            exact Ev.bind p2 k2
          · have hqf : eqCL n = false := by simpa using hq
            rw [hqf] at heq
            have hq2 := of_decide_eq_false heq.symm
            simp only [if_neg hq]
            obtain ⟨r, k1, k2⟩ := IH body
            refine ⟨r, k1, doc _ (Ev.bind hln ?_)⟩
            simp only [lineOut, if_true, eq_false hq2, if_false]
            exact k2
    · exact stop at_ body f hat
end Go.Proofs.YthkmacgjekienaaDoor.Pure

namespace Go.Proofs.YthkmacgjekienaaDoor.Pure
open Go.RowKit Go.Proofs.YthkmacgjekienaaDoor.P Go.Proofs.YthkmacgjekienaaDoorW.PrintWords Go.Proofs.YthkmacgjekienaaDoorW.PrintMore
set_option linter.unusedVariables false
set_option linter.unusedSimpArgs false
theorem pair_take (l : List Int) (N j : Nat) (h : pairB (l.take N) j = true) : pairB l j = true := by
  obtain ⟨h1, h2, h3⟩ := pair_lt h
  rw [List.length_take] at h1
  have e0 := rd_sub l N 0 j (by omega)
  have e1 := rd_sub l N 0 (j + 1) (by omega)
  simp only [List.drop_zero, Nat.zero_add] at e0 e1
  unfold pairB
  rw [← e0, ← e1, h2, h3, decide_eq_true (show j + 1 < l.length by omega)]
  rfl
set_option maxHeartbeats 2000000 in
theorem both_parse (l : List Int) (hb : Byt l) (hl : l.length ≤ 140737488353792) : ∃ r, Ev (fun k => head_Parse.f k l) r ∧ Ev (fun k => colophonref06_Parse.f k l) r := by
  have hmn : mn (l.length : Int) 512 = ((min l.length 512 : Nat) : Int) := by unfold mn; split <;> omega
  have ht : l.take (min l.length 512) = l.take 512 := by
    rcases Nat.le_total l.length 512 with g | g
    · rw [Nat.min_eq_left g, List.take_of_length_le (Nat.le_refl _), List.take_of_length_le g]
    · rw [Nat.min_eq_right g]
  have htl : (l.take 512).length ≤ 512 := by rw [List.length_take]; omega
  have hE := end_ev (l.take 512) (hb.take _) (by omega)
  have hfacts := endI_facts (l.take 512) (hb.take _)
  have doc : ∀ r, Ev (fun k => (if endI (l.take 512) < 0 then (if (l.length : Int) ≥ 512 then (some (0, 0, 5)) else (some (0, 0, 3))) else (colophonref06_Parse.l0 k l (endI (l.take 512)) (-1) 0))) r → Ev (fun k => colophonref06_Parse.f k l) r := by
    intro r hr
    unfold colophonref06_Parse.f
    simp only [hmn, Int.toNat_natCast, ht, if_pos (show (0 : Int) ≤ ((min l.length 512 : Nat) : Int) by omega), if_pos (show ((min l.length 512 : Nat) : Int) ≤ (l.length : Int) by omega)]
    exact Ev.bind hE hr
  unfold head_Parse.f
  simp only [fits_is hb, if_true]
  have hend : endI (l.take 512) = if (endF (l.take 512)).2 = true then (endF (l.take 512)).1 else -1 := rfl
  have hrange := endF_range (l.take 512)
  generalize endF (l.take 512) = F at hend hrange ⊢
  obtain ⟨F1, F2⟩ := F
  simp only at hend hrange
  cases F2
  · simp only [Bool.false_eq_true, if_false] at hend
    simp only [Bool.false_eq_true, if_false]
    rw [hend] at doc
    by_cases h5 : 512 ≤ l.length
    · simp only [if_pos h5]
      refine ⟨(0, 0, 5), Ev.now _, doc _ ?_⟩
      simp only [if_pos (show (-1 : Int) < 0 by decide), if_pos (show (l.length : Int) ≥ 512 by omega)]
      exact Ev.now _
    · simp only [if_neg h5]
      refine ⟨(0, 0, 3), Ev.now _, doc _ ?_⟩
      simp only [if_pos (show (-1 : Int) < 0 by decide), if_neg (show ¬ (l.length : Int) ≥ 512 by omega)]
      exact Ev.now _
  · simp only [if_true] at hend
    have hr := hrange rfl
    rw [hend] at doc hfacts
    simp only [if_true]
    simp only [if_neg (show ¬ F1 < 0 by omega)] at doc
    rcases hfacts with hf | ⟨hf, hp⟩ | ⟨e, hf, he4, hel, hp4, hp2⟩
    · omega
    · subst hf
      refine ⟨(0, 0, 60), ?_, doc _ (Ev.step (f := fun _ => some (0, 0, 60)) (fun k => ?_) (Ev.now _))⟩
      · simp only [show ((2 : Int) - 2).toNat = 0 from rfl, List.take_zero, hloop, List.length_nil, Nat.lt_irrefl, if_false, Option.bind_some, if_true, if_pos (show (-1 : Int) < 0 by decide)]
        exact Ev.now _
      · simp only [colophonref06_Parse.l0]
        rw [show wrap64 ((2 : Int) - 2) = 0 from by unfold wrap64; omega, if_neg (by decide), if_pos (by decide)]
    · subst hf
      have hel2 : e ≤ l.length := by rw [List.length_take] at hel; omega
      obtain ⟨r, k1, k2⟩ := loops l hb hl e he4 hel2 (pair_take l 512 _ hp4) (e - 2) 0 (-1) (l.length + 1) (by omega) (by omega) (by omega)
      rw [List.drop_zero] at k1
      refine ⟨outOf e r, ?_, doc _ k2⟩
      rw [show ((e : Int) - 2).toNat = e - 2 by omega]
      refine Ev.bind k1 ?_
      unfold outOf
      by_cases h0 : r.2 = 0
      · simp only [if_pos h0]
        by_cases hn : r.1 < 0
        · simp only [if_pos hn]; exact Ev.now _
        · simp only [if_neg hn]; exact Ev.now _
      · simp only [if_neg h0]; exact Ev.now _
end Go.Proofs.YthkmacgjekienaaDoor.Pure
