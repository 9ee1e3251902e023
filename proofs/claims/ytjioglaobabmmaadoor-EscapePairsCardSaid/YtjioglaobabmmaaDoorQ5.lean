/- The escapes: the program's and the document's. -/
import Derived.Test.YtjioglaobabmmaaDoorP3
import Derived.Test.YtjioglaobabmmaaDoorP6
import Derived.Test.YtjioglaobabmmaaDoorP7
import Derived.Test.YtjioglaobabmmaaDoorQ4
namespace Go.Proofs.YtjioglaobabmmaaDoor.Pure
open Go.RowKit Go.Proofs.YtjioglaobabmmaaDoor.P Go.Proofs.YtjioglaobabmmaaDoorW.PrintWords
set_option linter.unusedVariables false
set_option linter.unusedSimpArgs false
def hexv (c : Int) : Option Int := if 48 ≤ c ∧ c ≤ 57 then some (c - 48) else if 97 ≤ c ∧ c ≤ 102 then some (c - 87) else if 65 ≤ c ∧ c ≤ 70 then some (c - 55) else none
theorem hexv_range {c v : Int} (h : hexv c = some v) : 0 ≤ v ∧ v ≤ 15 := by
  unfold hexv at h
  split at h
  · cases h; omega
  · split at h
    · cases h; omega
    · split at h
      · cases h; omega
      · cases h
theorem digit_ev (c : Int) (h0 : 0 ≤ c) (h1 : c ≤ 255) : Ev (fun k => escape_digit.f k c) (match hexv c with | some v => (v, true) | none => (0, false)) := by
  unfold escape_digit.f hexv
  by_cases a : 48 ≤ c
  · simp only [if_pos a]
    by_cases b : c ≤ 57
    · simp only [if_pos (show 48 ≤ c ∧ c ≤ 57 from ⟨a, b⟩), decide_eq_true b]
      refine Ev.step (f := fun _ => some (c - 48, true)) (fun k => ?_) (Ev.now _)
      simp only [escape_digit.j0, if_true]
      rw [show (c - 48) % 256 = c - 48 by omega]
    · simp only [if_neg (show ¬ (48 ≤ c ∧ c ≤ 57) from fun h => b h.2), decide_eq_false b]
      by_cases d : 97 ≤ c
      · by_cases e : c ≤ 102
        · simp only [if_pos (show 97 ≤ c ∧ c ≤ 102 from ⟨d, e⟩)]
          refine Ev.step (f := fun k => escape_digit.j1 k c true) (fun k => ?_) (Ev.step (f := fun _ => some (c - 87, true)) (fun k => ?_) (Ev.now _))
          · simp only [escape_digit.j0, Bool.false_eq_true, if_false]; rw [if_pos d, decide_eq_true e]
          · simp only [escape_digit.j1, if_true]; rw [show (c - 97) % 256 + 10 = c - 87 by omega]
        · simp only [if_neg (show ¬ (97 ≤ c ∧ c ≤ 102) from fun h => e h.2), if_neg (show ¬ (65 ≤ c ∧ c ≤ 70) by omega)]
          refine Ev.step (f := fun k => escape_digit.j1 k c false) (fun k => ?_) (Ev.step (f := fun _ => some (0, false)) (fun k => ?_) (Ev.now _))
          · simp only [escape_digit.j0, Bool.false_eq_true, if_false]; rw [if_pos d, decide_eq_false e]
          · simp only [escape_digit.j1, Bool.false_eq_true, if_false]; rw [if_pos (by omega), if_neg (by omega)]
      · simp only [if_neg (show ¬ (97 ≤ c ∧ c ≤ 102) from fun h => d h.1)]
        refine Ev.step (f := fun k => escape_digit.j1 k c false) (fun k => ?_) ?_
        · simp only [escape_digit.j0, Bool.false_eq_true, if_false]; rw [if_neg d]
        · by_cases g : 65 ≤ c ∧ c ≤ 70
          · simp only [if_pos g]
            refine Ev.step (f := fun _ => some (c - 55, true)) (fun k => ?_) (Ev.now _)
            simp only [escape_digit.j1, Bool.false_eq_true, if_false]; rw [if_pos g.1, if_pos g.2, show (c - 65) % 256 + 10 = c - 55 by omega]
          · simp only [if_neg g]
            refine Ev.step (f := fun _ => some (0, false)) (fun k => ?_) (Ev.now _)
            simp only [escape_digit.j1, Bool.false_eq_true, if_false]
            by_cases g1 : 65 ≤ c
            · rw [if_pos g1, if_neg (fun h => g ⟨g1, h⟩)]
            · rw [if_neg g1]
  · simp only [if_neg a, if_neg (show ¬ (48 ≤ c ∧ c ≤ 57) from fun h => a h.1), if_neg (show ¬ (97 ≤ c ∧ c ≤ 102) by omega), if_neg (show ¬ (65 ≤ c ∧ c ≤ 70) by omega)]
    refine Ev.step (f := fun k => escape_digit.j1 k c false) (fun k => ?_) (Ev.step (f := fun _ => some (0, false)) (fun k => ?_) (Ev.now _))
    · simp only [escape_digit.j0, Bool.false_eq_true, if_false]; rw [if_neg (by omega)]
    · simp only [escape_digit.j1, Bool.false_eq_true, if_false]; rw [if_neg (by omega)]
theorem value_ev (c : Int) (h0 : 0 ≤ c) (h1 : c ≤ 255) : Ev (fun k => colophonref08_value.f k c) (match hexv c with | some v => v | none => -1) := by
  unfold colophonref08_value.f hexv
  by_cases a : 48 ≤ c
  · simp only [if_pos (show c ≥ 48 from a)]
    by_cases b : c ≤ 57
    · simp only [if_pos (show 48 ≤ c ∧ c ≤ 57 from ⟨a, b⟩), decide_eq_true b]
      refine Ev.step (f := fun _ => some (c - 48)) (fun k => ?_) (Ev.now _)
      simp only [colophonref08_value.j0, if_true]
      rw [show (c - 48) % 256 = c - 48 by omega]
    · simp only [if_neg (show ¬ (48 ≤ c ∧ c ≤ 57) from fun h => b h.2), decide_eq_false b]
      by_cases d : 97 ≤ c
      · by_cases e : c ≤ 102
        · simp only [if_pos (show 97 ≤ c ∧ c ≤ 102 from ⟨d, e⟩)]
          refine Ev.step (f := fun k => colophonref08_value.j1 k c true) (fun k => ?_) (Ev.step (f := fun _ => some (c - 87)) (fun k => ?_) (Ev.now _))
          · simp only [colophonref08_value.j0, Bool.false_eq_true, if_false]; rw [if_pos (show c ≥ 97 from d), decide_eq_true e]
          · simp only [colophonref08_value.j1, if_true]; rw [show (c - 97) % 256 + 10 = c - 87 by omega]
        · simp only [if_neg (show ¬ (97 ≤ c ∧ c ≤ 102) from fun h => e h.2), if_neg (show ¬ (65 ≤ c ∧ c ≤ 70) by omega)]
          refine Ev.step (f := fun k => colophonref08_value.j1 k c false) (fun k => ?_) (Ev.step (f := fun _ => some (-1)) (fun k => ?_) (Ev.now _))
          · simp only [colophonref08_value.j0, Bool.false_eq_true, if_false]; rw [if_pos (show c ≥ 97 from d), decide_eq_false e]
          · simp only [colophonref08_value.j1, Bool.false_eq_true, if_false]; rw [if_pos (by omega), if_neg (by omega)]
      · simp only [if_neg (show ¬ (97 ≤ c ∧ c ≤ 102) from fun h => d h.1)]
        refine Ev.step (f := fun k => colophonref08_value.j1 k c false) (fun k => ?_) ?_
        · simp only [colophonref08_value.j0, Bool.false_eq_true, if_false]; rw [if_neg (show ¬ c ≥ 97 from d)]
        · by_cases g : 65 ≤ c ∧ c ≤ 70
          · simp only [if_pos g]
            refine Ev.step (f := fun _ => some (c - 55)) (fun k => ?_) (Ev.now _)
            simp only [colophonref08_value.j1, Bool.false_eq_true, if_false]; rw [if_pos (show c ≥ 65 from g.1), if_pos g.2, show (c - 65) % 256 + 10 = c - 55 by omega]
          · simp only [if_neg g]
            refine Ev.step (f := fun _ => some (-1)) (fun k => ?_) (Ev.now _)
            simp only [colophonref08_value.j1, Bool.false_eq_true, if_false]
            by_cases g1 : 65 ≤ c
            · rw [if_pos (show c ≥ 65 from g1), if_neg (fun h => g ⟨g1, h⟩)]
            · rw [if_neg (show ¬ c ≥ 65 from g1)]
  · simp only [if_neg (show ¬ c ≥ 48 from a), if_neg (show ¬ (48 ≤ c ∧ c ≤ 57) from fun h => a h.1), if_neg (show ¬ (97 ≤ c ∧ c ≤ 102) by omega), if_neg (show ¬ (65 ≤ c ∧ c ≤ 70) by omega)]
    refine Ev.step (f := fun k => colophonref08_value.j1 k c false) (fun k => ?_) (Ev.step (f := fun _ => some (-1)) (fun k => ?_) (Ev.now _))
    · simp only [colophonref08_value.j0, Bool.false_eq_true, if_false]; rw [if_neg (by omega)]
    · simp only [colophonref08_value.j1, Bool.false_eq_true, if_false]; rw [if_neg (by omega)]
/-- Four digits of base 16: the number, or what is wrong. -/
def fourR : Nat → List Int → Int → Int × Int
  | 0, _, n => (n, 0)
  | _ + 1, [], _ => (0, 3)
  | r + 1, c :: t, n => match hexv c with
    | some v => fourR r t (n * 16 + v)
    | none => (0, 80)
theorem fourR_range : ∀ (r : Nat) (l : List Int) (n b : Int), 0 ≤ n → n < b → 0 < b → 0 ≤ (fourR r l n).1 ∧ (fourR r l n).1 < b * 16 ^ r
  | 0, l, n, b, h0, h1, hb => by simp [fourR]; exact ⟨h0, h1⟩
  | r + 1, [], n, b, h0, h1, hb => by
    simp only [fourR]
    exact ⟨by decide, Int.mul_pos hb (Int.pow_pos (by decide))⟩
  | r + 1, c :: t, n, b, h0, h1, hb => by
    simp only [fourR]
    split
    · rename_i v hv
      have := hexv_range hv
      have ih := fourR_range r t (n * 16 + v) (b * 16) (by omega) (by omega) (by omega)
      rw [Int.pow_succ]
      refine ⟨ih.1, ?_⟩
      have e : b * (16 ^ r * 16) = b * 16 * 16 ^ r := by rw [Int.mul_comm (16 ^ r) 16, Int.mul_assoc]
      rw [e]; exact ih.2
    · exact ⟨by show (0 : Int) ≤ 0; decide, Int.mul_pos hb (Int.pow_pos (by decide))⟩
theorem pow16 (i : Nat) (h : i ≤ 4) : (16 : Int) ^ i ≤ 65536 := by
  match i, h with
  | 0, _ => decide
  | 1, _ => decide
  | 2, _ => decide
  | 3, _ => decide
  | 4, _ => decide
  | n + 5, h => exact absurd h (by omega)
theorem drop_rd {l : List Int} {i : Nat} (h : i < l.length) : l.drop i = rd l i :: l.drop (i + 1) := by
  rw [List.drop_eq_getElem_cons h, rd_getElem h]
theorem rd_byte {l : List Int} (hb : Bytes l) {i : Nat} (h : i < l.length) : 0 ≤ rd l i ∧ rd l i ≤ 255 := by
  rw [rd_getElem h]; exact hb _ (List.getElem_mem h)
theorem unit1_ev (b : List Int) (hb : Bytes b) (hl : b.length ≤ 140737488355328) (d : Nat) : ∀ (i : Nat) (n : Int), i + d = 4 → 0 ≤ n → n < 16 ^ i → Ev (fun k => escape_unit.l1 k b n i) (fourR d (b.drop (i + 2)) n) := by
  induction d with
  | zero =>
    intro i n h h0 h1
    refine Ev.step (f := fun _ => some _) (fun k => ?_) (Ev.now _)
    simp only [escape_unit.l1, fourR]
    rw [if_neg (by omega)]
  | succ d ih =>
    intro i n h h0 h1
    have hw : wrap64 ((i : Int) + 2) = ((i + 2 : Nat) : Int) := by rw [wrap_nat (by omega) (by omega)]; rfl
    by_cases hlt : i + 2 < b.length
    · have hr := rd_byte hb hlt
      have hn16 : n < 65536 := by
        have := pow16 i (by omega)
        omega
      have hd := digit_ev (rd b ((i + 2 : Nat) : Int)) hr.1 hr.2
      refine Ev.step (f := fun k => (escape_digit.f k (rd b ((i + 2 : Nat) : Int))).bind fun bt239 => (if bt239.2 = true then (escape_unit.l1 k b (Go.bits .or .i64 (wrap64 (n * 16)) bt239.1) (wrap64 ((i : Int) + 1))) else (some (0, 80)))) (fun k => ?_) ?_
      · simp only [escape_unit.l1]
        rw [if_pos (by omega), hw, if_neg (by omega), if_pos (by omega), if_pos (by omega)]
      · refine Ev.bind hd ?_
        rw [drop_rd hlt]
        simp only [fourR]
        cases hv : hexv (rd b ((i + 2 : Nat) : Int)) with
        | none =>
          simp only [Bool.false_eq_true, if_false]
          exact Ev.now _
        | some v =>
          have hvr := hexv_range hv
          simp only [if_true]
          rw [wrap_nat (i := n * 16) (by omega) (by omega), i64_or4 (by omega) (by omega) (by omega) (by omega) (by omega), wrap_nat (i := (i : Int) + 1) (by omega) (by omega)]
          have := ih (i + 1) (n * 16 + v) (by omega) (by omega) (by rw [Int.pow_succ]; omega)
          rw [show i + 1 + 2 = i + 2 + 1 by omega] at this
          exact this
    · refine Ev.step (f := fun _ => some (0, 3)) (fun k => ?_) ?_
      · simp only [escape_unit.l1]
        rw [if_pos (by omega), hw, if_pos (by omega)]
      · rw [List.drop_eq_nil_of_le (by omega)]
        exact Ev.now _
theorem four_ev (l : List Int) (hb : Bytes l) (at_ : Nat) (hl : l.length + at_ ≤ 1407374883553280) (d : Nat) : ∀ (i : Nat) (n : Int), i + d = 4 → 0 ≤ n → n < 16 ^ i → Ev (fun k => colophonref08_four.l0 k l at_ n i) (fourR d (l.drop (at_ + i)) n) := by
  induction d with
  | zero =>
    intro i n h h0 h1
    refine Ev.step (f := fun _ => some _) (fun k => ?_) (Ev.now _)
    simp only [colophonref08_four.l0, fourR]
    rw [if_neg (by omega)]
  | succ d ih =>
    intro i n h h0 h1
    have hw : wrap64 ((at_ : Int) + i) = ((at_ + i : Nat) : Int) := by rw [wrap_nat (by omega) (by omega)]; rfl
    by_cases hlt : at_ + i < l.length
    · have hr := rd_byte hb hlt
      have hn16 : n < 65536 := by
        have := pow16 i (by omega)
        omega
      have hd := value_ev (rd l ((at_ + i : Nat) : Int)) hr.1 hr.2
      refine Ev.step (f := fun k => (colophonref08_value.f k (rd l ((at_ + i : Nat) : Int))).bind fun t281 => (if t281 < 0 then (some (0, 80)) else (colophonref08_four.l0 k l at_ (wrap64 ((wrap64 (n * 16)) + t281)) (wrap64 ((i : Int) + 1))))) (fun k => ?_) ?_
      · simp only [colophonref08_four.l0]
        rw [if_pos (by omega), hw, if_neg (by omega), if_pos (by omega), if_pos (by omega)]
      · refine Ev.bind hd ?_
        rw [drop_rd hlt]
        simp only [fourR]
        cases hv : hexv (rd l ((at_ + i : Nat) : Int)) with
        | none =>
          simp only [show ((-1 : Int) < 0) by decide, if_true]
          exact Ev.now _
        | some v =>
          have hvr := hexv_range hv
          simp only [if_neg (show ¬ v < 0 by omega)]
          rw [wrap_nat (i := n * 16) (by omega) (by omega), wrap_nat (i := n * 16 + v) (by omega) (by omega), wrap_nat (i := (i : Int) + 1) (by omega) (by omega)]
          have := ih (i + 1) (n * 16 + v) (by omega) (by omega) (by rw [Int.pow_succ]; omega)
          rw [show at_ + (i + 1) = at_ + i + 1 by omega] at this
          exact this
    · refine Ev.step (f := fun _ => some (0, 3)) (fun k => ?_) ?_
      · simp only [colophonref08_four.l0]
        rw [if_pos (by omega), hw, if_pos (by omega)]
      · rw [List.drop_eq_nil_of_le (by omega)]
        exact Ev.now _
/-- An escape with u. -/
def unitR (b : List Int) : Int × Int := match b with
  | [] => (0, 3)
  | x :: t => if x = 92 then (match t with
    | [] => (0, 3)
    | y :: t' => if y = 117 then fourR 4 t' 0 else (0, 80)) else (0, 80)
theorem unit_ev (b : List Int) (hb : Bytes b) (hl : b.length ≤ 140737488355328) : Ev (fun k => escape_unit.f k b) (unitR b) := by
  unfold escape_unit.f
  simp only [Option.bind_some]
  match b, hb, hl with
  | [], _, _ =>
    refine Ev.step (f := fun _ => some (0, 3)) (fun k => ?_) (Ev.now _)
    simp [escape_unit.l0]
  | x :: t, hb, hl =>
    by_cases hx : x = 92
    · subst hx
      refine Ev.step (f := fun k => escape_unit.l0 k (92 :: t) 0 [92, 117] 2 1) (fun k => ?_) ?_
      · simp only [escape_unit.l0]
        rw [if_pos (by decide), if_pos (by decide), if_pos (by decide), if_neg (by simp only [List.length_cons]; omega), if_pos (by simp only [List.length_cons]; omega), if_pos (by rfl), wrap_nat (i := 0 + 1) (by decide) (by decide)]
        rfl
      · match t, hb, hl with
        | [], _, _ =>
          refine Ev.step (f := fun _ => some (0, 3)) (fun k => ?_) (Ev.now _)
          simp [escape_unit.l0]
        | y :: t', hb, hl =>
          by_cases hy : y = 117
          · subst hy
            refine Ev.step (f := fun k => escape_unit.l0 k (92 :: 117 :: t') 0 [92, 117] 2 2) (fun k => ?_) (Ev.step (f := fun k => escape_unit.l1 k (92 :: 117 :: t') 0 ((0 : Nat) : Int)) (fun k => ?_) ?_)
            · simp only [escape_unit.l0]
              rw [if_pos (by decide), if_pos (by decide), if_pos (by decide), if_neg (by simp only [List.length_cons]; omega), if_pos (by simp only [List.length_cons]; omega), if_pos (by rfl), wrap_nat (i := 1 + 1) (by decide) (by decide)]
              rfl
            · simp only [escape_unit.l0]
              rw [if_neg (by decide)]
              rfl
            · have := unit1_ev (92 :: 117 :: t') hb hl 4 0 0 rfl (by decide) (by decide)
              simpa [unitR] using this
          · refine Ev.step (f := fun _ => some (0, 80)) (fun k => ?_) ?_
            · simp only [escape_unit.l0]
              rw [if_pos (by decide), if_pos (by decide), if_pos (by decide), if_neg (by simp only [List.length_cons]; omega), if_pos (by simp only [List.length_cons]; omega), if_neg (by rw [rd1, rd1]; exact hy)]
            · simp only [unitR, if_true, if_neg hy]
              exact Ev.now _
    · refine Ev.step (f := fun _ => some (0, 80)) (fun k => ?_) ?_
      · simp only [escape_unit.l0]
        rw [if_pos (by decide), if_pos (by decide), if_pos (by decide), if_neg (by simp only [List.length_cons]; omega), if_pos (by simp only [List.length_cons]; omega), if_neg (by rw [rd0, rd0]; exact hx)]
      · simp only [unitR, if_neg hx]
        exact Ev.now _
theorem unitR_range (b : List Int) : 0 ≤ (unitR b).1 ∧ (unitR b).1 < 65536 := by
  unfold unitR
  split
  · decide
  · split
    · split
      · decide
      · split
        · have := fourR_range 4 (by assumption) 0 1 (by decide) (by decide) (by decide)
          simpa using this
        · decide
    · decide
end Go.Proofs.YtjioglaobabmmaaDoor.Pure
