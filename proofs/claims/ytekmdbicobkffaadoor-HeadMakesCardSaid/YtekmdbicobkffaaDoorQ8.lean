/- A number's text, and what it is parsed as. -/
import Derived.Test.YtekmdbicobkffaaDoorQ7
import Derived.Laws.BitsLemmas
namespace Go.Proofs.YtekmdbicobkffaaDoor.Pure
open Go.RowKit Go.Proofs.YtekmdbicobkffaaDoor.P Go.Proofs.YtekmdbicobkffaaDoorW.PrintWords
set_option linter.unusedSimpArgs false
set_option linter.unusedVariables false

/-- A number's digits. -/
def nd (u : Nat) : List Int := (Lib.decDigits u).map fun b => (b.toNat : Int)
theorem dd_small {u : Nat} (h : u < 10) : Lib.decDigits u = [UInt8.ofNat (48 + u)] := by
  rw [Lib.decDigits, dif_pos h]
theorem dd_big {u : Nat} (h : ¬ u < 10) : Lib.decDigits u = Lib.decDigits (u / 10) ++ [UInt8.ofNat (48 + u % 10)] := by
  rw [Lib.decDigits, dif_neg h]
theorem nd_small {u : Nat} (h : u < 10) : nd u = [((48 + u : Nat) : Int)] := by
  unfold nd
  rw [dd_small h]
  simp
  omega
theorem nd_big {u : Nat} (h : ¬ u < 10) : nd u = nd (u / 10) ++ [((48 + u % 10 : Nat) : Int)] := by
  unfold nd
  rw [dd_big h]
  simp
  omega
theorem nd_digits (u : Nat) : ∀ c ∈ nd u, isDig c = true := by
  induction u using Nat.strongRecOn with
  | _ u ih =>
    by_cases h : u < 10
    · rw [nd_small h]
      intro c hc
      simp at hc
      subst hc
      simp [isDig]
      omega
    · rw [nd_big h]
      intro c hc
      rcases List.mem_append.1 hc with hc | hc
      · exact ih (u / 10) (by omega) c hc
      · simp at hc
        subst hc
        simp [isDig]
        omega
theorem nd_ne (u : Nat) : nd u ≠ [] := by
  by_cases h : u < 10
  · rw [nd_small h]; simp
  · rw [nd_big h]; simp
theorem val_append (a b : List Int) : ∀ n, val n (a ++ b) = val (val n a) b := by
  induction a with
  | nil => intro n; rfl
  | cons c a ih => intro n; exact ih _
theorem val_nd (u : Nat) : val 0 (nd u) = u := by
  induction u using Nat.strongRecOn with
  | _ u ih =>
    by_cases h : u < 10
    · rw [nd_small h]
      simp only [val]
      omega
    · rw [nd_big h, val_append, ih (u / 10) (by omega)]
      simp only [val]
      omega
theorem nd_len_le (u : Nat) : (nd u).length ≤ u + 1 := by
  induction u using Nat.strongRecOn with
  | _ u ih =>
    by_cases h : u < 10
    · rw [nd_small h]; simp
    · rw [nd_big h]
      have := ih (u / 10) (by omega)
      simp
      omega
theorem nd_len20 (u : Nat) (hu : u < 10 ^ 20) : (nd u).length ≤ 20 := by
  have key : ∀ (n u : Nat), u < 10 ^ (n + 1) → (nd u).length ≤ n + 1 := by
    intro n
    induction n with
    | zero => intro u h; rw [nd_small (by simpa using h)]; simp
    | succ n ih =>
      intro u h
      by_cases h1 : u < 10
      · rw [nd_small h1]; simp
      · rw [nd_big h1]
        have := ih (u / 10) (by rw [Nat.pow_succ] at h; omega)
        simp
        omega
  exact key 19 u hu
/-- What has no nought ahead is the text of its number. -/
theorem nd_of (l : List Int) : (∀ c ∈ l, isDig c = true) → l ≠ [] → (l.length = 1 ∨ l.head? ≠ some 48) → nd (val 0 l).toNat = l := by
  have key : ∀ (n : Nat) (l : List Int), l.length = n + 1 → (∀ c ∈ l, isDig c = true) → (l.length = 1 ∨ l.head? ≠ some 48) → nd (val 0 l).toNat = l ∧ (l.head? ≠ some 48 → 1 ≤ val 0 l) := by
    intro n
    induction n with
    | zero =>
      intro l hl hd _
      obtain ⟨c, rfl⟩ := List.length_eq_one_iff.1 hl
      have hc := hd c (by simp)
      simp [isDig] at hc
      simp only [val]
      rw [nd_small (by omega)]
      refine ⟨by simp; omega, fun h => ?_⟩
      simp at h
      omega
    | succ n ih =>
      intro l hl hd hh
      have hne : l ≠ [] := by intro e; subst e; simp at hl
      obtain ⟨a, c, rfl⟩ : ∃ a c, l = a ++ [c] := ⟨l.dropLast, l.getLast hne, (List.dropLast_concat_getLast hne).symm⟩
      have hal : a.length = n + 1 := by simp at hl; omega
      have hc := hd c (by simp)
      simp [isDig] at hc
      have hhd : (a ++ [c]).head? = a.head? := by
        cases a with
        | nil => simp at hal
        | cons x a => rfl
      have h48 : a.head? ≠ some 48 := by
        rcases hh with h | h
        · simp at h; subst h; simp at hal
        · rw [hhd] at h; exact h
      have hda : ∀ c ∈ a, isDig c = true := fun x hx => hd x (by simp [hx])
      obtain ⟨h1, h2⟩ := ih a hal hda (.inr h48)
      have h3 := h2 h48
      rw [val_append]
      simp only [val]
      refine ⟨?_, fun _ => by omega⟩
      rw [nd_big (by omega), show ((val 0 a * 10 + (c - 48)).toNat / 10) = (val 0 a).toNat by omega, h1]
      congr 1
      congr 1
      omega
  intro hd hne hh
  have : l.length ≠ 0 := fun h => hne (List.eq_nil_of_length_eq_zero h)
  exact (key (l.length - 1) l (by omega) hd hh).1
/-- The text as a string of bytes. -/
def txt (u : Nat) : ByteArray := ⟨(Lib.decDigits u).toArray⟩
theorem txt_bytes (u : Nat) : bytesOf (txt u) = nd u := rfl
theorem txt_size (u : Nat) : (txt u).size = (nd u).length := by
  show (Lib.decDigits u).toArray.size = _
  simp [nd]
theorem txt_of_nd (u : Nat) : strOfNums (nd u) = txt u := by
  unfold strOfNums txt nd
  congr 2
  rw [List.map_map]
  conv => rhs; rw [← List.map_id (Lib.decDigits u)]
  apply List.map_congr_left
  intro b _
  simp
theorem text_is (n : Int) (h0 : 0 ≤ n) (h1 : n ≤ 9223372036854775807) : digits_Text.f n = some (txt n.toNat, 0) := by
  unfold digits_Text.f strconv_Itoa_48.f
  rw [if_neg (by omega), if_pos (by omega)]
  unfold Lib.itoa
  rw [if_neg (by omega)]
  rfl
theorem text_neg (n : Int) (h0 : n < 0) : digits_Text.f n = some (⟨#[]⟩, 9) := by
  unfold digits_Text.f
  rw [if_pos h0]
/-- Both loops of the document's Text. -/
theorem refText_back (l : List Int) (hl : l.length ≤ 1000) (d : Nat) : ∀ (out : List Int), d ≤ l.length → out.length + d = l.length →
    Ev (fun k => colophonref05_Text.l1 k l out ((d : Int) - 1)) (strOfNums (out ++ (l.take d).reverse), 0) := by
  induction d with
  | zero =>
    intro out _ _
    refine Ev.step (f := fun _ => some (strOfNums (out ++ (l.take 0).reverse), 0)) (fun k => ?_) (Ev.now _)
    simp only [colophonref05_Text.l1]
    rw [if_neg (by omega)]
    simp
  | succ d ih =>
    intro out hd ho
    refine Ev.step (f := fun k => colophonref05_Text.l1 k l (out ++ [rd l d]) ((d : Int) - 1)) (fun k => ?_) ?_
    · simp only [colophonref05_Text.l1]
      rw [if_pos (by omega), if_pos (by omega), if_pos (by omega), if_pos (by omega), show ((d + 1 : Nat) : Int) - 1 = d by omega, wrap_nat (by omega) (by omega)]
    · have := ih (out ++ [rd l d]) (by omega) (by simp; omega)
      rw [show out ++ (l.take (d + 1)).reverse = out ++ [rd l d] ++ (l.take d).reverse by
        rw [List.take_succ_eq_append_getElem (by omega)]
        simp [rd, List.getD, show d < l.length by omega]]
      exact this
theorem refText_loop (u : Nat) : ∀ (acc : List Int), acc.length + (nd u).length ≤ 1000 → u ≤ 9223372036854775807 →
    Ev (fun k => colophonref05_Text.l0 k u acc) (strOfNums ((acc ++ (nd u).reverse).reverse), 0) := by
  induction u using Nat.strongRecOn with
  | _ u ih =>
    intro acc hl hu
    by_cases h : u < 10
    · rw [nd_small h] at hl ⊢
      have hq : (wrap64 (48 + (u : Int))) % 256 = ((48 + u : Nat) : Int) := by
        rw [wrap_nat (by omega) (by omega)]
        omega
      refine Ev.step (f := fun k => colophonref05_Text.l1 k (acc ++ [((48 + u : Nat) : Int)]) [] ((((acc ++ [((48 + u : Nat) : Int)]).length : Nat) : Int) - 1)) (fun k => ?_) ?_
      · simp only [colophonref05_Text.l0]
        simp at hl
        rw [if_neg (by omega), if_pos (by omega), hq, Option.bind_some, wrap_nat (by simp <;> omega) (by simp <;> omega)]
      · have := refText_back (acc ++ [((48 + u : Nat) : Int)]) (by simpa using hl) (acc ++ [((48 + u : Nat) : Int)]).length [] (Nat.le_refl _) (by simp)
        rw [List.take_length] at this
        simpa using this
    · rw [nd_big h] at hl ⊢
      have hq : (wrap64 (48 + (Int.tmod u 10))) % 256 = ((48 + u % 10 : Nat) : Int) := by
        rw [tmod10 (by omega), wrap_nat (by omega) (by omega)]
        omega
      simp at hl
      refine Ev.step (f := fun k => colophonref05_Text.l0 k ((u / 10 : Nat) : Int) (acc ++ [((48 + u % 10 : Nat) : Int)])) (fun k => ?_) ?_
      · simp only [colophonref05_Text.l0]
        rw [if_pos (by omega), if_pos (by omega), hq, tdiv10 (by omega), wrap_nat (by omega) (by omega)]
        rfl
      · have := ih (u / 10) (by omega) (acc ++ [((48 + u % 10 : Nat) : Int)]) (by simp; omega) (by omega)
        simpa using this
theorem refText_ev (n : Int) (h0 : 0 ≤ n) (h1 : n ≤ 9223372036854775807) : Ev (fun k => colophonref05_Text.f k n) (txt n.toNat, 0) := by
  unfold colophonref05_Text.f
  have hn : ¬ n < 0 := by omega
  simp only [if_neg hn]
  obtain ⟨u, rfl⟩ := Int.eq_ofNat_of_zero_le h0
  have hl := nd_len20 u (by omega)
  have := refText_loop u [] (by simp; omega) (by omega)
  simpa [txt_of_nd] using this
end Go.Proofs.YtekmdbicobkffaaDoor.Pure
