/- Where lines end: the program's search and the document's. -/
import Derived.Test.YtekmdbicobkffaaDoorQ2
import Derived.Lib.IndexMore
namespace Go.Proofs.YtekmdbicobkffaaDoor.Pure
open Go.RowKit Go.Proofs.YtekmdbicobkffaaDoor.P Go.Proofs.YtekmdbicobkffaaDoorW.PrintWords Go.Proofs.YtekmdbicobkffaaDoorW.PrintMore
set_option linter.unusedVariables false
set_option linter.unusedSimpArgs false
def Byt (l : List Int) : Prop := ∀ x ∈ l, 0 ≤ x ∧ x < 256
theorem Byt.drop {l : List Int} (h : Byt l) (n : Nat) : Byt (l.drop n) := fun x hx => h x (List.mem_of_mem_drop hx)
theorem Byt.take {l : List Int} (h : Byt l) (n : Nat) : Byt (l.take n) := fun x hx => h x (List.mem_of_mem_take hx)
theorem Byt.cons {a : Int} {l : List Int} (h : Byt (a :: l)) : (0 ≤ a ∧ a < 256) ∧ Byt l := ⟨h a (by simp), fun x hx => h x (by simp [hx])⟩
theorem fits_is {l : List Int} (h : Byt l) : fitsB l = true := by
  unfold fitsB
  rw [List.all_eq_true]
  intro x hx
  have := h x hx
  simp [this.1, this.2]
theorem rd_drop (l : List Int) (i j : Nat) : rd (l.drop i) (j : Int) = rd l ((i + j : Nat) : Int) := by
  unfold rd
  rw [Int.toNat_natCast, Int.toNat_natCast]
  simp [List.getD, List.getElem?_drop]
theorem u8eq (a : Int) (k : Nat) (h : 0 ≤ a ∧ a < 256) (hk : k < 256) : (UInt8.ofNat k == UInt8.ofNat a.toNat) = decide (a = (k : Int)) := by
  obtain ⟨n, rfl⟩ := Int.eq_ofNat_of_zero_le h.1
  have hn : n < 256 := by omega
  rw [Int.toNat_natCast]
  by_cases e : n = k
  · subst e; simp
  · rw [decide_eq_false (by omega)]
    rw [beq_eq_false_iff_ne]
    intro he
    have := congrArg UInt8.toNat he
    rw [UInt8.toNat_ofNat', UInt8.toNat_ofNat'] at this
    omega
/-- Do 13 10 stand at a place? -/
def pairB (l : List Int) (i : Nat) : Bool := decide (rd l i = 13) && (decide (i + 1 < l.length) && decide (rd l ((i + 1 : Nat) : Int) = 10))
theorem pair_is (l : List Int) (hl : l.length < 4611686018427387904) (i : Nat) (hi : i < 4611686018427387904) : colophonref06_pair.f l (i : Int) = some (pairB l i) := by
  unfold colophonref06_pair.f pairB
  by_cases h : i + 1 < l.length
  · rw [wrap_nat (by omega) (by omega), if_pos (by omega), if_pos (by omega), if_pos (by omega)]
    by_cases h13 : rd l i = 13
    · rw [if_pos h13, if_pos (by omega), decide_eq_true h13, decide_eq_true h]
      rw [show ((i : Int) + 1) = ((i + 1 : Nat) : Int) from rfl]
      by_cases h10 : rd l ((i + 1 : Nat) : Int) = 10
      · rw [h10]; rfl
      · rw [decide_eq_false h10, beq_eq_false_iff_ne.mpr h10]; rfl
    · rw [if_neg h13, decide_eq_false h13]; rfl
  · rw [decide_eq_false h]
    rw [wrap_nat (by omega) (by omega), if_neg (by omega)]; simp
theorem bytesOf_drop (l : List Int) (i : Nat) : (Lib.bytesOf l).drop i = Lib.bytesOf (l.drop i) := by simp [Lib.bytesOf, List.map_drop]
theorem occ2 (l : List Int) (hb : Byt l) (i : Nat) : Lib.occAt (Lib.bytesOf l) [13, 10] i = pairB l i := by
  unfold Lib.occAt
  rw [bytesOf_drop]
  have hd := hb.drop i
  have hlen := List.length_drop (i := i) (l := l)
  have h0 : rd l i = rd (l.drop i) ((0 : Nat) : Int) := by rw [rd_drop]; rfl
  have h1 : rd l ((i + 1 : Nat) : Int) = rd (l.drop i) ((1 : Nat) : Int) := by rw [rd_drop]
  unfold pairB
  rw [h0, h1]
  generalize l.drop i = m at hd hlen ⊢
  match m, hd, hlen with
  | [], _, hlen => simp [Lib.bytesOf, List.isPrefixOf, rd, List.getD]
  | [a], hd, hlen =>
    simp only [Lib.bytesOf, List.map_cons, List.map_nil, List.isPrefixOf]
    simp at hlen
    rw [decide_eq_false (show ¬ i + 1 < l.length by omega)]
    simp
  | a :: b :: t, hd, hlen =>
    have ha := hd.cons.1
    have hb' := hd.cons.2.cons.1
    simp only [Lib.bytesOf, List.map_cons, List.isPrefixOf]
    simp only [List.length_cons] at hlen
    rw [decide_eq_true (show i + 1 < l.length by omega)]
    have e1 := u8eq a 13 ha (by decide)
    have e2 := u8eq b 10 hb' (by decide)
    rw [show (UInt8.ofNat 13) = 13 from rfl] at e1
    rw [show (UInt8.ofNat 10) = 10 from rfl] at e2
    rw [e1, e2]
    simp [rd, List.getD]
theorem occ4 (l : List Int) (hb : Byt l) (i : Nat) : Lib.occAt (Lib.bytesOf l) [13, 10, 13, 10] i = (pairB l i && pairB l (i + 2)) := by
  rw [← occ2 l hb i, ← occ2 l hb (i + 2)]
  unfold Lib.occAt
  rw [← List.drop_drop]
  generalize (Lib.bytesOf l).drop i = m
  match m with
  | [] => simp [List.isPrefixOf]
  | [a] => simp [List.isPrefixOf]
  | a :: b :: t =>
    rw [show List.drop 2 (a :: b :: t) = t from rfl]
    simp [List.isPrefixOf, Bool.and_assoc]
theorem prefix0 (l : List Int) (hb : Byt l) : Lib.hasPrefix (Lib.bytesOf l) [13, 10] = pairB l 0 := by
  rw [← occ2 l hb 0]
  simp [Lib.hasPrefix, Lib.occAt]
/-- The first 13 10, or none. -/
theorem idx2_spec (l : List Int) (hb : Byt l) : (Lib.index (Lib.bytesOf l) [13, 10] = -1 ∧ ∀ j, pairB l j = false) ∨ (∃ i : Nat, Lib.index (Lib.bytesOf l) [13, 10] = i ∧ pairB l i = true ∧ ∀ j, j < i → pairB l j = false) := by
  rcases Lib.index_spec (Lib.bytesOf l) [13, 10] with ⟨h1, h2⟩ | ⟨i, h1, h2, h3, h4⟩
  · left
    refine ⟨h1, fun j => ?_⟩
    rcases Nat.lt_or_ge (Lib.bytesOf l).length j with g | g
    · rw [Lib.bytesOf_length] at g
      unfold pairB
      rw [decide_eq_false (show ¬ j + 1 < l.length by omega)]; simp
    · rw [← occ2 l hb j]; exact h2 j g
  · right
    exact ⟨i, h1, by rw [← occ2 l hb i]; exact h3, fun j hj => by rw [← occ2 l hb j]; exact h4 j hj⟩
theorem idx4_spec (l : List Int) (hb : Byt l) : (Lib.index (Lib.bytesOf l) [13, 10, 13, 10] = -1 ∧ ∀ j, (pairB l j && pairB l (j + 2)) = false) ∨ (∃ i : Nat, Lib.index (Lib.bytesOf l) [13, 10, 13, 10] = i ∧ (pairB l i && pairB l (i + 2)) = true ∧ ∀ j, j < i → (pairB l j && pairB l (j + 2)) = false) := by
  rcases Lib.index_spec (Lib.bytesOf l) [13, 10, 13, 10] with ⟨h1, h2⟩ | ⟨i, h1, h2, h3, h4⟩
  · left
    refine ⟨h1, fun j => ?_⟩
    rcases Nat.lt_or_ge (Lib.bytesOf l).length j with g | g
    · rw [Lib.bytesOf_length] at g
      unfold pairB
      rw [decide_eq_false (show ¬ j + 1 < l.length by omega)]; simp
    · rw [← occ4 l hb j]; exact h2 j g
  · right
    exact ⟨i, h1, by rw [← occ4 l hb i]; exact h3, fun j hj => by rw [← occ4 l hb j]; exact h4 j hj⟩
theorem pair_lt {l : List Int} {i : Nat} (h : pairB l i = true) : i + 1 < l.length ∧ rd l i = 13 ∧ rd l ((i + 1 : Nat) : Int) = 10 := by
  simp only [pairB, Bool.and_eq_true, decide_eq_true_eq] at h
  exact ⟨h.2.1, h.1, h.2.2⟩
/-- Where the header ends; -1: it does not. -/
def endI (l : List Int) : Int := if (endF l).2 = true then (endF l).1 else -1
theorem end_loop (l : List Int) (hb : Byt l) (hl : l.length ≤ 140737488351232) (d : Nat) : ∀ i : Nat, i + d = l.length → (∀ j, j < i → (pairB l j && pairB l (j + 2)) = false) → Ev (fun k => colophonref06_End.l0 k l i) (if 0 ≤ Lib.index (Lib.bytesOf l) [13, 10, 13, 10] then Lib.index (Lib.bytesOf l) [13, 10, 13, 10] + 4 else -1) := by
  induction d with
  | zero =>
    intro i hi hn
    refine Ev.step (f := fun _ => some _) (fun k => ?_) (Ev.now _)
    simp only [colophonref06_End.l0]
    rw [if_neg (by omega)]
    rcases idx4_spec l hb with ⟨h1, h2⟩ | ⟨i', h1, h2, h3⟩
    · rw [h1, if_neg (by decide)]
    · exfalso
      simp only [Bool.and_eq_true] at h2
      have := (pair_lt h2.1).1
      have := hn i' (by omega)
      rw [h2.1, h2.2] at this
      cases this
  | succ d ih =>
    intro i hi hn
    have hp := pair_is l (by omega) i (by omega)
    have hp2 := pair_is l (by omega) (i + 2) (by omega)
    have hw2 : wrap64 ((i : Int) + 2) = ((i + 2 : Nat) : Int) := by rw [wrap_nat (by omega) (by omega)]; rfl
    have hw1 : wrap64 ((i : Int) + 1) = ((i + 1 : Nat) : Int) := by rw [wrap_nat (by omega) (by omega)]; rfl
    have hw4 : wrap64 ((i : Int) + 4) = (i : Int) + 4 := wrap_nat (by omega) (by omega)
    by_cases hh : (pairB l i && pairB l (i + 2)) = true
    · refine Ev.step (f := fun _ => some _) (fun k => ?_) (Ev.now _)
      have hh' := hh
      simp only [Bool.and_eq_true] at hh'
      simp only [colophonref06_End.l0]
      rw [if_pos (by omega), hp, hh'.1, Option.bind_some, if_pos rfl, hw2, hp2, hh'.2, Option.bind_some, if_pos rfl, hw4]
      rcases idx4_spec l hb with ⟨h1, h2⟩ | ⟨i', h1, h2, h3⟩
      · rw [h2 i] at hh; cases hh
      · have : i' = i := by
          rcases Nat.lt_trichotomy i' i with g | g | g
          · rw [hn i' g] at h2; cases h2
          · exact g
          · rw [h3 i g] at hh; cases hh
        subst this
        rw [h1, if_pos (by omega)]
    · have hf : (pairB l i && pairB l (i + 2)) = false := by simpa using hh
      have next := ih (i + 1) (by omega) (fun j hj => by
        rcases Nat.lt_or_ge j i with g | g
        · exact hn j g
        · rw [show j = i by omega]; exact hf)
      refine Ev.step (fun k => ?_) next
      simp only [colophonref06_End.l0]
      rw [if_pos (by omega), hp, Option.bind_some, hw2, hp2, hw1]
      cases h1 : pairB l i
      · rw [if_neg (by simp)]
      · rw [h1] at hf
        rw [if_pos rfl, Option.bind_some, show pairB l (i + 2) = false by simpa using hf, if_neg (by simp)]
theorem end_ev (l : List Int) (hb : Byt l) (hl : l.length ≤ 140737488351232) : Ev (fun k => colophonref06_End.f k l) (endI l) := by
  unfold colophonref06_End.f endI endF
  rw [prefix0 l hb, show colophonref06_pair.f l 0 = some (pairB l 0) from pair_is l (by omega) 0 (by omega)]
  simp only [Option.bind_some]
  cases h : pairB l 0
  · simp only [Bool.false_eq_true, if_false]
    have := end_loop l hb hl l.length 0 (by omega) (fun j hj => absurd hj (by omega))
    by_cases g : 0 ≤ Lib.index (Lib.bytesOf l) [13, 10, 13, 10]
    · rw [if_pos g] at this; rw [decide_eq_true g, if_pos rfl]; exact this
    · rw [if_neg g] at this; rw [decide_eq_false g, if_neg (by simp)]; exact this
  · simp only [if_true]; exact Ev.now _
/-- What is known of a header's end. -/
theorem endI_facts (l : List Int) (hb : Byt l) : endI l = -1 ∨ (endI l = 2 ∧ pairB l 0 = true) ∨ ∃ e : Nat, endI l = (e : Int) ∧ 4 ≤ e ∧ e ≤ l.length ∧ pairB l (e - 4) = true ∧ pairB l (e - 2) = true := by
  unfold endI endF
  rw [prefix0 l hb]
  cases h : pairB l 0
  · simp only [Bool.false_eq_true, if_false]
    rcases idx4_spec l hb with ⟨h1, h2⟩ | ⟨i, h1, h2, h3⟩
    · left; rw [h1]; rfl
    · right; right
      simp only [Bool.and_eq_true] at h2
      have := (pair_lt h2.2).1
      refine ⟨i + 4, ?_, by omega, by omega, h2.1, h2.2⟩
      rw [h1, decide_eq_true (by omega), if_pos rfl]; rfl
  · right; left; exact ⟨rfl, rfl⟩
end Go.Proofs.YtekmdbicobkffaaDoor.Pure
