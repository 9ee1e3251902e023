/- A line's name and value: the program's and the document's. -/
import Derived.Test.YtekmdbicobkffaaDoorQ3
namespace Go.Proofs.YtekmdbicobkffaaDoor.Pure
open Go.RowKit Go.Proofs.YtekmdbicobkffaaDoor.P Go.Proofs.YtekmdbicobkffaaDoorW.PrintWords Go.Proofs.YtekmdbicobkffaaDoorW.PrintMore
set_option linter.unusedVariables false
set_option linter.unusedSimpArgs false
theorem inName_is (c : Int) : colophonref06_inName.f c = some (nameI c) := by
  unfold colophonref06_inName.f nameI
  by_cases h1 : 97 ≤ c
  · rw [if_pos (show c ≥ 97 from h1), decide_eq_true h1]
    by_cases h2 : c ≤ 122
    · rw [if_pos h2, decide_eq_true h2]; simp
    · rw [if_neg h2, decide_eq_false h2, if_pos (by omega), if_neg (by omega), if_pos (by omega), if_neg (by omega), decide_eq_false (show ¬ c ≤ 90 by omega), decide_eq_false (show ¬ c ≤ 57 by omega)]; simp
  · rw [if_neg (show ¬ c ≥ 97 from h1), decide_eq_false h1]
    by_cases h3 : 65 ≤ c
    · rw [if_pos (show c ≥ 65 from h3), decide_eq_true h3]
      by_cases h4 : c ≤ 90
      · rw [if_pos h4, decide_eq_true h4]; simp
      · rw [if_neg h4, decide_eq_false h4, if_pos (by omega), if_neg (by omega), decide_eq_false (show ¬ c ≤ 57 by omega)]; simp
    · rw [if_neg (show ¬ c ≥ 65 from h3), decide_eq_false h3]
      by_cases h5 : 48 ≤ c
      · rw [if_pos (show c ≥ 48 from h5), decide_eq_true h5]
        by_cases h6 : c ≤ 57
        · rw [if_pos h6, decide_eq_true h6]; simp
        · rw [if_neg h6, decide_eq_false h6]; simp
      · rw [if_neg (show ¬ c ≥ 48 from h5), decide_eq_false h5]; simp
theorem blank_is (c : Int) : colophonref06_blank.f c = some (isBl c) := by
  unfold colophonref06_blank.f isBl
  by_cases h : c = 32
  · subst h; rfl
  · rw [if_neg h, beq_eq_false_iff_ne.mpr h]; simp
def lowI (c : Int) : Int := if 65 ≤ c ∧ c ≤ 90 then c + 32 else c
def rtrim (v : List Int) : List Int := (v.reverse.dropWhile isBl).reverse
theorem low_loop (l : List Int) (hb : Byt l) (hl : l.length ≤ 140737488351232) (d : Nat) : ∀ (i : Nat) (acc : List Int), i + d = l.length → acc.length = i → Ev (fun k => colophonref06_low.l0 k l acc i) (strOfNums (acc ++ (l.drop i).map lowI)) := by
  induction d with
  | zero =>
    intro i acc hi ha
    refine Ev.step (f := fun _ => some _) (fun k => ?_) (Ev.now _)
    simp only [colophonref06_low.l0]
    rw [if_neg (by omega), List.drop_of_length_le (by omega)]
    simp
  | succ d ih =>
    intro i acc hi ha
    have hlt : i < l.length := by omega
    have hr := hb _ (List.getElem_mem hlt)
    have hrd := rd_getElem hlt
    have hw : wrap64 ((i : Int) + 1) = ((i + 1 : Nat) : Int) := by rw [wrap_nat (by omega) (by omega)]; rfl
    have next := ih (i + 1) (acc ++ [lowI (rd l i)]) (by omega) (by rw [List.length_append, ha]; rfl)
    rw [drop_at hlt, List.map_cons, show acc ++ lowI (rd l i) :: (l.drop (i + 1)).map lowI = (acc ++ [lowI (rd l i)]) ++ (l.drop (i + 1)).map lowI by simp]
    refine Ev.step (fun k => ?_) next
    simp only [colophonref06_low.l0]
    rw [if_pos (by omega), if_pos (by omega), hw]
    rw [← hrd] at hr
    unfold lowI
    by_cases h1 : 65 ≤ rd l i
    · rw [if_pos (show rd l i ≥ 65 from h1)]
      by_cases h2 : rd l i ≤ 90
      · rw [if_pos h2, if_pos (by omega), if_pos ⟨h1, h2⟩, show (rd l i + 32) % 256 = rd l i + 32 by omega]
      · rw [if_neg h2, if_pos (by omega), if_neg (fun h => h2 h.2)]
    · rw [if_neg (show ¬ rd l i ≥ 65 from h1), if_pos (by omega), if_neg (fun h => h1 h.1)]
theorem low_ev (l : List Int) (hb : Byt l) (hl : l.length ≤ 140737488351232) : Ev (fun k => colophonref06_low.f k l) (strOfNums (l.map lowI)) := by
  have := low_loop l hb hl l.length 0 [] (by omega) rfl
  simpa [colophonref06_low.f] using this
theorem l3_ev (l : List Int) (hb : Byt l) (hl : l.length ≤ 140737488351232) (m : Nat) (hm : m ≤ l.length) (r : List Int) : r.length ≤ 140737488351232 → Ev (fun k => colophonref06_Line.l3 k l m r.reverse) (strOfNums ((l.take m).map lowI), (r.dropWhile isBl).reverse, true) := by
  have hlow := low_ev (l.take m) (hb.take m) (by rw [List.length_take]; omega)
  induction r with
  | nil =>
    intro _
    refine Ev.step (fun k => by simp only [colophonref06_Line.l3]; rw [if_neg (by decide), if_pos (by omega), if_pos (by omega), Int.toNat_natCast]) (Ev.bind hlow ?_)
    simp only [copy_some [] (by decide), Option.bind_some, List.reverse_nil, List.dropWhile_nil]
    exact Ev.now _
  | cons a r ih =>
    intro hr
    have hlen : (a :: r).reverse.length = r.length + 1 := by simp
    rw [List.length_cons] at hr
    have hw : wrap64 (((a :: r).reverse.length : Int) - 1) = (r.length : Int) := by rw [hlen, wrap_nat (by omega) (by omega)]; omega
    have hrd : rd (a :: r).reverse (r.length : Int) = a := by
      rw [rd_getElem (by omega)]
      simp
    have htk : (a :: r).reverse.take r.length = r.reverse := by
      rw [List.reverse_cons, List.take_left' (by simp)]
    cases hq : isBl a
    · refine Ev.step (fun k => by simp only [colophonref06_Line.l3]; rw [hw, if_pos (by omega), if_pos (by omega), if_pos (by omega), hrd, blank_is, hq, Option.bind_some, if_neg (by simp), if_pos (by omega), if_pos (by omega), Int.toNat_natCast]) (Ev.bind hlow ?_)
      simp only [copy_some (a :: r).reverse (by rw [hlen]; omega), Option.bind_some, List.dropWhile_cons, hq, Bool.false_eq_true, if_false]
      exact Ev.now _
    · have next := ih (by omega)
      simp only [List.dropWhile_cons, hq, if_true]
      refine Ev.step (fun k => ?_) next
      simp only [colophonref06_Line.l3]
      rw [hw, if_pos (by omega), if_pos (by omega), if_pos (by omega), hrd, blank_is, hq, Option.bind_some, if_pos rfl, if_pos (by omega), Int.toNat_natCast, htk]
theorem l2_ev (l : List Int) (hb : Byt l) (hl : l.length ≤ 140737488351232) (m : Nat) (hm : m ≤ l.length) (v : List Int) : v.length ≤ 140737488351232 → Ev (fun k => colophonref06_Line.l2 k l m v) (strOfNums ((l.take m).map lowI), rtrim (v.dropWhile isBl), true) := by
  induction v with
  | nil =>
    intro _
    have h3 := l3_ev l hb hl m hm [] (by simp)
    rw [List.reverse_nil] at h3
    refine Ev.step (fun k => by simp only [colophonref06_Line.l2]; rw [if_neg (by decide)]) (Ev.step (fun k => by simp only [colophonref06_Line.j5]) h3)
  | cons a v ih =>
    intro hv
    rw [List.length_cons] at hv
    cases hq : isBl a
    · have h3 := l3_ev l hb hl m hm (a :: v).reverse (by simp; omega)
      rw [List.reverse_reverse] at h3
      simp only [List.dropWhile_cons, hq, Bool.false_eq_true, if_false]
      refine Ev.step (fun k => by simp only [colophonref06_Line.l2]; rw [if_pos (by rw [List.length_cons]; omega), if_pos (by rw [List.length_cons]; omega), show rd (a :: v) 0 = a from rfl, blank_is, hq, Option.bind_some, if_neg (by simp)]) (Ev.step (fun k => by simp only [colophonref06_Line.j5]) h3)
    · have next := ih (by omega)
      simp only [List.dropWhile_cons, hq, if_true]
      refine Ev.step (fun k => ?_) next
      simp only [colophonref06_Line.l2]
      rw [if_pos (by rw [List.length_cons]; omega), if_pos (by rw [List.length_cons]; omega), show rd (a :: v) 0 = a from rfl, blank_is, hq, Option.bind_some, if_pos rfl, if_pos (by rw [List.length_cons]; omega)]
      rfl
theorem l1_ev (l : List Int) (hb : Byt l) (hl : l.length ≤ 140737488351232) (m : Nat) (hm : m ≤ l.length) (v : List Int) (hv : v.length ≤ 140737488351232) (d : Nat) : ∀ i : Nat, i + d = v.length →
    Ev (fun k => colophonref06_Line.l1 k l m v i) (if (v.drop i).all valI = true then (strOfNums ((l.take m).map lowI), rtrim (v.dropWhile isBl), true) else (⟨#[]⟩, [], false)) := by
  induction d with
  | zero =>
    intro i hi
    rw [List.drop_of_length_le (by omega)]
    simp only [List.all_nil, if_true]
    refine Ev.step (fun k => ?_) (l2_ev l hb hl m hm v hv)
    simp only [colophonref06_Line.l1]
    rw [if_neg (by omega)]
  | succ d ih =>
    intro i hi
    have hlt : i < v.length := by omega
    have hw : wrap64 ((i : Int) + 1) = ((i + 1 : Nat) : Int) := by rw [wrap_nat (by omega) (by omega)]; rfl
    rw [drop_at hlt, List.all_cons]
    have next := ih (i + 1) (by omega)
    by_cases h9 : rd v i = 9
    · have hv9 : valI (rd v i) = true := by rw [h9]; rfl
      rw [hv9, Bool.true_and]
      refine Ev.step (fun k => ?_) next
      simp only [colophonref06_Line.l1]
      rw [if_pos (by omega), if_pos (by omega), if_pos h9, hw]
    · by_cases h32 : rd v i < 32
      · have hvf : valI (rd v i) = false := by unfold valI; rw [beq_eq_false_iff_ne.mpr h9, decide_eq_false (by omega)]; rfl
        rw [hvf, Bool.false_and, if_neg (by simp)]
        refine Ev.step (f := fun _ => some _) (fun k => ?_) (Ev.now _)
        simp only [colophonref06_Line.l1]
        rw [if_pos (by omega), if_pos (by omega), if_neg h9, if_pos h32]
      · by_cases h126 : rd v i > 126
        · have hvf : valI (rd v i) = false := by unfold valI; rw [beq_eq_false_iff_ne.mpr h9, decide_eq_false (show ¬ rd v i ≤ 126 by omega)]; simp
          rw [hvf, Bool.false_and, if_neg (by simp)]
          refine Ev.step (f := fun _ => some _) (fun k => ?_) (Ev.now _)
          simp only [colophonref06_Line.l1]
          rw [if_pos (by omega), if_pos (by omega), if_neg h9, if_neg h32, if_pos h126]
        · have hvt : valI (rd v i) = true := by unfold valI; rw [decide_eq_true (show 32 ≤ rd v i by omega), decide_eq_true (show rd v i ≤ 126 by omega)]; simp
          rw [hvt, Bool.true_and]
          refine Ev.step (fun k => ?_) next
          simp only [colophonref06_Line.l1]
          rw [if_pos (by omega), if_pos (by omega), if_neg h9, if_neg h32, if_neg h126, hw]
theorem rd_cons (a : Int) (t : List Int) (k : Nat) : rd (a :: t) ((k + 1 : Nat) : Int) = rd t (k : Int) := by
  unfold rd
  rw [Int.toNat_natCast, Int.toNat_natCast]
  simp [List.getD]
theorem tw_in (p : Int → Bool) : ∀ (l : List Int) (k : Nat), k < (l.takeWhile p).length → p (rd l (k : Int)) = true
  | [], k, h => by simp at h
  | a :: t, k, h => by
    cases hq : p a
    · rw [List.takeWhile_cons, hq] at h; simp at h
    · rw [List.takeWhile_cons, hq] at h
      cases k with
      | zero => exact hq
      | succ k =>
        simp at h
        rw [rd_cons]
        exact tw_in p t k h
theorem tw_out (p : Int → Bool) : ∀ (l : List Int), (l.takeWhile p).length < l.length → p (rd l ((l.takeWhile p).length : Int)) = false
  | [], h => by simp at h
  | a :: t, h => by
    cases hq : p a
    · rw [List.takeWhile_cons, hq]; exact hq
    · rw [List.takeWhile_cons, hq] at h ⊢
      simp at h
      simp only [if_true, List.length_cons]
      rw [rd_cons]
      exact tw_out p t h
def nameLen (l : List Int) : Nat := (l.takeWhile nameI).length
theorem nameLen_le (l : List Int) : nameLen l ≤ l.length := (List.takeWhile_sublist _).length_le
/-- The document's line. -/
def lineD (l : List Int) : Option (List Int × List Int) :=
  if nameLen l = 0 ∨ l.length ≤ nameLen l ∨ rd l (nameLen l : Int) ≠ 58 then none
  else if (l.drop (nameLen l + 1)).all valI = true then some (l.take (nameLen l), rtrim ((l.drop (nameLen l + 1)).dropWhile isBl)) else none
def lineOut (o : Option (List Int × List Int)) : ByteArray × List Int × Bool := match o with
  | none => (⟨#[]⟩, [], false)
  | some (n, v) => (strOfNums (n.map lowI), v, true)
theorem line_loop (l : List Int) (hl : l.length ≤ 140737488351232) (r : ByteArray × List Int × Bool) (hr : Ev (fun k => colophonref06_Line.j1 k l (nameLen l)) r) (d : Nat) : ∀ i : Nat, i + d = nameLen l → Ev (fun k => colophonref06_Line.l0 k l i) r := by
  have hle := nameLen_le l
  induction d with
  | zero =>
    intro i hi
    rw [show i = nameLen l by omega]
    by_cases h : nameLen l < l.length
    · have hn : nameI (rd l (nameLen l : Int)) = false := by
        exact tw_out nameI l h
      refine Ev.step (fun k => ?_) hr
      simp only [colophonref06_Line.l0]
      rw [if_pos (by omega), if_pos (by omega), inName_is, hn, Option.bind_some, if_neg (by simp)]
    · refine Ev.step (fun k => ?_) hr
      simp only [colophonref06_Line.l0]
      rw [if_neg (by omega)]
  | succ d ih =>
    intro i hi
    have hlt : i < l.length := by omega
    have hn : nameI (rd l (i : Int)) = true := tw_in nameI l i (by unfold nameLen at hi; omega)
    have hw : wrap64 ((i : Int) + 1) = ((i + 1 : Nat) : Int) := by rw [wrap_nat (by omega) (by omega)]; rfl
    refine Ev.step (fun k => ?_) (ih (i + 1) (by omega))
    simp only [colophonref06_Line.l0]
    rw [if_pos (by omega), if_pos (by omega), inName_is, hn, Option.bind_some, if_pos rfl, hw]
theorem line_ev (l : List Int) (hb : Byt l) (hl : l.length ≤ 140737488351232) : Ev (fun k => colophonref06_Line.f k l) (lineOut (lineD l)) := by
  have hle := nameLen_le l
  unfold colophonref06_Line.f
  refine line_loop l hl _ ?_ (nameLen l) 0 (by omega)
  unfold lineD
  have bad : Ev (fun k => colophonref06_Line.j2 k l (nameLen l) true) (⟨#[]⟩, [], false) := Ev.step (f := fun _ => some _) (fun k => by simp only [colophonref06_Line.j2, if_true]) (Ev.now _)
  have hw : wrap64 ((nameLen l : Int) + 1) = ((nameLen l + 1 : Nat) : Int) := by rw [wrap_nat (by omega) (by omega)]; rfl
  by_cases h0 : nameLen l = 0
  · rw [if_pos (.inl h0)]
    refine Ev.step (fun k => ?_) bad
    simp only [colophonref06_Line.j1]
    rw [if_pos (by omega)]
  · by_cases h1 : l.length ≤ nameLen l
    · rw [if_pos (.inr (.inl h1))]
      refine Ev.step (fun k => ?_) bad
      simp only [colophonref06_Line.j1]
      rw [if_neg (by omega), if_pos (by omega)]
    · by_cases h2 : rd l (nameLen l : Int) = 58
      · rw [if_neg (by simp only [not_or, ne_eq, Decidable.not_not]; exact ⟨h0, h1, h2⟩)]
        have hd : ((l.drop (nameLen l + 1)).drop 0) = l.drop (nameLen l + 1) := rfl
        have h3 := l1_ev l hb hl (nameLen l) hle (l.drop (nameLen l + 1)) (by rw [List.length_drop]; omega) (l.drop (nameLen l + 1)).length 0 (by omega)
        rw [hd] at h3
        have e : lineOut (if (l.drop (nameLen l + 1)).all valI = true then some (l.take (nameLen l), rtrim ((l.drop (nameLen l + 1)).dropWhile isBl)) else none) = (if (l.drop (nameLen l + 1)).all valI = true then (strOfNums ((l.take (nameLen l)).map lowI), rtrim ((l.drop (nameLen l + 1)).dropWhile isBl), true) else (⟨#[]⟩, [], false)) := by
          split <;> rfl
        rw [e]
        refine Ev.step (fun k => by simp only [colophonref06_Line.j1]; rw [if_neg (by omega), if_neg (by omega), if_pos (by omega), if_pos (by omega)]) (Ev.step (fun k => ?_) h3)
        simp only [colophonref06_Line.j2]
        rw [h2, if_neg (by decide), hw, if_pos (by omega), if_pos (by omega), Int.toNat_natCast]
        rfl
      · rw [if_pos (.inr (.inr h2))]
        refine Ev.step (fun k => ?_) bad
        simp only [colophonref06_Line.j1]
        rw [if_neg (by omega), if_neg (by omega), if_pos (by omega), if_pos (by omega), bne_iff_ne.mpr h2]
end Go.Proofs.YtekmdbicobkffaaDoor.Pure
