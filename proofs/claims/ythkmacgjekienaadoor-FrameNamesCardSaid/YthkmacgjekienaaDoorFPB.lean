/- Where headers end, of what is cut; a number's text; headers made of lines. -/
import Derived.Test.YthkmacgjekienaaDoorFPA
import Derived.Test.YthkmacgjekienaaDoorP8
import Derived.Laws.BitsLemmas
namespace Go.Proofs.YthkmacgjekienaaDoor.Pure
open Go.RowKit Go.Proofs.YthkmacgjekienaaDoor.P Go.Proofs.YthkmacgjekienaaDoorW.PrintWords Go.Proofs.YthkmacgjekienaaDoorW.PrintMore
set_option linter.unusedVariables false
set_option linter.unusedSimpArgs false
theorem ev_one {α : Type} {g : Nat → Option α} {a b : α} (h1 : Ev g a) (h2 : Ev g b) : a = b := by
  obtain ⟨k1, e1⟩ := h1
  obtain ⟨k2, e2⟩ := h2
  have a1 := e1 (max k1 k2) (Nat.le_max_left _ _)
  rw [e2 (max k1 k2) (Nat.le_max_right _ _)] at a1
  exact (Option.some.inj a1).symm
theorem bring_some (a n : Int) (hn : 0 < n) (hn2 : n ≤ 140737488355328) : ∃ t, colophonref00_Bring.f a n = some t ∧ 0 ≤ t ∧ t < n := by
  unfold colophonref00_Bring.f
  rw [if_neg (by omega), if_neg (by omega)]
  have h1 := Int.tmod_lt_of_pos a hn
  have h2 : -n < a.tmod n := by
    have := Int.tmod_lt_of_pos (-a) hn
    rw [Int.neg_tmod] at this
    omega
  by_cases h : Int.tmod a n < 0
  · rw [if_pos h, wrap_nat (by omega) (by omega)]
    exact ⟨_, rfl, by omega, by omega⟩
  · rw [if_neg h]
    exact ⟨_, rfl, by omega, by omega⟩
theorem endI_zero {l : List Int} (hb : Byt l) (h : pairB l 0 = true) : endI l = 2 := by
  unfold endI endF
  rw [prefix0 l hb, h]
  rfl
theorem endI_at {l : List Int} (hb : Byt l) (h0 : pairB l 0 = false) {i : Nat} (hp : (pairB l i && pairB l (i + 2)) = true) (hn : ∀ j, j < i → (pairB l j && pairB l (j + 2)) = false) : endI l = (i : Int) + 4 := by
  unfold endI endF
  rw [prefix0 l hb, h0]
  simp only [Bool.false_eq_true, if_false]
  rcases idx4_spec l hb with ⟨h1, h2⟩ | ⟨i', h1, h2, h3⟩
  · rw [h2 i] at hp; cases hp
  · have : i' = i := by
      rcases Nat.lt_trichotomy i' i with g | g | g
      · rw [hn i' g] at h2; cases h2
      · exact g
      · rw [h3 i g] at hp; cases hp
    subst this
    rw [h1, decide_eq_true (by omega), if_pos rfl]
theorem endI_none {l : List Int} (hb : Byt l) (h0 : pairB l 0 = false) (hn : ∀ j, (pairB l j && pairB l (j + 2)) = false) : endI l = -1 := by
  unfold endI endF
  rw [prefix0 l hb, h0]
  simp only [Bool.false_eq_true, if_false]
  rcases idx4_spec l hb with ⟨h1, h2⟩ | ⟨i', h1, h2, h3⟩
  · rw [h1]; rfl
  · rw [hn i'] at h2; cases h2
theorem endI_spec (l : List Int) (hb : Byt l) : (endI l = -1 ∧ pairB l 0 = false ∧ ∀ j, (pairB l j && pairB l (j + 2)) = false) ∨ (endI l = 2 ∧ pairB l 0 = true) ∨ (∃ i : Nat, endI l = (i : Int) + 4 ∧ pairB l 0 = false ∧ (pairB l i && pairB l (i + 2)) = true ∧ ∀ j, j < i → (pairB l j && pairB l (j + 2)) = false) := by
  cases h0 : pairB l 0
  · rcases idx4_spec l hb with ⟨h1, h2⟩ | ⟨i, h1, h2, h3⟩
    · exact .inl ⟨endI_none hb h0 h2, rfl, h2⟩
    · exact .inr (.inr ⟨i, endI_at hb h0 h2 h3, rfl, h2, h3⟩)
  · exact .inr (.inl ⟨endI_zero hb h0, rfl⟩)
theorem pair_take_eq (l : List Int) (N j : Nat) (h : j + 1 < N) : pairB (l.take N) j = pairB l j := by
  by_cases hj : j + 1 < l.length
  · have e0 := rd_sub l N 0 j (by omega)
    have e1 := rd_sub l N 0 (j + 1) (by omega)
    simp only [List.drop_zero, Nat.zero_add] at e0 e1
    unfold pairB
    rw [e0, e1, List.length_take, decide_eq_true (show j + 1 < min N l.length by omega), decide_eq_true hj]
  · unfold pairB
    rw [List.length_take, decide_eq_false (show ¬ j + 1 < min N l.length by omega), decide_eq_false hj]
    simp
/-- A header that ends in what is cut ends there. -/
theorem endI_take (l : List Int) (hb : Byt l) (N : Nat) (h : endI (l.take N) ≠ -1) : endI l = endI (l.take N) := by
  rcases endI_spec (l.take N) (hb.take N) with ⟨h1, _⟩ | ⟨h1, h2⟩ | ⟨i, h1, h2, h3, h4⟩
  · exact absurd h1 h
  · rw [h1]; exact endI_zero hb (pair_take l N 0 h2)
  · rw [h1]
    simp only [Bool.and_eq_true] at h3
    have hlt := (pair_lt h3.2).1
    rw [List.length_take] at hlt
    refine endI_at hb ?_ ?_ ?_
    · rw [← pair_take_eq l N 0 (by omega)]; exact h2
    · rw [pair_take l N _ h3.1, pair_take l N _ h3.2]; rfl
    · intro j hj
      have := h4 j hj
      rw [pair_take_eq l N j (by omega), pair_take_eq l N (j + 2) (by omega)] at this
      exact this
theorem hloop_more (k : Nat) : ∀ (f : Nat) (rest : List Int) (body : Int) (r : Int × Int), hloop k f rest body = some r → hloop k (f + 1) rest body = some r
  | 0, _, _, _, h => by simp [hloop] at h
  | f + 1, rest, body, r, h => by
    rw [hloop] at h ⊢
    split at h
    · rename_i h0
      rw [if_pos h0]
      split at h
      · exact h
      · rename_i n v hn
        split at h
        · rename_i he
          simp only [if_pos he]
          obtain ⟨t, h1, h2⟩ := Option.bind_eq_some_iff.mp h
          rw [h1, Option.bind_some]
          split at h2
          · rename_i h5; rw [if_pos h5]; exact h2
          · rename_i h5
            rw [if_neg h5]
            split at h2
            · rename_i h00
              rw [if_pos h00]
              split at h2
              · rename_i hb
                rw [if_pos hb]
                split at h2
                · rename_i hq; rw [if_pos hq]; exact hloop_more k f _ _ _ h2
                · rename_i hq; rw [if_neg hq]; exact h2
              · rename_i hb; rw [if_neg hb]; exact hloop_more k f _ _ _ h2
            · rename_i h00; rw [if_neg h00]; exact h2
        · rename_i he
          simp only [if_neg he]
          exact hloop_more k f _ _ _ h
    · rename_i h0
      rw [if_neg h0]
      exact h
theorem hloop_up {f f' : Nat} (hf : f ≤ f') {rest : List Int} {body : Int} {r : Int × Int} (h : Ev (fun k => hloop k f rest body) r) : Ev (fun k => hloop k f' rest body) r := by
  obtain ⟨K, h⟩ := h
  obtain ⟨d, rfl⟩ := Nat.exists_eq_add_of_le hf
  refine ⟨K, fun k hk => ?_⟩
  induction d with
  | zero => exact h k hk
  | succ n ih => exact hloop_more k _ rest body r (ih (by omega))
theorem hloop_err (k : Nat) : ∀ (f : Nat) (rest : List Int) (body : Int) (r : Int × Int), hloop k f rest body = some r → r.2 = 0 ∨ r.2 = 5 ∨ r.2 = 60
  | 0, _, _, _, h => by simp [hloop] at h
  | f + 1, rest, body, r, h => by
    rw [hloop] at h
    split at h
    · split at h
      · obtain rfl := Option.some.inj h; simp
      · split at h
        · obtain ⟨t, h1, h2⟩ := Option.bind_eq_some_iff.mp h
          split at h2
          · obtain rfl := Option.some.inj h2; simp
          · split at h2
            · split at h2
              · split at h2
                · exact hloop_err k f _ _ _ h2
                · obtain rfl := Option.some.inj h2; simp
              · exact hloop_err k f _ _ _ h2
            · obtain rfl := Option.some.inj h2; simp
        · exact hloop_err k f _ _ _ h
    · obtain rfl := Option.some.inj h; simp
/-- What Parse answers, by its header's end. -/
theorem parse_form (l : List Int) (hb : Byt l) (hl : l.length ≤ 281474976710656) :
    (endI (l.take 512) = -1 ∧ Ev (fun k => head_Parse.f k l) (0, 0, if 512 ≤ l.length then 5 else 3)) ∨
    (∃ (E : Nat) (r : Int × Int), endI (l.take 512) = (E : Int) ∧ 2 ≤ E ∧ E ≤ 512 ∧ E ≤ l.length ∧ (r.2 = 0 ∨ r.2 = 5 ∨ r.2 = 60) ∧ (∀ f, E ≤ f → Ev (fun k => hloop k f (l.take (E - 2)) (-1)) r) ∧ Ev (fun k => head_Parse.f k l) (outOf E r)) := by
  have htl : (l.take 512).length = min 512 l.length := List.length_take
  have hfacts := endI_facts (l.take 512) (hb.take _)
  have hend : endI (l.take 512) = if (endF (l.take 512)).2 = true then (endF (l.take 512)).1 else -1 := rfl
  have hrange := endF_range (l.take 512)
  have hu : ∀ k, head_Parse.f k l = (if (endF (l.take 512)).2 = true then
      (hloop k (l.length + 1) (l.take ((endF (l.take 512)).1 - 2).toNat) (-1)).bind fun t => if t.2 = 0 then (if t.1 < 0 then some (0, 0, 60) else some (t.1, (endF (l.take 512)).1, 0)) else some (0, 0, t.2)
    else if 512 ≤ l.length then some (0, 0, 5) else some (0, 0, 3)) := fun k => by
    unfold head_Parse.f
    rw [if_pos (fits_is hb)]
  simp only [hu]
  generalize endF (l.take 512) = F at hend hrange ⊢
  obtain ⟨F1, F2⟩ := F
  simp only at hend hrange
  cases F2
  · left
    simp only [Bool.false_eq_true, if_false] at hend ⊢
    refine ⟨hend, ?_⟩
    by_cases h5 : 512 ≤ l.length
    · simp only [if_pos h5]; exact Ev.now _
    · simp only [if_neg h5]; exact Ev.now _
  · right
    simp only [if_true] at hend ⊢
    have hr := hrange rfl
    rw [hend] at hfacts
    have fin : ∀ (E : Nat) (r : Int × Int), F1 = (E : Int) → 2 ≤ E → Ev (fun k => hloop k (E - 1) (l.take (E - 2)) (-1)) r → ∃ (E : Nat) (r : Int × Int), endI (l.take 512) = (E : Int) ∧ 2 ≤ E ∧ E ≤ 512 ∧ E ≤ l.length ∧ (r.2 = 0 ∨ r.2 = 5 ∨ r.2 = 60) ∧ (∀ f, E ≤ f → Ev (fun k => hloop k f (l.take (E - 2)) (-1)) r) ∧ Ev (fun k => (hloop k (l.length + 1) (l.take (F1 - 2).toNat) (-1)).bind fun t => if t.2 = 0 then (if t.1 < 0 then some (0, 0, 60) else some (t.1, F1, 0)) else some (0, 0, t.2)) (outOf E r) := by
      intro E r he hE2 hh
      subst he
      have hel : E ≤ l.length ∧ E ≤ 512 := by
        have g := hr.2
        rw [htl] at g
        clear hend hfacts hr
        omega
      refine ⟨E, r, hend, hE2, hel.2, hel.1, ?_, fun f hf => hloop_up (by omega) hh, ?_⟩
      · obtain ⟨K, h⟩ := hh
        exact hloop_err K _ _ _ _ (h K (Nat.le_refl _))
      · rw [show ((E : Int) - 2).toNat = E - 2 by omega]
        refine Ev.bind (hloop_up (by omega) hh) ?_
        unfold outOf
        by_cases h0 : r.2 = 0
        · simp only [if_pos h0]
          by_cases hn : r.1 < 0
          · simp only [if_pos hn]; exact Ev.now _
          · simp only [if_neg hn]; exact Ev.now _
        · simp only [if_neg h0]; exact Ev.now _
    rcases hfacts with hf | ⟨hf, hp⟩ | ⟨e, hf, he4, hel, hp4, hp2⟩
    · omega
    · refine fin 2 (-1, 0) hf (by decide) ?_
      simp only [Nat.sub_self, List.take_zero, hloop, List.length_nil, Nat.lt_irrefl, if_false]
      exact Ev.now _
    · have hel2 : e ≤ l.length := by omega
      obtain ⟨r, k1, _⟩ := loops (l.take 512) (hb.take _) (by omega) e he4 hel hp4 (e - 2) 0 (-1) (e - 1) (by omega) (by omega) (by omega)
      have e5 : e - 2 ≤ 512 := by
        have g := htl
        clear hend hf hr
        omega
      rw [List.drop_zero, List.take_take, Nat.min_eq_left e5] at k1
      exact fin e r hf (by omega) k1
end Go.Proofs.YthkmacgjekienaaDoor.Pure
namespace Go.Proofs.YthkmacgjekienaaDoor.Pure
open Go.RowKit Go.Proofs.YthkmacgjekienaaDoor.P Go.Proofs.YthkmacgjekienaaDoorW.PrintWords
set_option linter.unusedSimpArgs false
set_option linter.unusedVariables false

/-- A number's digits. -/
def nd (u : Nat) : List Int := (Lib.decDigits u).map fun b => (b.toNat : Int)
theorem dd_small {u : Nat} (h : u < 10) : Lib.decDigits u = [UInt8.ofNat (48 + u)] := by
  rw [Lib.decDigits, dif_pos h]
theorem dd_big {u : Nat} (h : ¬ u < 10) : Lib.decDigits u = Lib.decDigits (u / 10) ++ [UInt8.ofNat (48 + u % 10)] := by
  rw [Lib.decDigits, dif_neg h]
theorem nd_small {u : Nat} (h : u < 10) : nd u = [((48 + u : Nat) : Int)] := by
  unfold nd
  rw [dd_small h]
  simp
  omega
theorem nd_big {u : Nat} (h : ¬ u < 10) : nd u = nd (u / 10) ++ [((48 + u % 10 : Nat) : Int)] := by
  unfold nd
  rw [dd_big h]
  simp
  omega
theorem nd_digits (u : Nat) : ∀ c ∈ nd u, isDig c = true := by
  induction u using Nat.strongRecOn with
  | _ u ih =>
    by_cases h : u < 10
    · rw [nd_small h]
      intro c hc
      simp at hc
      subst hc
      simp [isDig]
      omega
    · rw [nd_big h]
      intro c hc
      rcases List.mem_append.1 hc with hc | hc
      · exact ih (u / 10) (by omega) c hc
      · simp at hc
        subst hc
        simp [isDig]
        omega
theorem nd_ne (u : Nat) : nd u ≠ [] := by
  by_cases h : u < 10
  · rw [nd_small h]; simp
  · rw [nd_big h]; simp
theorem val_append (a b : List Int) : ∀ n, val n (a ++ b) = val (val n a) b := by
  induction a with
  | nil => intro n; rfl
  | cons c a ih => intro n; exact ih _
theorem val_nd (u : Nat) : val 0 (nd u) = u := by
  induction u using Nat.strongRecOn with
  | _ u ih =>
    by_cases h : u < 10
    · rw [nd_small h]
      simp only [val]
      omega
    · rw [nd_big h, val_append, ih (u / 10) (by omega)]
      simp only [val]
      omega
theorem nd_len_le (u : Nat) : (nd u).length ≤ u + 1 := by
  induction u using Nat.strongRecOn with
  | _ u ih =>
    by_cases h : u < 10
    · rw [nd_small h]; simp
    · rw [nd_big h]
      have := ih (u / 10) (by omega)
      simp
      omega
theorem nd_len20 (u : Nat) (hu : u < 10 ^ 20) : (nd u).length ≤ 20 := by
  have key : ∀ (n u : Nat), u < 10 ^ (n + 1) → (nd u).length ≤ n + 1 := by
    intro n
    induction n with
    | zero => intro u h; rw [nd_small (by simpa using h)]; simp
    | succ n ih =>
      intro u h
      by_cases h1 : u < 10
      · rw [nd_small h1]; simp
      · rw [nd_big h1]
        have := ih (u / 10) (by rw [Nat.pow_succ] at h; omega)
        simp
        omega
  exact key 19 u hu
/-- What has no nought ahead is the text of its number. -/
theorem nd_of (l : List Int) : (∀ c ∈ l, isDig c = true) → l ≠ [] → (l.length = 1 ∨ l.head? ≠ some 48) → nd (val 0 l).toNat = l := by
  have key : ∀ (n : Nat) (l : List Int), l.length = n + 1 → (∀ c ∈ l, isDig c = true) → (l.length = 1 ∨ l.head? ≠ some 48) → nd (val 0 l).toNat = l ∧ (l.head? ≠ some 48 → 1 ≤ val 0 l) := by
    intro n
    induction n with
    | zero =>
      intro l hl hd _
      obtain ⟨c, rfl⟩ := List.length_eq_one_iff.1 hl
      have hc := hd c (by simp)
      simp [isDig] at hc
      simp only [val]
      rw [nd_small (by omega)]
      refine ⟨by simp; omega, fun h => ?_⟩
      simp at h
      omega
    | succ n ih =>
      intro l hl hd hh
      have hne : l ≠ [] := by intro e; subst e; simp at hl
      obtain ⟨a, c, rfl⟩ : ∃ a c, l = a ++ [c] := ⟨l.dropLast, l.getLast hne, (List.dropLast_concat_getLast hne).symm⟩
      have hal : a.length = n + 1 := by simp at hl; omega
      have hc := hd c (by simp)
      simp [isDig] at hc
      have hhd : (a ++ [c]).head? = a.head? := by
        cases a with
        | nil => simp at hal
        | cons x a => rfl
      have h48 : a.head? ≠ some 48 := by
        rcases hh with h | h
        · simp at h; subst h; simp at hal
        · rw [hhd] at h; exact h
      have hda : ∀ c ∈ a, isDig c = true := fun x hx => hd x (by simp [hx])
      obtain ⟨h1, h2⟩ := ih a hal hda (.inr h48)
      have h3 := h2 h48
      rw [val_append]
      simp only [val]
      refine ⟨?_, fun _ => by omega⟩
      rw [nd_big (by omega), show ((val 0 a * 10 + (c - 48)).toNat / 10) = (val 0 a).toNat by omega, h1]
      congr 1
      congr 1
      omega
  intro hd hne hh
  have : l.length ≠ 0 := fun h => hne (List.eq_nil_of_length_eq_zero h)
  exact (key (l.length - 1) l (by omega) hd hh).1
/-- The text as a string of bytes. -/
def txt (u : Nat) : ByteArray := ⟨(Lib.decDigits u).toArray⟩
theorem txt_bytes (u : Nat) : bytesOf (txt u) = nd u := rfl
theorem txt_size (u : Nat) : (txt u).size = (nd u).length := by
  show (Lib.decDigits u).toArray.size = _
  simp [nd]
theorem txt_of_nd (u : Nat) : strOfNums (nd u) = txt u := by
  unfold strOfNums txt nd
  congr 2
  rw [List.map_map]
  conv => rhs; rw [← List.map_id (Lib.decDigits u)]
  apply List.map_congr_left
  intro b _
  simp
theorem text_is (n : Int) (h0 : 0 ≤ n) (h1 : n ≤ 9223372036854775807) : digits_Text.f n = some (txt n.toNat, 0) := by
  unfold digits_Text.f strconv_Itoa_50.f
  rw [if_neg (by omega), if_pos (by omega)]
  unfold Lib.itoa
  rw [if_neg (by omega)]
  rfl
theorem text_neg (n : Int) (h0 : n < 0) : digits_Text.f n = some (⟨#[]⟩, 9) := by
  unfold digits_Text.f
  rw [if_pos h0]
/-- Both loops of the document's Text. -/
theorem refText_back (l : List Int) (hl : l.length ≤ 1000) (d : Nat) : ∀ (out : List Int), d ≤ l.length → out.length + d = l.length →
    Ev (fun k => colophonref05_Text.l1 k l out ((d : Int) - 1)) (strOfNums (out ++ (l.take d).reverse), 0) := by
  induction d with
  | zero =>
    intro out _ _
    refine Ev.step (f := fun _ => some (strOfNums (out ++ (l.take 0).reverse), 0)) (fun k => ?_) (Ev.now _)
    simp only [colophonref05_Text.l1]
    rw [if_neg (by omega)]
    simp
  | succ d ih =>
    intro out hd ho
    refine Ev.step (f := fun k => colophonref05_Text.l1 k l (out ++ [rd l d]) ((d : Int) - 1)) (fun k => ?_) ?_
    · simp only [colophonref05_Text.l1]
      rw [if_pos (by omega), if_pos (by omega), if_pos (by omega), if_pos (by omega), show ((d + 1 : Nat) : Int) - 1 = d by omega, wrap_nat (by omega) (by omega)]
    · have := ih (out ++ [rd l d]) (by omega) (by simp; omega)
      rw [show out ++ (l.take (d + 1)).reverse = out ++ [rd l d] ++ (l.take d).reverse by
        rw [List.take_succ_eq_append_getElem (by omega)]
        simp [rd, List.getD, show d < l.length by omega]]
      exact this
theorem refText_loop (u : Nat) : ∀ (acc : List Int), acc.length + (nd u).length ≤ 1000 → u ≤ 9223372036854775807 →
    Ev (fun k => colophonref05_Text.l0 k u acc) (strOfNums ((acc ++ (nd u).reverse).reverse), 0) := by
  induction u using Nat.strongRecOn with
  | _ u ih =>
    intro acc hl hu
    by_cases h : u < 10
    · rw [nd_small h] at hl ⊢
      have hq : (wrap64 (48 + (u : Int))) % 256 = ((48 + u : Nat) : Int) := by
        rw [wrap_nat (by omega) (by omega)]
        omega
      refine Ev.step (f := fun k => colophonref05_Text.l1 k (acc ++ [((48 + u : Nat) : Int)]) [] ((((acc ++ [((48 + u : Nat) : Int)]).length : Nat) : Int) - 1)) (fun k => ?_) ?_
      · simp only [colophonref05_Text.l0]
        simp at hl
        rw [if_neg (by omega), if_pos (by omega), hq, Option.bind_some, wrap_nat (by simp <;> omega) (by simp <;> omega)]
      · have := refText_back (acc ++ [((48 + u : Nat) : Int)]) (by simpa using hl) (acc ++ [((48 + u : Nat) : Int)]).length [] (Nat.le_refl _) (by simp)
        rw [List.take_length] at this
        simpa using this
    · rw [nd_big h] at hl ⊢
      have hq : (wrap64 (48 + (Int.tmod u 10))) % 256 = ((48 + u % 10 : Nat) : Int) := by
        rw [tmod10 (by omega), wrap_nat (by omega) (by omega)]
        omega
      simp at hl
      refine Ev.step (f := fun k => colophonref05_Text.l0 k ((u / 10 : Nat) : Int) (acc ++ [((48 + u % 10 : Nat) : Int)])) (fun k => ?_) ?_
      · simp only [colophonref05_Text.l0]
        rw [if_pos (by omega), if_pos (by omega), hq, tdiv10 (by omega), wrap_nat (by omega) (by omega)]
        rfl
      · have := ih (u / 10) (by omega) (acc ++ [((48 + u % 10 : Nat) : Int)]) (by simp; omega) (by omega)
        simpa using this
theorem refText_ev (n : Int) (h0 : 0 ≤ n) (h1 : n ≤ 9223372036854775807) : Ev (fun k => colophonref05_Text.f k n) (txt n.toNat, 0) := by
  unfold colophonref05_Text.f
  have hn : ¬ n < 0 := by omega
  simp only [if_neg hn]
  obtain ⟨u, rfl⟩ := Int.eq_ofNat_of_zero_le h0
  have hl := nd_len20 u (by omega)
  have := refText_loop u [] (by simp; omega) (by omega)
  simpa [txt_of_nd] using this
end Go.Proofs.YthkmacgjekienaaDoor.Pure
namespace Go.Proofs.YthkmacgjekienaaDoor.Pure
open Go.RowKit Go.Proofs.YthkmacgjekienaaDoor.P Go.Proofs.YthkmacgjekienaaDoorW.PrintWords Go.Proofs.YthkmacgjekienaaDoorW.PrintMore
set_option linter.unusedVariables false
set_option linter.unusedSimpArgs false
/-- Lines, each with its end. -/
def lns : List (List Int) → List Int
  | [] => []
  | o :: r => o ++ 13 :: 10 :: lns r
/-- A line: something, without 13. -/
def Ln (o : List Int) : Prop := o ≠ [] ∧ (∀ x ∈ o, x ≠ 13) ∧ Byt o
theorem Byt.append {a b : List Int} (ha : Byt a) (hb : Byt b) : Byt (a ++ b) := fun x hx => by
  rcases List.mem_append.1 hx with h | h
  · exact ha x h
  · exact hb x h
theorem byt_lns : ∀ (ls : List (List Int)), (∀ o ∈ ls, Ln o) → Byt (lns ls)
  | [], _ => fun x hx => by simp [lns] at hx
  | o :: r, h => by
    rw [lns]
    refine Byt.append (h o (by simp)).2.2 ?_
    intro x hx
    rcases List.mem_cons.1 hx with rfl | hx
    · omega
    · rcases List.mem_cons.1 hx with rfl | hx
      · omega
      · exact byt_lns r (fun o ho => h o (by simp [ho])) x hx
theorem rd_left {a b : List Int} {j : Nat} (h : j < a.length) : rd (a ++ b) (j : Int) = a[j] := by
  unfold rd
  rw [Int.toNat_natCast]
  simp [List.getD, List.getElem?_append_left h, h]
theorem rd_right (a b : List Int) (j : Nat) : rd (a ++ b) ((a.length + j : Nat) : Int) = rd b (j : Int) := by
  rw [show b = (a ++ b).drop a.length by simp, rd_drop]
  simp
theorem pair_right (a b : List Int) (j : Nat) : pairB (a ++ b) (a.length + j) = pairB b j := by
  unfold pairB
  rw [rd_right, show a.length + j + 1 = a.length + (j + 1) from rfl, rd_right, List.length_append]
  congr 2
  exact decide_eq_decide.mpr (by omega)
theorem pair_left {a : List Int} (ha : ∀ x ∈ a, x ≠ 13) (b : List Int) {j : Nat} (h : j < a.length) : pairB (a ++ b) j = false := by
  unfold pairB
  rw [rd_left h, decide_eq_false (ha _ (List.getElem_mem h))]
  rfl
theorem lns_len (ls : List (List Int)) (h : ∀ o ∈ ls, Ln o) (hn : ls ≠ []) : 3 ≤ (lns ls).length := by
  match ls, h, hn with
  | o :: r, h, _ =>
    have := List.length_pos_iff.mpr (h o (by simp)).1
    simp [lns]
    omega
theorem pair_short {l : List Int} {j : Nat} (h : l.length ≤ j + 1) : pairB l j = false := by
  unfold pairB
  rw [decide_eq_false (show ¬ j + 1 < l.length by omega)]
  simp
/-- In lines and an empty line, two ends stand behind one another at the end alone. -/
theorem lns_pairs : ∀ (ls : List (List Int)), (∀ o ∈ ls, Ln o) → ls ≠ [] → ∀ j, (pairB (lns ls ++ [13, 10]) j && pairB (lns ls ++ [13, 10]) (j + 2)) = decide (j + 2 = (lns ls).length)
  | [], _, h, _ => absurd rfl h
  | o :: r, h, _, j => by
    have ho := h o (by simp)
    have hr : ∀ o ∈ r, Ln o := fun o ho => h o (by simp [ho])
    have e : lns (o :: r) ++ [13, 10] = o ++ (13 :: 10 :: (lns r ++ [13, 10])) := by simp [lns]
    have el : (lns (o :: r)).length = o.length + 2 + (lns r).length := by simp [lns]; omega
    rw [e, el]
    rcases Nat.lt_or_ge j o.length with g | g
    · rw [pair_left ho.2.1 _ g, Bool.false_and, decide_eq_false (by omega)]
    · obtain ⟨i, rfl⟩ := Nat.exists_eq_add_of_le g
      rw [pair_right, Nat.add_assoc, pair_right]
      match i with
      | 0 =>
        have p0 : pairB (13 :: 10 :: (lns r ++ [13, 10])) 0 = true := by simp [pairB, rd, List.getD]
        have p2 : pairB (13 :: 10 :: (lns r ++ [13, 10])) (0 + 2) = pairB (lns r ++ [13, 10]) 0 := pair_right [13, 10] (lns r ++ [13, 10]) 0
        rw [p0, p2, Bool.true_and]
        match r, hr with
        | [], _ => simp [lns, pairB, rd, List.getD]
        | o' :: r', hr =>
          have ho' := hr o' (by simp)
          have : 0 < o'.length := List.length_pos_iff.mpr ho'.1
          have e' : lns (o' :: r') ++ [13, 10] = o' ++ (13 :: 10 :: (lns r' ++ [13, 10])) := by simp [lns]
          rw [e', pair_left ho'.2.1 _ this, decide_eq_false]
          simp [lns]
      | 1 =>
        have p1 : pairB (13 :: 10 :: (lns r ++ [13, 10])) 1 = false := by simp [pairB, rd, List.getD]
        have h1 : (lns r).length ≠ 1 := by
          match r, hr with
          | [], _ => simp [lns]
          | o' :: r', hr => have := lns_len (o' :: r') hr (by simp); omega
        rw [p1, Bool.false_and, decide_eq_false (by omega)]
      | i + 2 =>
        have q1 : pairB (13 :: 10 :: (lns r ++ [13, 10])) (i + 2) = pairB (lns r ++ [13, 10]) i := by rw [Nat.add_comm]; exact pair_right [13, 10] (lns r ++ [13, 10]) i
        have q2 : pairB (13 :: 10 :: (lns r ++ [13, 10])) (i + 2 + 2) = pairB (lns r ++ [13, 10]) (i + 2) := by rw [Nat.add_comm (i + 2) 2]; exact pair_right [13, 10] (lns r ++ [13, 10]) (i + 2)
        rw [q1, q2]
        match r, hr with
        | [], _ =>
          rw [decide_eq_false (by simp [lns])]
          rw [pair_short (j := i + 2) (by simp [lns]), Bool.and_false]
        | o' :: r', hr =>
          rw [lns_pairs (o' :: r') hr (by simp) i]
          exact decide_eq_decide.mpr (by omega)
theorem lns_pair0 (ls : List (List Int)) (h : ∀ o ∈ ls, Ln o) (hn : ls ≠ []) : pairB (lns ls ++ [13, 10]) 0 = false := by
  match ls, h, hn with
  | o :: r, h, _ =>
    have ho := h o (by simp)
    have e : lns (o :: r) ++ [13, 10] = o ++ (13 :: 10 :: (lns r ++ [13, 10])) := by simp [lns]
    rw [e]
    exact pair_left ho.2.1 _ (List.length_pos_iff.mpr ho.1)
theorem byt_hd (ls : List (List Int)) (h : ∀ o ∈ ls, Ln o) : Byt (lns ls ++ [13, 10]) := Byt.append (byt_lns ls h) (fun x hx => by simp at hx; omega)
/-- The header ends at its end. -/
theorem hd_end (ls : List (List Int)) (h : ∀ o ∈ ls, Ln o) (hn : ls ≠ []) : endI (lns ls ++ [13, 10]) = (((lns ls).length + 2 : Nat) : Int) := by
  have h3 := lns_len ls h hn
  rw [endI_at (byt_hd ls h) (lns_pair0 ls h hn) (i := (lns ls).length - 2) (by rw [lns_pairs ls h hn]; exact decide_eq_true (by omega)) (fun j hj => by rw [lns_pairs ls h hn]; exact decide_eq_false (by omega))]
  omega
/-- No beginning of it has an end. -/
theorem hd_cut (ls : List (List Int)) (h : ∀ o ∈ ls, Ln o) (hn : ls ≠ []) (t : Nat) (ht : t < (lns ls).length + 2) : endI ((lns ls ++ [13, 10]).take t) = -1 := by
  have h3 := lns_len ls h hn
  refine endI_none ((byt_hd ls h).take t) ?_ ?_
  · rw [Bool.eq_false_iff]
    intro g
    have := pair_take _ _ _ g
    rw [lns_pair0 ls h hn] at this
    cases this
  · intro j
    rw [Bool.eq_false_iff]
    intro g
    simp only [Bool.and_eq_true] at g
    have hlt := (pair_lt g.2).1
    rw [List.length_take] at hlt
    have g1 := pair_take _ _ _ g.1
    have g2 := pair_take _ _ _ g.2
    have := lns_pairs ls h hn j
    rw [g1, g2] at this
    have := of_decide_eq_true this.symm
    omega
/-- One line of them is cut. -/
theorem cut_line (o r : List Int) (ho : Ln o) (hr : Byt r) : cutF (o ++ 13 :: 10 :: r) = (o, r) := by
  have hb : Byt (o ++ 13 :: 10 :: r) := Byt.append ho.2.2 (fun x hx => by
    rcases List.mem_cons.1 hx with rfl | hx
    · omega
    · rcases List.mem_cons.1 hx with rfl | hx
      · omega
      · exact hr x hx)
  have hp : pairB (o ++ 13 :: 10 :: r) o.length = true := by
    have := pair_right o (13 :: 10 :: r) 0
    rw [Nat.add_zero] at this
    rw [this]
    simp [pairB, rd, List.getD]
  unfold cutF
  rcases idx2_spec _ hb with ⟨h1, h2⟩ | ⟨i, h1, h2, h3⟩
  · rw [h2] at hp; cases hp
  · have : i = o.length := by
      rcases Nat.lt_trichotomy i o.length with g | g | g
      · rw [pair_left ho.2.1 _ g] at h2; cases h2
      · exact g
      · rw [h3 _ g] at hp; cases hp
    subst this
    rw [h1, if_pos (by omega), Int.toNat_natCast]
    simp
/-- The loop goes over a line of another name. -/
theorem loop_other (k f : Nat) (o r : List Int) (ho : Ln o) (hr : Byt r) (body : Int) (n v : List Int) (hl : lineD o = some (n, v)) (hq : eqCL n = false) : hloop k (f + 1) (o ++ 13 :: 10 :: r) body = hloop k f r body := by
  rw [hloop, if_pos (by simp; omega), cut_line o r ho hr]
  simp only [line_eq o ho.2.2, hl, hq, Bool.false_eq_true, if_false]
/-- And over one of that name. -/
theorem loop_cl (f : Nat) (o r : List Int) (ho : Ln o) (hr : Byt r) (body : Int) (n v : List Int) (hl : lineD o = some (n, v)) (hq : eqCL n = true) (hv : v.length * 1 ≤ 140737488353792) (x : Int) (hx : parsed v 65536 = (x, 0)) (out : Int × Int)
    (h : Ev (fun k => if 0 ≤ body then (if x = body then hloop k f r x else some (0, 60)) else hloop k f r x) out) : Ev (fun k => hloop k (f + 1) (o ++ 13 :: 10 :: r) body) out := by
  have e : ∀ k, hloop k (f + 1) (o ++ 13 :: 10 :: r) body = (digits_Parse.f k v 65536).bind fun t => if t.2 = 5 then some (0, 5) else if t.2 = 0 then (if 0 ≤ body then (if t.1 = body then hloop k f r t.1 else some (0, 60)) else hloop k f r t.1) else some (0, 60) := fun k => by
    rw [hloop, if_pos (by simp; omega), cut_line o r ho hr]
    simp only [line_eq o ho.2.2, hl, hq, if_true]
  refine Ev.congr e ?_
  have p1 := parse_ev v hv 65536 (by decide)
  rw [hx] at p1
  refine Ev.bind p1 ?_
  simp only [if_true, if_neg (show ¬ (0 : Int) = 5 by decide)]
  exact h
/-- The line of a length. -/
def clOf (u : Nat) : List Int := [67, 111, 110, 116, 101, 110, 116, 45, 76, 101, 110, 103, 116, 104, 58, 32] ++ nd u
theorem dig_range {c : Int} (h : isDig c = true) : 48 ≤ c ∧ c ≤ 57 := by simp [isDig] at h; omega
theorem cl_ln (u : Nat) : Ln (clOf u) := by
  refine ⟨by simp [clOf], ?_, ?_⟩
  · intro x hx
    rcases List.mem_append.1 hx with h | h
    · clear hx; revert x; decide
    · have := dig_range (nd_digits u x h); omega
  · intro x hx
    rcases List.mem_append.1 hx with h | h
    · clear hx; revert x; decide
    · have := dig_range (nd_digits u x h); omega
theorem cl_line (u : Nat) : lineD (clOf u) = some ([67, 111, 110, 116, 101, 110, 116, 45, 76, 101, 110, 103, 116, 104], nd u) := by
  have hd := nd_digits u
  have hne := nd_ne u
  have hnl : nameLen (clOf u) = 14 := by
    unfold nameLen clOf
    simp [List.takeWhile_cons, nameI]
  have hdr : (clOf u).drop (14 + 1) = 32 :: nd u := rfl
  have htk : (clOf u).take 14 = [67, 111, 110, 116, 101, 110, 116, 45, 76, 101, 110, 103, 116, 104] := rfl
  have hlen : 16 ≤ (clOf u).length := by simp [clOf]
  have hrd : rd (clOf u) ((14 : Nat) : Int) = 58 := rfl
  have hnb : ∀ c ∈ nd u, isBl c = false := fun c hc => by have := dig_range (hd c hc); simp [isBl]; omega
  have hdw : (32 :: nd u).dropWhile isBl = nd u := by
    rw [List.dropWhile_cons, if_pos (by rfl)]
    generalize nd u = l at hnb hne
    match l, hne with
    | a :: t, _ => rw [List.dropWhile_cons, if_neg (by rw [hnb a (by simp)]; decide)]
  have hrt : rtrim (nd u) = nd u := by
    unfold rtrim
    have hnr : ∀ c ∈ (nd u).reverse, isBl c = false := fun c hc => hnb c (List.mem_reverse.mp hc)
    have hner : (nd u).reverse ≠ [] := by simpa using hne
    rw [show (nd u).reverse.dropWhile isBl = (nd u).reverse from ?_, List.reverse_reverse]
    generalize (nd u).reverse = l at hnr hner
    match l, hner with
    | a :: t, _ => rw [List.dropWhile_cons, if_neg (by rw [hnr a (by simp)]; decide)]
  have hall : (32 :: nd u).all valI = true := by
    rw [List.all_eq_true]
    intro x hx
    rcases List.mem_cons.1 hx with rfl | hx
    · rfl
    · have := dig_range (hd x hx); simp [valI]; omega
  unfold lineD
  rw [hnl, hdr, htk, if_neg (by rw [hrd]; omega), if_pos hall, hdw, hrt]
theorem cl_eq : eqCL [67, 111, 110, 116, 101, 110, 116, 45, 76, 101, 110, 103, 116, 104] = true := by decide +kernel
theorem nd_parsed (u : Nat) (h : u ≤ 65536) : parsed (nd u) 65536 = ((u : Int), 0) := by
  unfold parsed
  have hne := nd_ne u
  have hlen : (nd u).length ≠ 0 := fun e => hne (List.eq_nil_of_length_eq_zero e)
  rw [if_neg (by decide), if_neg (by rintro (e | e); exact hlen e; exact e (runLen_all (nd_digits u)))]
  unfold told
  rw [val_nd, if_pos (by omega)]
theorem nd_small_len (u : Nat) (h : u ≤ 65536) : (nd u).length ≤ 20 := nd_len20 u (by omega)
end Go.Proofs.YthkmacgjekienaaDoor.Pure

namespace Go.Proofs.YthkmacgjekienaaDoor.Pure
open Go.RowKit Go.Proofs.YthkmacgjekienaaDoor.P Go.Proofs.YthkmacgjekienaaDoorW.PrintWords Go.Proofs.YthkmacgjekienaaDoorW.PrintMore
set_option linter.unusedVariables false
set_option linter.unusedSimpArgs false
/-- A header. -/
def hdOf (u : Nat) : List Int := lns [clOf u] ++ [13, 10]
theorem bytesOf_app (a b : ByteArray) : bytesOf (a ++ b) = bytesOf a ++ bytesOf b := by
  unfold bytesOf
  rw [← List.map_append]
  congr 1
theorem mk_bytes (u : Nat) : bytesOf ((((⟨#[67, 111, 110, 116, 101, 110, 116, 45, 76, 101, 110, 103, 116, 104, 58, 32]⟩ : ByteArray) ++ txt u) ++ (⟨#[13, 10]⟩ : ByteArray)) ++ (⟨#[13, 10]⟩ : ByteArray)) = hdOf u := by
  rw [bytesOf_app, bytesOf_app, bytesOf_app, txt_bytes]
  simp [hdOf, lns, clOf, bytesOf]
theorem make_is (n : Int) (h0 : 0 ≤ n) (h1 : n ≤ 65536) : head_Make.f n = some (hdOf n.toNat, 0) := by
  unfold head_Make.f
  have hl := nd_len20 n.toNat (by omega)
  rw [if_neg (by omega), text_is n h0 (by omega)]
  simp only [Option.bind_some, if_true, txt_size]
  rw [if_pos (by omega), if_pos (by omega), if_pos (by omega)]
  unfold X_bytes.f
  rw [mk_bytes, if_pos (by simp only [ByteArray.size_append, txt_size]; simp [ByteArray.size]; omega)]
  rfl
theorem refMake_ev (n : Int) (h0 : 0 ≤ n) (h1 : n ≤ 65536) : Ev (fun k => colophonref06_Make.f k n) (hdOf n.toNat, 0) := by
  unfold colophonref06_Make.f
  have hl := nd_len20 n.toNat (by omega)
  simp only [if_neg (show ¬ n < 0 by omega), if_neg (show ¬ n > 65536 by omega)]
  refine Ev.bind (refText_ev n h0 (by omega)) ?_
  simp only [txt_size, if_pos (show 16 + (nd n.toNat).length ≤ 9223372036854775807 by omega), if_pos (show 16 + (nd n.toNat).length + 4 ≤ 9223372036854775807 by omega)]
  have e : X_bytes.f (((⟨#[67, 111, 110, 116, 101, 110, 116, 45, 76, 101, 110, 103, 116, 104, 58, 32]⟩ : ByteArray) ++ txt n.toNat) ++ (⟨#[13, 10, 13, 10]⟩ : ByteArray)) = some (hdOf n.toNat) := by
    unfold X_bytes.f
    rw [if_pos (by simp only [ByteArray.size_append, txt_size]; simp [ByteArray.size]; omega), bytesOf_app, bytesOf_app, txt_bytes]
    simp [hdOf, lns, clOf, bytesOf]
  simp only [e, Option.bind_some]
  exact Ev.now _
theorem hd_len (u : Nat) (h : u ≤ 65536) : (hdOf u).length ≤ 40 ∧ 20 < (hdOf u).length := by
  have := nd_len20 u (by omega)
  have hp := List.length_pos_iff.mpr (nd_ne u)
  simp [hdOf, lns, clOf]
  omega
end Go.Proofs.YthkmacgjekienaaDoor.Pure

namespace Go.Proofs.YthkmacgjekienaaDoor.Pure
open Go.RowKit Go.Proofs.YthkmacgjekienaaDoor.P Go.Proofs.YthkmacgjekienaaDoorW.PrintWords Go.Proofs.YthkmacgjekienaaDoorW.PrintMore
set_option linter.unusedVariables false
set_option linter.unusedSimpArgs false
/-- What is cut is told to be cut (of less than 512 bytes), or the whole is told of alike. -/
theorem settled (l : List Int) (hb : Byt l) (hl : l.length ≤ 281474976710656) (t : Nat) (ht : t ≤ l.length) :
    (t < 512 ∧ Ev (fun k => head_Parse.f k (l.take t)) (0, 0, 3)) ∨
    (∃ r : Int × Int × Int, Ev (fun k => head_Parse.f k (l.take t)) r ∧ Ev (fun k => head_Parse.f k l) r ∧ r.2.2 ≠ 3 ∧ (r.2.2 = 0 → r.2.1 ≤ t ∧ r.2.1 ≤ 512)) := by
  have htl : (l.take t).length = t := by rw [List.length_take]; omega
  have htt : (l.take t).take 512 = (l.take 512).take t := by rw [List.take_take, List.take_take, Nat.min_comm]
  rcases parse_form (l.take t) (hb.take t) (by omega) with ⟨a1, a2⟩ | ⟨E, r, a1, a2, a3, a4, a5, a6, a7⟩
  · rw [htl] at a2
    by_cases h5 : 512 ≤ t
    · rw [if_pos h5] at a2
      right
      refine ⟨_, a2, ?_, by decide, fun h => absurd h (by decide)⟩
      have e5 : (l.take t).take 512 = l.take 512 := by rw [List.take_take, Nat.min_eq_left h5]
      rw [e5] at a1
      rcases parse_form l hb hl with ⟨b1, b2⟩ | ⟨E, r, b1, _⟩
      · rw [if_pos (by omega)] at b2; exact b2
      · rw [a1] at b1; omega
    · rw [if_neg h5] at a2
      exact .inl ⟨by omega, a2⟩
  · right
    rw [htl] at a4
    have he : endI (l.take 512) = (E : Int) := by
      rw [htt] at a1
      rw [endI_take (l.take 512) (hb.take _) t (by omega), a1]
    rcases parse_form l hb hl with ⟨b1, b2⟩ | ⟨E', r', b1, b2, b3, b4, b5, b6, b7⟩
    · rw [he] at b1; omega
    · have hE : E' = E := by rw [he] at b1; omega
      subst hE
      have hr : r' = r := by
        refine ev_one (b6 E' (Nat.le_refl _)) ?_
        have := a6 E' (Nat.le_refl _)
        rw [List.take_take, Nat.min_eq_left (by omega)] at this
        exact this
      subst hr
      refine ⟨_, a7, b7, ?_, ?_⟩
      · unfold outOf
        split
        · split <;> (simp only; decide)
        · rename_i h; simp only; omega
      · intro h
        unfold outOf at h ⊢
        split
        · rename_i h0
          rw [if_pos h0] at h
          split
          · rename_i h1; rw [if_pos h1] at h; cases h
          · simp only; omega
        · rename_i h0
          rw [if_neg h0] at h
          exact absurd h h0
end Go.Proofs.YthkmacgjekienaaDoor.Pure

namespace Go.Proofs.YthkmacgjekienaaDoor.Pure
open Go.RowKit Go.Proofs.YthkmacgjekienaaDoor.P Go.Proofs.YthkmacgjekienaaDoorW.PrintWords Go.Proofs.YthkmacgjekienaaDoorW.PrintMore
set_option linter.unusedVariables false
set_option linter.unusedSimpArgs false
theorem strOf_append (a b : List Int) : strOfNums a ++ strOfNums b = strOfNums (a ++ b) := by
  apply ByteArray.ext
  simp [strOfNums]
theorem bytesOf_strOf (l : List Int) (h : Byt l) : bytesOf (strOfNums l) = l := by
  unfold bytesOf strOfNums
  simp only [List.map_map]
  conv => rhs; rw [← List.map_id l]
  apply List.map_congr_left
  intro x hx
  have := h x hx
  simp only [Function.comp_def, UInt8.toNat_ofNat', id]
  omega
theorem strOf_size (l : List Int) : (strOfNums l).size = l.length := by simp [strOfNums, ByteArray.size]
theorem xbytes_of (l : List Int) (h : Byt l) (hl : l.length ≤ 9223372036854775807) : X_bytes.f (strOfNums l) = some l := by
  unfold X_bytes.f
  rw [strOf_size, if_pos hl, bytesOf_strOf l h]
/-- Of a header made of lines, its loop's answer is told. -/
theorem parse_lns (ls : List (List Int)) (h : ∀ o ∈ ls, Ln o) (hn : ls ≠ []) (hl : (lns ls).length + 2 ≤ 512) (r : Int × Int) (hr : Ev (fun k => hloop k ((lns ls).length + 2) (lns ls) (-1)) r) : Ev (fun k => head_Parse.f k (lns ls ++ [13, 10])) (outOf (((lns ls).length + 2 : Nat) : Int) r) := by
  have hlen : (lns ls ++ [13, 10]).length = (lns ls).length + 2 := by simp
  have he := hd_end ls h hn
  have ht : (lns ls ++ [13, 10]).take 512 = lns ls ++ [13, 10] := List.take_of_length_le (by omega)
  rcases parse_form (lns ls ++ [13, 10]) (byt_hd ls h) (by omega) with ⟨b1, b2⟩ | ⟨E, r', b1, b2, b3, b4, b5, b6, b7⟩
  · rw [ht, he] at b1; omega
  · rw [ht, he] at b1
    have hE : E = (lns ls).length + 2 := by omega
    subst hE
    have e : (lns ls ++ [13, 10]).take ((lns ls).length + 2 - 2) = lns ls := by rw [Nat.add_sub_cancel]; exact List.take_left'  rfl
    have := b6 ((lns ls).length + 2) (Nat.le_refl _)
    rw [e] at this
    rw [ev_one hr this]
    exact b7
/-- Of each beginning of it that it is cut, or too long. -/
theorem parse_cut (ls : List (List Int)) (h : ∀ o ∈ ls, Ln o) (hn : ls ≠ []) (t : Nat) (ht : t < (lns ls).length + 2) (hb : (lns ls).length ≤ 1000) : Ev (fun k => head_Parse.f k ((lns ls ++ [13, 10]).take t)) (0, 0, if 512 ≤ t then 5 else 3) := by
  have hlen : (lns ls ++ [13, 10]).length = (lns ls).length + 2 := by simp
  have hlt : ((lns ls ++ [13, 10]).take t).length = t := by rw [List.length_take]; omega
  rcases parse_form ((lns ls ++ [13, 10]).take t) ((byt_hd ls h).take t) (by omega) with ⟨b1, b2⟩ | ⟨E, r', b1, b2, b3, b4, b5, b6, b7⟩
  · rw [hlt] at b2; exact b2
  · rw [List.take_take, hd_cut ls h hn _ (by omega)] at b1
    omega
theorem parse_long (ls : List (List Int)) (h : ∀ o ∈ ls, Ln o) (hn : ls ≠ []) (hb : (lns ls).length ≤ 1000) (hl : 512 < (lns ls).length + 2) : Ev (fun k => head_Parse.f k (lns ls ++ [13, 10])) (0, 0, 5) := by
  have hlen : (lns ls ++ [13, 10]).length = (lns ls).length + 2 := by simp
  rcases parse_form (lns ls ++ [13, 10]) (byt_hd ls h) (by omega) with ⟨b1, b2⟩ | ⟨E, r', b1, b2, b3, b4, b5, b6, b7⟩
  · rw [if_pos (by omega)] at b2; exact b2
  · rw [hd_cut ls h hn _ hl] at b1
    omega
theorem loop_end (k f : Nat) (body : Int) : hloop k (f + 1) [] body = some (body, 0) := by simp [hloop]
theorem lns_one (o : List Int) : lns [o] = o ++ 13 :: 10 :: [] := rfl
theorem cl_loop (u f : Nat) (hu : u ≤ 65536) (rest : List Int) (hr : Byt rest) (body : Int) (out : Int × Int) (h : Ev (fun k => if 0 ≤ body then (if (u : Int) = body then hloop k f rest (u : Int) else some (0, 60)) else hloop k f rest (u : Int)) out) : Ev (fun k => hloop k (f + 1) (clOf u ++ 13 :: 10 :: rest) body) out :=
  loop_cl f (clOf u) rest (cl_ln u) hr body _ _ (cl_line u) cl_eq (by have := nd_small_len u hu; omega) (u : Int) (nd_parsed u hu) out h
theorem ln_cl (u : Nat) : ∀ o ∈ [clOf u], Ln o := fun o ho => by rw [List.mem_singleton.mp ho]; exact cl_ln u
theorem hd_lns (u : Nat) (hu : u ≤ 65536) : (lns [clOf u]).length + 2 = (hdOf u).length := by simp [hdOf]
theorem parse_hd (u : Nat) (hu : u ≤ 65536) : Ev (fun k => head_Parse.f k (hdOf u)) ((u : Int), ((hdOf u).length : Int), 0) := by
  have hl := hd_len u hu
  have he := hd_lns u hu
  have := parse_lns [clOf u] (ln_cl u) (by simp) (by omega) ((u : Int), 0) (by
    rw [lns_one]
    refine cl_loop u _ hu [] (fun x hx => by simp at hx) (-1) _ ?_
    simp only [if_neg (show ¬ (0 : Int) ≤ -1 by decide)]
    obtain ⟨f, hf⟩ : ∃ f, (clOf u ++ [13, 10]).length + 1 = f + 1 := ⟨_, rfl⟩
    simp only [hf, loop_end]
    exact Ev.now _)
  rw [he] at this
  unfold outOf at this
  rw [if_pos rfl, if_neg (by simp only; omega)] at this
  exact this
end Go.Proofs.YthkmacgjekienaaDoor.Pure
