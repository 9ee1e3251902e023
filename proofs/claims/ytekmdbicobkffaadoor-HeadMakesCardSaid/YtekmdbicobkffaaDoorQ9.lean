/- Headers made of lines. -/
import Derived.Test.YtekmdbicobkffaaDoorQ8
namespace Go.Proofs.YtekmdbicobkffaaDoor.Pure
open Go.RowKit Go.Proofs.YtekmdbicobkffaaDoor.P Go.Proofs.YtekmdbicobkffaaDoorW.PrintWords Go.Proofs.YtekmdbicobkffaaDoorW.PrintMore
set_option linter.unusedVariables false
set_option linter.unusedSimpArgs false
/-- Lines, each with its end. -/
def lns : List (List Int) → List Int
  | [] => []
  | o :: r => o ++ 13 :: 10 :: lns r
/-- A line: something, without 13. -/
def Ln (o : List Int) : Prop := o ≠ [] ∧ (∀ x ∈ o, x ≠ 13) ∧ Byt o
theorem Byt.append {a b : List Int} (ha : Byt a) (hb : Byt b) : Byt (a ++ b) := fun x hx => by
  rcases List.mem_append.1 hx with h | h
  · exact ha x h
  · exact hb x h
theorem byt_lns : ∀ (ls : List (List Int)), (∀ o ∈ ls, Ln o) → Byt (lns ls)
  | [], _ => fun x hx => by simp [lns] at hx
  | o :: r, h => by
    rw [lns]
    refine Byt.append (h o (by simp)).2.2 ?_
    intro x hx
    rcases List.mem_cons.1 hx with rfl | hx
    · omega
    · rcases List.mem_cons.1 hx with rfl | hx
      · omega
      · exact byt_lns r (fun o ho => h o (by simp [ho])) x hx
theorem rd_left {a b : List Int} {j : Nat} (h : j < a.length) : rd (a ++ b) (j : Int) = a[j] := by
  unfold rd
  rw [Int.toNat_natCast]
  simp [List.getD, List.getElem?_append_left h, h]
theorem rd_right (a b : List Int) (j : Nat) : rd (a ++ b) ((a.length + j : Nat) : Int) = rd b (j : Int) := by
  rw [show b = (a ++ b).drop a.length by simp, rd_drop]
  simp
theorem pair_right (a b : List Int) (j : Nat) : pairB (a ++ b) (a.length + j) = pairB b j := by
  unfold pairB
  rw [rd_right, show a.length + j + 1 = a.length + (j + 1) from rfl, rd_right, List.length_append]
  congr 2
  exact decide_eq_decide.mpr (by omega)
theorem pair_left {a : List Int} (ha : ∀ x ∈ a, x ≠ 13) (b : List Int) {j : Nat} (h : j < a.length) : pairB (a ++ b) j = false := by
  unfold pairB
  rw [rd_left h, decide_eq_false (ha _ (List.getElem_mem h))]
  rfl
theorem lns_len (ls : List (List Int)) (h : ∀ o ∈ ls, Ln o) (hn : ls ≠ []) : 3 ≤ (lns ls).length := by
  match ls, h, hn with
  | o :: r, h, _ =>
    have := List.length_pos_iff.mpr (h o (by simp)).1
    simp [lns]
    omega
theorem pair_short {l : List Int} {j : Nat} (h : l.length ≤ j + 1) : pairB l j = false := by
  unfold pairB
  rw [decide_eq_false (show ¬ j + 1 < l.length by omega)]
  simp
/-- In lines and an empty line, two ends stand behind one another at the end alone. -/
theorem lns_pairs : ∀ (ls : List (List Int)), (∀ o ∈ ls, Ln o) → ls ≠ [] → ∀ j, (pairB (lns ls ++ [13, 10]) j && pairB (lns ls ++ [13, 10]) (j + 2)) = decide (j + 2 = (lns ls).length)
  | [], _, h, _ => absurd rfl h
  | o :: r, h, _, j => by
    have ho := h o (by simp)
    have hr : ∀ o ∈ r, Ln o := fun o ho => h o (by simp [ho])
    have e : lns (o :: r) ++ [13, 10] = o ++ (13 :: 10 :: (lns r ++ [13, 10])) := by simp [lns]
    have el : (lns (o :: r)).length = o.length + 2 + (lns r).length := by simp [lns]; omega
    rw [e, el]
    rcases Nat.lt_or_ge j o.length with g | g
    · rw [pair_left ho.2.1 _ g, Bool.false_and, decide_eq_false (by omega)]
    · obtain ⟨i, rfl⟩ := Nat.exists_eq_add_of_le g
      rw [pair_right, Nat.add_assoc, pair_right]
      match i with
      | 0 =>
        have p0 : pairB (13 :: 10 :: (lns r ++ [13, 10])) 0 = true := by simp [pairB, rd, List.getD]
        have p2 : pairB (13 :: 10 :: (lns r ++ [13, 10])) (0 + 2) = pairB (lns r ++ [13, 10]) 0 := pair_right [13, 10] (lns r ++ [13, 10]) 0
        rw [p0, p2, Bool.true_and]
        match r, hr with
        | [], _ => simp [lns, pairB, rd, List.getD]
        | o' :: r', hr =>
          have ho' := hr o' (by simp)
          have : 0 < o'.length := List.length_pos_iff.mpr ho'.1
          have e' : lns (o' :: r') ++ [13, 10] = o' ++ (13 :: 10 :: (lns r' ++ [13, 10])) := by simp [lns]
          rw [e', pair_left ho'.2.1 _ this, decide_eq_false]
          simp [lns]
      | 1 =>
        have p1 : pairB (13 :: 10 :: (lns r ++ [13, 10])) 1 = false := by simp [pairB, rd, List.getD]
        have h1 : (lns r).length ≠ 1 := by
          match r, hr with
          | [], _ => simp [lns]
          | o' :: r', hr => have := lns_len (o' :: r') hr (by simp); omega
        rw [p1, Bool.false_and, decide_eq_false (by omega)]
      | i + 2 =>
        have q1 : pairB (13 :: 10 :: (lns r ++ [13, 10])) (i + 2) = pairB (lns r ++ [13, 10]) i := by rw [Nat.add_comm]; exact pair_right [13, 10] (lns r ++ [13, 10]) i
        have q2 : pairB (13 :: 10 :: (lns r ++ [13, 10])) (i + 2 + 2) = pairB (lns r ++ [13, 10]) (i + 2) := by rw [Nat.add_comm (i + 2) 2]; exact pair_right [13, 10] (lns r ++ [13, 10]) (i + 2)
        rw [q1, q2]
        match r, hr with
        | [], _ =>
          rw [decide_eq_false (by simp [lns])]
          rw [pair_short (j := i + 2) (by simp [lns]), Bool.and_false]
        | o' :: r', hr =>
          rw [lns_pairs (o' :: r') hr (by simp) i]
          exact decide_eq_decide.mpr (by omega)
theorem lns_pair0 (ls : List (List Int)) (h : ∀ o ∈ ls, Ln o) (hn : ls ≠ []) : pairB (lns ls ++ [13, 10]) 0 = false := by
  match ls, h, hn with
  | o :: r, h, _ =>
    have ho := h o (by simp)
    have e : lns (o :: r) ++ [13, 10] = o ++ (13 :: 10 :: (lns r ++ [13, 10])) := by simp [lns]
    rw [e]
    exact pair_left ho.2.1 _ (List.length_pos_iff.mpr ho.1)
theorem byt_hd (ls : List (List Int)) (h : ∀ o ∈ ls, Ln o) : Byt (lns ls ++ [13, 10]) := Byt.append (byt_lns ls h) (fun x hx => by simp at hx; omega)
/-- The header ends at its end. -/
theorem hd_end (ls : List (List Int)) (h : ∀ o ∈ ls, Ln o) (hn : ls ≠ []) : endI (lns ls ++ [13, 10]) = (((lns ls).length + 2 : Nat) : Int) := by
  have h3 := lns_len ls h hn
  rw [endI_at (byt_hd ls h) (lns_pair0 ls h hn) (i := (lns ls).length - 2) (by rw [lns_pairs ls h hn]; exact decide_eq_true (by omega)) (fun j hj => by rw [lns_pairs ls h hn]; exact decide_eq_false (by omega))]
  omega
/-- No beginning of it has an end. -/
theorem hd_cut (ls : List (List Int)) (h : ∀ o ∈ ls, Ln o) (hn : ls ≠ []) (t : Nat) (ht : t < (lns ls).length + 2) : endI ((lns ls ++ [13, 10]).take t) = -1 := by
  have h3 := lns_len ls h hn
  refine endI_none ((byt_hd ls h).take t) ?_ ?_
  · rw [Bool.eq_false_iff]
    intro g
    have := pair_take _ _ _ g
    rw [lns_pair0 ls h hn] at this
    cases this
  · intro j
    rw [Bool.eq_false_iff]
    intro g
    simp only [Bool.and_eq_true] at g
    have hlt := (pair_lt g.2).1
    rw [List.length_take] at hlt
    have g1 := pair_take _ _ _ g.1
    have g2 := pair_take _ _ _ g.2
    have := lns_pairs ls h hn j
    rw [g1, g2] at this
    have := of_decide_eq_true this.symm
    omega
/-- One line of them is cut. -/
theorem cut_line (o r : List Int) (ho : Ln o) (hr : Byt r) : cutF (o ++ 13 :: 10 :: r) = (o, r) := by
  have hb : Byt (o ++ 13 :: 10 :: r) := Byt.append ho.2.2 (fun x hx => by
    rcases List.mem_cons.1 hx with rfl | hx
    · omega
    · rcases List.mem_cons.1 hx with rfl | hx
      · omega
      · exact hr x hx)
  have hp : pairB (o ++ 13 :: 10 :: r) o.length = true := by
    have := pair_right o (13 :: 10 :: r) 0
    rw [Nat.add_zero] at this
    rw [this]
    simp [pairB, rd, List.getD]
  unfold cutF
  rcases idx2_spec _ hb with ⟨h1, h2⟩ | ⟨i, h1, h2, h3⟩
  · rw [h2] at hp; cases hp
  · have : i = o.length := by
      rcases Nat.lt_trichotomy i o.length with g | g | g
      · rw [pair_left ho.2.1 _ g] at h2; cases h2
      · exact g
      · rw [h3 _ g] at hp; cases hp
    subst this
    rw [h1, if_pos (by omega), Int.toNat_natCast]
    simp
/-- The loop goes over a line of another name. -/
theorem loop_other (k f : Nat) (o r : List Int) (ho : Ln o) (hr : Byt r) (body : Int) (n v : List Int) (hl : lineD o = some (n, v)) (hq : eqCL n = false) : hloop k (f + 1) (o ++ 13 :: 10 :: r) body = hloop k f r body := by
  rw [hloop, if_pos (by simp; omega), cut_line o r ho hr]
  simp only [line_eq o ho.2.2, hl, hq, Bool.false_eq_true, if_false]
/-- And over one of that name. -/
theorem loop_cl (f : Nat) (o r : List Int) (ho : Ln o) (hr : Byt r) (body : Int) (n v : List Int) (hl : lineD o = some (n, v)) (hq : eqCL n = true) (hv : v.length * 1 ≤ 140737488351232) (x : Int) (hx : parsed v 65536 = (x, 0)) (out : Int × Int)
    (h : Ev (fun k => if 0 ≤ body then (if x = body then hloop k f r x else some (0, 60)) else hloop k f r x) out) : Ev (fun k => hloop k (f + 1) (o ++ 13 :: 10 :: r) body) out := by
  have e : ∀ k, hloop k (f + 1) (o ++ 13 :: 10 :: r) body = (digits_Parse.f k v 65536).bind fun t => if t.2 = 5 then some (0, 5) else if t.2 = 0 then (if 0 ≤ body then (if t.1 = body then hloop k f r t.1 else some (0, 60)) else hloop k f r t.1) else some (0, 60) := fun k => by
    rw [hloop, if_pos (by simp; omega), cut_line o r ho hr]
    simp only [line_eq o ho.2.2, hl, hq, if_true]
  refine Ev.congr e ?_
  have p1 := parse_ev v hv 65536 (by decide)
  rw [hx] at p1
  refine Ev.bind p1 ?_
  simp only [if_true, if_neg (show ¬ (0 : Int) = 5 by decide)]
  exact h
/-- The line of a length. -/
def clOf (u : Nat) : List Int := [67, 111, 110, 116, 101, 110, 116, 45, 76, 101, 110, 103, 116, 104, 58, 32] ++ nd u
theorem dig_range {c : Int} (h : isDig c = true) : 48 ≤ c ∧ c ≤ 57 := by simp [isDig] at h; omega
theorem cl_ln (u : Nat) : Ln (clOf u) := by
  refine ⟨by simp [clOf], ?_, ?_⟩
  · intro x hx
    rcases List.mem_append.1 hx with h | h
    · clear hx; revert x; decide
    · have := dig_range (nd_digits u x h); omega
  · intro x hx
    rcases List.mem_append.1 hx with h | h
    · clear hx; revert x; decide
    · have := dig_range (nd_digits u x h); omega
theorem cl_line (u : Nat) : lineD (clOf u) = some ([67, 111, 110, 116, 101, 110, 116, 45, 76, 101, 110, 103, 116, 104], nd u) := by
  have hd := nd_digits u
  have hne := nd_ne u
  have hnl : nameLen (clOf u) = 14 := by
    unfold nameLen clOf
    simp [List.takeWhile_cons, nameI]
  have hdr : (clOf u).drop (14 + 1) = 32 :: nd u := rfl
  have htk : (clOf u).take 14 = [67, 111, 110, 116, 101, 110, 116, 45, 76, 101, 110, 103, 116, 104] := rfl
  have hlen : 16 ≤ (clOf u).length := by simp [clOf]
  have hrd : rd (clOf u) ((14 : Nat) : Int) = 58 := rfl
  have hnb : ∀ c ∈ nd u, isBl c = false := fun c hc => by have := dig_range (hd c hc); simp [isBl]; omega
  have hdw : (32 :: nd u).dropWhile isBl = nd u := by
    rw [List.dropWhile_cons, if_pos (by rfl)]
    generalize nd u = l at hnb hne
    match l, hne with
    | a :: t, _ => rw [List.dropWhile_cons, if_neg (by rw [hnb a (by simp)]; decide)]
  have hrt : rtrim (nd u) = nd u := by
    unfold rtrim
    have hnr : ∀ c ∈ (nd u).reverse, isBl c = false := fun c hc => hnb c (List.mem_reverse.mp hc)
    have hner : (nd u).reverse ≠ [] := by simpa using hne
    rw [show (nd u).reverse.dropWhile isBl = (nd u).reverse from ?_, List.reverse_reverse]
    generalize (nd u).reverse = l at hnr hner
    match l, hner with
    | a :: t, _ => rw [List.dropWhile_cons, if_neg (by rw [hnr a (by simp)]; decide)]
  have hall : (32 :: nd u).all valI = true := by
    rw [List.all_eq_true]
    intro x hx
    rcases List.mem_cons.1 hx with rfl | hx
    · rfl
    · have := dig_range (hd x hx); simp [valI]; omega
  unfold lineD
  rw [hnl, hdr, htk, if_neg (by rw [hrd]; omega), if_pos hall, hdw, hrt]
theorem cl_eq : eqCL [67, 111, 110, 116, 101, 110, 116, 45, 76, 101, 110, 103, 116, 104] = true := by decide +kernel
theorem nd_parsed (u : Nat) (h : u ≤ 65536) : parsed (nd u) 65536 = ((u : Int), 0) := by
  unfold parsed
  have hne := nd_ne u
  have hlen : (nd u).length ≠ 0 := fun e => hne (List.eq_nil_of_length_eq_zero e)
  rw [if_neg (by decide), if_neg (by rintro (e | e); exact hlen e; exact e (runLen_all (nd_digits u)))]
  unfold told
  rw [val_nd, if_pos (by omega)]
theorem nd_small_len (u : Nat) (h : u ≤ 65536) : (nd u).length ≤ 20 := nd_len20 u (by omega)
end Go.Proofs.YtekmdbicobkffaaDoor.Pure
