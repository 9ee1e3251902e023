/- The program's line is the document's; names without their case. -/
import Derived.Test.YtekmdbicobkffaaDoorQ4
namespace Go.Proofs.YtekmdbicobkffaaDoor.Pure
open Go.RowKit Go.Proofs.YtekmdbicobkffaaDoor.P Go.Proofs.YtekmdbicobkffaaDoorW.PrintWords Go.Proofs.YtekmdbicobkffaaDoorW.PrintMore
set_option linter.unusedVariables false
set_option linter.unusedSimpArgs false
theorem occ1 (l : List Int) (hb : Byt l) (i : Nat) : Lib.occAt (Lib.bytesOf l) [58] i = (decide (i < l.length) && decide (rd l (i : Int) = 58)) := by
  unfold Lib.occAt
  rw [bytesOf_drop]
  have hd := hb.drop i
  have hlen := List.length_drop (i := i) (l := l)
  have h0 : rd l i = rd (l.drop i) ((0 : Nat) : Int) := by rw [rd_drop]; rfl
  rw [h0]
  generalize l.drop i = m at hd hlen ⊢
  match m, hd, hlen with
  | [], _, hlen =>
    simp at hlen
    rw [decide_eq_false (show ¬ i < l.length by omega)]
    simp [Lib.bytesOf, List.isPrefixOf]
  | a :: t, hd, hlen =>
    have ha := hd.cons.1
    simp only [Lib.bytesOf, List.map_cons, List.isPrefixOf]
    simp only [List.length_cons] at hlen
    rw [decide_eq_true (show i < l.length by omega)]
    have e1 := u8eq a 58 ha (by decide)
    rw [show (UInt8.ofNat 58) = 58 from rfl] at e1
    rw [e1]
    simp [rd, List.getD]
theorem idx1_spec (l : List Int) (hb : Byt l) : (Lib.index (Lib.bytesOf l) [58] = -1 ∧ ∀ j, j < l.length → rd l (j : Int) ≠ 58) ∨ (∃ i : Nat, Lib.index (Lib.bytesOf l) [58] = i ∧ i < l.length ∧ rd l (i : Int) = 58 ∧ ∀ j, j < i → rd l (j : Int) ≠ 58) := by
  rcases Lib.index_spec (Lib.bytesOf l) [58] with ⟨h1, h2⟩ | ⟨i, h1, h2, h3, h4⟩
  · left
    refine ⟨h1, fun j hj he => ?_⟩
    have := h2 j (by rw [Lib.bytesOf_length]; omega)
    rw [occ1 l hb j, decide_eq_true hj, decide_eq_true he] at this
    cases this
  · right
    rw [occ1 l hb i] at h3
    simp only [Bool.and_eq_true, decide_eq_true_eq] at h3
    refine ⟨i, h1, h3.1, h3.2, fun j hj he => ?_⟩
    have := h4 j hj
    rw [occ1 l hb j, decide_eq_true (show j < l.length by omega), decide_eq_true he] at this
    cases this
theorem name_take (l : List Int) : l.take (nameLen l) = l.takeWhile nameI := (List.prefix_iff_eq_take.mp (List.takeWhile_prefix nameI)).symm
theorem rtrim_cons (a : Int) (t : List Int) : rtrim (a :: t) = if rtrim t = [] then (if isBl a = true then [] else [a]) else a :: rtrim t := by
  unfold rtrim
  rw [List.reverse_cons, List.dropWhile_append]
  cases hq : t.reverse.dropWhile isBl with
  | nil =>
    simp only [List.isEmpty_nil, if_true, List.reverse_nil, List.dropWhile_cons, List.dropWhile_nil]
    split <;> simp
  | cons x y => simp
theorem trim_comm (v : List Int) : rtrim (v.dropWhile isBl) = (rtrim v).dropWhile isBl := by
  induction v with
  | nil => rfl
  | cons a t ih =>
    rw [rtrim_cons]
    cases hq : isBl a
    · simp only [List.dropWhile_cons, hq, Bool.false_eq_true, if_false]
      rw [rtrim_cons, hq]
      split
      · simp [hq]
      · simp [hq]
    · simp only [List.dropWhile_cons, hq, if_true]
      rw [ih]
      split
      · rename_i h; rw [h]
      · simp [hq]
theorem bytesOf_rev (v : List Int) : (Lib.bytesOf v).reverse = Lib.bytesOf v.reverse := by simp [Lib.bytesOf, List.map_reverse]
theorem bytesOf_dropWhile (v : List Int) (hb : Byt v) : (Lib.bytesOf v).dropWhile (fun x => List.contains [32, 9] x) = Lib.bytesOf (v.dropWhile isBl) := by
  induction v with
  | nil => rfl
  | cons a t ih =>
    have ha := hb.cons.1
    have := ih hb.cons.2
    unfold Lib.bytesOf at this ⊢
    rw [List.map_cons, List.dropWhile_cons, List.dropWhile_cons, set_bl a ha.1 ha.2]
    cases hq : isBl a
    · simp
    · simpa using this
theorem trim_eq (v : List Int) (hb : Byt v) : trimI v = rtrim (v.dropWhile isBl) := by
  have hk : trimK v = (rtrim v).length := by
    unfold trimK Lib.trimRightS rtrim
    rw [bytesOf_rev, show (fun x : UInt8 => List.contains [32, 9] x) = (fun x => List.contains [32, 9] x) from rfl]
    have := bytesOf_dropWhile v.reverse (fun x hx => hb x (by simpa using hx))
    rw [List.length_reverse, List.length_reverse]
    have e := congrArg List.length this
    rw [Lib.bytesOf_length] at e
    exact e
  have hp : v.take (rtrim v).length = rtrim v := by
    have hsplit : v = rtrim v ++ (v.reverse.takeWhile isBl).reverse := by
      unfold rtrim
      rw [← List.reverse_append, List.takeWhile_append_dropWhile, List.reverse_reverse]
    conv => lhs; rw [hsplit]
    rw [show (rtrim (rtrim v ++ (v.reverse.takeWhile isBl).reverse)).length = (rtrim v).length by rw [← hsplit]]
    rw [List.take_left']
    rfl
  unfold trimI
  rw [hk, hp, trim_comm]
theorem line_eq (l : List Int) (hb : Byt l) : lineF l = lineD l := by
  have hle := nameLen_le l
  unfold lineF lineD
  rcases idx1_spec l hb with ⟨h1, h2⟩ | ⟨i, h1, h2, h3, h4⟩
  · rw [h1, if_pos (by decide), if_pos]
    by_cases g : l.length ≤ nameLen l
    · exact .inr (.inl g)
    · exact .inr (.inr (h2 _ (by omega)))
  · rw [h1, if_neg (by omega), Int.toNat_natCast]
    have hmi : nameLen l ≤ i := by
      rcases Nat.lt_or_ge i (nameLen l) with g | g
      · have := tw_in nameI l i g
        rw [h3] at this
        exact absurd this (by decide)
      · exact g
    by_cases e : nameLen l = i
    · rw [e]
      by_cases h0 : i = 0
      · rw [if_pos h0, if_pos (.inl h0)]
      · have ha : (l.take i).all nameI = true := by rw [← e, name_take]; exact List.all_takeWhile
        have hn3 : ¬ (i = 0 ∨ l.length ≤ i ∨ rd l (i : Int) ≠ 58) := fun g => g.elim h0 (fun g => g.elim (fun g => absurd h2 (by omega)) (fun g => g h3))
        rw [if_neg h0, if_pos ha, if_neg hn3, trim_eq _ (hb.drop _)]
    · have hlt : nameLen l < i := by omega
      have hout : nameI (rd l (nameLen l : Int)) = false := tw_out nameI l (by unfold nameLen at hlt; omega)
      rw [if_pos (c := nameLen l = 0 ∨ l.length ≤ nameLen l ∨ rd l (nameLen l : Int) ≠ 58) (.inr (.inr (h4 _ hlt)))]
      by_cases h0 : i = 0
      · rw [if_pos h0]
      · rw [if_neg h0, if_neg]
        intro ha
        have hm : rd l (nameLen l : Int) ∈ l.take i := by
          rw [rd_getElem (show nameLen l < l.length by omega)]
          rw [List.mem_take_iff_getElem]
          exact ⟨nameLen l, by omega, rfl⟩
        have := List.all_eq_true.mp ha _ hm
        rw [hout] at this
        cases this
def goodP (p : UInt8 × UInt8) : Bool := (List.range 128).all fun x => Lib.foldEq (UInt8.ofNat x) p.1 == decide (UInt8.ofNat (lowI (x : Int)).toNat = p.2)
theorem fold_low (P : List (UInt8 × UInt8)) (hP : P.all goodP = true) : ∀ n : List Int, n.all nameI = true → Lib.equalFold (Lib.bytesOf n) (P.map (·.1)) = decide (Lib.bytesOf (n.map lowI) = P.map (·.2)) := by
  induction P with
  | nil =>
    intro n _
    cases n with
    | nil => rfl
    | cons a t => rfl
  | cons p P ih =>
    intro n hn
    rw [List.all_cons, Bool.and_eq_true] at hP
    cases n with
    | nil => rfl
    | cons a t =>
      rw [List.all_cons, Bool.and_eq_true] at hn
      have ha : 0 ≤ a ∧ a < 128 := by
        refine ⟨?_, ?_⟩
        · rcases Int.lt_or_le a 0 with g | g
          · exfalso
            have := hn.1
            unfold nameI at this
            rw [decide_eq_false (show ¬ 97 ≤ a by omega), decide_eq_false (show ¬ 65 ≤ a by omega), decide_eq_false (show ¬ 48 ≤ a by omega), beq_eq_false_iff_ne.mpr (show a ≠ 45 by omega)] at this
            cases this
          · exact g
        · rcases Int.lt_or_le a 128 with g | g
          · exact g
          · have := hn.1; rw [nameI_high g] at this; cases this
      obtain ⟨x, rfl⟩ := Int.eq_ofNat_of_zero_le ha.1
      have hg := List.all_eq_true.mp hP.1 x (List.mem_range.mpr (by omega))
      have hg' : Lib.foldEq (UInt8.ofNat x) p.1 = decide (UInt8.ofNat (lowI (x : Int)).toNat = p.2) := by simpa using hg
      have e := ih hP.2 t hn.2
      unfold Lib.bytesOf at e ⊢
      simp only [List.map_cons, Int.toNat_natCast, Lib.equalFold]
      rw [hg', e]
      simp only [List.cons.injEq]
      by_cases c1 : UInt8.ofNat (lowI (x : Int)).toNat = p.2
      · rw [decide_eq_true c1, Bool.true_and]; simp [c1]
      · rw [decide_eq_false c1, Bool.false_and]; simp [c1]
theorem eqCL_is (n : List Int) (hn : n.all nameI = true) : eqCL n = decide ((strOfNums (n.map lowI)).toList = ([99, 111, 110, 116, 101, 110, 116, 45, 108, 101, 110, 103, 116, 104] : List UInt8)) := by
  unfold eqCL
  rw [Lib.toList_data, strOfNums_data]
  exact fold_low [(67, 99), (111, 111), (110, 110), (116, 116), (101, 101), (110, 110), (116, 116), (45, 45), (76, 108), (101, 101), (110, 110), (103, 103), (116, 116), (104, 104)] (by decide +kernel) n hn
theorem lineD_name {l n v : List Int} (h : lineD l = some (n, v)) : n.all nameI = true := by
  unfold lineD at h
  split at h
  · cases h
  · split at h
    · simp only [Option.some.injEq, Prod.mk.injEq] at h
      rw [← h.1, name_take]
      exact List.all_takeWhile
    · cases h
end Go.Proofs.YtekmdbicobkffaaDoor.Pure
