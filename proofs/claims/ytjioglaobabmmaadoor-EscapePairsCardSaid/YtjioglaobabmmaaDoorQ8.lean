/- Both readers of a string. -/
import Derived.Test.YtjioglaobabmmaaDoorP1
import Derived.Test.YtjioglaobabmmaaDoorP3
import Derived.Test.YtjioglaobabmmaaDoorP4
import Derived.Test.YtjioglaobabmmaaDoorP6
import Derived.Test.YtjioglaobabmmaaDoorP7
import Derived.Test.YtjioglaobabmmaaDoorP8
import Derived.Test.YtjioglaobabmmaaDoorSUnquote
import Derived.Test.YtjioglaobabmmaaDoorQ7
namespace Go.Proofs.YtjioglaobabmmaaDoor.Pure
open Go.RowKit Go.Proofs.YtjioglaobabmmaaDoor.P Go.Proofs.YtjioglaobabmmaaDoorW.PrintWords
set_option linter.unusedVariables false
set_option linter.unusedSimpArgs false
theorem toU8_append (a b : List Int) : toU8 (a ++ b) = toU8 a ++ toU8 b := by simp [toU8]
theorem toU8_length (a : List Int) : (toU8 a).length = a.length := by simp [toU8]
theorem strOf_toU8 (a : List Int) : (⟨(toU8 a).toArray⟩ : ByteArray) = strOfNums a := rfl
theorem encodeRune_char (c : Int) (h : isChar c) : Lib.encodeRune c = toU8 (bytesOfChar c) := by
  have hz : Lib.encodeRuneZ c = bytesOfChar c := by
    rw [isChar_iff] at h
    unfold bytesOfChar
    split
    · rw [Lib.encodeRuneZ_one (by omega) (by omega)]
    · split
      · rw [Lib.encodeRuneZ_two (by omega) (by omega)]
      · split
        · rw [Lib.encodeRuneZ_three (by omega)]
        · rw [Lib.encodeRuneZ_four (by omega) (by omega)]
  unfold Lib.encodeRune toU8
  rw [hz]
theorem letR_vals {c v : Int} (h : letR c = some v) : v = 34 ∨ v = 92 ∨ v = 47 ∨ v = 8 ∨ v = 12 ∨ v = 10 ∨ v = 13 ∨ v = 9 := by
  unfold letR at h
  repeat' split at h
  all_goals (cases h <;> omega)
/-- An escape that tells a character: it is one; it has so many bytes; they all stand there. -/
theorem escR_spec (b : List Int) (c n : Int) (h : escR b = (c, n, 0)) : isChar c ∧ 2 ≤ n ∧ n ≤ b.length ∧ (bytesOfChar c).length + 1 ≤ n := by
  unfold escR at h
  split at h
  · exact absurd (congrArg (fun t : Int × Int × Int => t.2.2) h) (by show ¬ ((3 : Int) = 0); decide)
  · rename_i h2
    split at h
    · rename_i v hv
      simp only [Prod.mk.injEq, and_true] at h
      obtain ⟨rfl, rfl⟩ := h
      refine ⟨?_, by decide, by omega, ?_⟩
      · rw [isChar_iff]
        have := letR_vals hv
        omega
      · have := letR_vals hv
        unfold bytesOfChar
        rw [if_pos (by omega)]
        show ((1 : Nat) : Int) + 1 ≤ 2
        decide
    · have hr := unitR_range b
      have hl := unitR_len b
      generalize unitR b = u at h hr hl
      obtain ⟨m, e⟩ := u
      simp only at h hr hl
      split at h
      · rename_i he
        simp only [Prod.mk.injEq] at h
        exact absurd h.2.2 he
      · rename_i he
        have he0 : e = 0 := by simpa using he
        have h6 := hl he0
        split at h
        · rename_i q
          simp only [Prod.mk.injEq, and_true] at h
          obtain ⟨rfl, rfl⟩ := h
          refine ⟨?_, by decide, by omega, ?_⟩
          · rw [isChar_iff]; omega
          · unfold bytesOfChar
            repeat' split
            all_goals (simp only [List.length_cons, List.length_nil]; omega)
        · rename_i q
          have hr2 := unitR_range (b.drop 6)
          have hl2 := unitR_len (b.drop 6)
          generalize unitR (b.drop 6) = v at h hr2 hl2
          obtain ⟨m2, e2⟩ := v
          simp only at h hr2 hl2
          split at h
          · rename_i p
            simp only [Prod.mk.injEq, and_true] at h
            obtain ⟨rfl, rfl⟩ := h
            have := hl2 p.1
            rw [List.length_drop] at this
            refine ⟨?_, by decide, by omega, ?_⟩
            · rw [isChar_iff]; omega
            · unfold bytesOfChar
              repeat' split
              all_goals (simp only [List.length_cons, List.length_nil]; omega)
          · simp only [Prod.mk.injEq, and_true] at h
            obtain ⟨rfl, rfl⟩ := h
            exact ⟨by decide, by decide, by omega, by decide⟩
/-- What the string tells from a place on, ahead of which so much was told. -/
def unqR : Nat → List Int → Nat → List Int → List Int × Int × Int
  | 0, _, _, _ => ([], 0, 3)
  | f + 1, l, i, acc =>
    if i < l.length then
      if rd l i = 34 then (acc, i + 1, 0)
      else if rd l i < 32 then ([], 0, 80)
      else if rd l i = 92 then
        (if (escR (l.drop i)).2.2 = 0 then unqR f l (i + (escR (l.drop i)).2.1.toNat) (acc ++ bytesOfChar (escR (l.drop i)).1) else ([], 0, (escR (l.drop i)).2.2))
      else match dec (l.drop i) with
        | some (c, n) => unqR f l (i + n) (acc ++ bytesOfChar c)
        | none => ([], 0, 10)
    else ([], 0, 3)
set_option maxHeartbeats 1000000 in
theorem unq_both (l : List Int) (hb : Bytes l) (hl : l.length ≤ 140737488351232) (f : Nat) : ∀ (i : Nat) (acc : List Int), l.length ≤ i + f → i ≤ l.length → acc.length ≤ i →
    Ev (fun k => uq k l i (toU8 acc)) (strOfNums (unqR f l i acc).1, (unqR f l i acc).2.1, (unqR f l i acc).2.2) ∧
    Ev (fun k => colophonref08_Unquote.l0 k l i acc) (strOfNums (unqR f l i acc).1, (unqR f l i acc).2.1, (unqR f l i acc).2.2) := by
  have nil : strOfNums [] = (⟨#[]⟩ : ByteArray) := rfl
  induction f with
  | zero =>
    intro i acc hf hi ha
    simp only [unqR, nil]
    refine ⟨Ev.step (f := fun _ => some (⟨#[]⟩, 0, 3)) (fun k => ?_) (Ev.now _), Ev.step (f := fun _ => some (⟨#[]⟩, 0, 3)) (fun k => ?_) (Ev.now _)⟩
    · rw [uq, if_neg (by omega)]
    · simp only [colophonref08_Unquote.l0]; rw [if_pos (by omega)]
  | succ f ih =>
    intro i acc hf hi ha
    rw [unqR]
    by_cases h1 : i < l.length
    · have hw1 : wrap64 ((i : Int) + 1) = (i : Int) + 1 := wrap_nat (by omega) (by omega)
      have P1 : ∀ k, uq (k + 1) l i (toU8 acc) = (if rd l i = 34 then some (⟨(toU8 acc).toArray⟩, wrap64 ((i : Int) + 1), 0)
        else if rd l i < 32 then some (⟨#[]⟩, 0, 80)
        else if rd l i = 92 then
          (escape_escaped.f k (l.drop i)).bind fun t =>
            if t.2.2 = 0 then (if (toU8 acc).length + 4 ≤ 140737488355328 ∧ -2147483648 ≤ t.1 ∧ t.1 ≤ 2147483647 then uq k l (wrap64 ((i : Int) + t.2.1)) (toU8 acc ++ Lib.encodeRune t.1) else none)
            else some (⟨#[]⟩, 0, t.2.2)
        else
          (runes_Decode.f k l i).bind fun t =>
            if t.2.2 = 0 then (if (i : Int) < wrap64 ((i : Int) + t.2.1) ∧ wrap64 ((i : Int) + t.2.1) ≤ (l.length : Int) ∧ (toU8 acc).length + ((l.take (wrap64 ((i : Int) + t.2.1)).toNat).drop i).length ≤ 140737488355328 ∧ (∀ x ∈ (l.take (wrap64 ((i : Int) + t.2.1)).toNat).drop i, 0 ≤ x ∧ x < 256) then uq k l (wrap64 ((i : Int) + t.2.1)) (toU8 acc ++ toU8 ((l.take (wrap64 ((i : Int) + t.2.1)).toNat).drop i)) else none)
            else some (⟨#[]⟩, 0, 10)) := by
        intro k
        rw [uq, if_pos (by omega), if_pos (by omega)]
        simp only [Int.toNat_natCast]
      have P2 : ∀ k, colophonref08_Unquote.l0 (k + 1) l i acc = (if (rd l i) = 34 then (some (strOfNums acc, wrap64 ((i : Int) + 1), 0)) else (if (rd l i) < 32 then (some ((⟨#[]⟩ : ByteArray), 0, 80)) else (if (rd l i) = 92 then ((colophonref08_escape.f k l i).bind fun bt295 => (if bt295.2.2 = 0 then ((colophonref01_Encode.f bt295.1).bind fun bt298 => (if acc.length + bt298.1.length < 140737488355328 then (colophonref08_Unquote.l0 k l (wrap64 ((i : Int) + bt295.2.1)) (acc ++ bt298.1)) else (none))) else (some ((⟨#[]⟩ : ByteArray), 0, bt295.2.2)))) else ((colophonref01_Decode.f k l i).bind fun bt305 => (if bt305.2.2 = 0 then (if (i : Int) ≤ (wrap64 ((i : Int) + bt305.2.1)) then (if (wrap64 ((i : Int) + bt305.2.1)) ≤ (l.length : Int) then (if acc.length + ((l.take ((wrap64 ((i : Int) + bt305.2.1)) : Int).toNat).drop i).length < 140737488355328 then (colophonref08_Unquote.l0 k l (wrap64 ((i : Int) + bt305.2.1)) (acc ++ ((l.take ((wrap64 ((i : Int) + bt305.2.1)) : Int).toNat).drop i))) else (none)) else (none)) else (none)) else (some ((⟨#[]⟩ : ByteArray), 0, 10))))))) := by
        intro k
        simp only [colophonref08_Unquote.l0]
        rw [if_neg (by omega), if_pos (by omega), if_pos (by omega)]
        simp only [Int.toNat_natCast]
      simp only [if_pos h1]
      by_cases q1 : rd l i = 34
      · simp only [if_pos q1]
        refine ⟨Ev.step (f := fun _ => some (strOfNums acc, (i : Int) + 1, 0)) (fun k => ?_) (Ev.now _), Ev.step (f := fun _ => some (strOfNums acc, (i : Int) + 1, 0)) (fun k => ?_) (Ev.now _)⟩
        · rw [P1, if_pos q1, hw1, strOf_toU8]
        · rw [P2, if_pos q1, hw1]
      · simp only [if_neg q1]
        by_cases q2 : rd l i < 32
        · simp only [if_pos q2, nil]
          refine ⟨Ev.step (f := fun _ => some (⟨#[]⟩, 0, 80)) (fun k => ?_) (Ev.now _), Ev.step (f := fun _ => some (⟨#[]⟩, 0, 80)) (fun k => ?_) (Ev.now _)⟩
          · rw [P1, if_neg q1, if_pos q2]
          · rw [P2, if_neg q1, if_pos q2]
        · simp only [if_neg q2]
          by_cases q3 : rd l i = 92
          · simp only [if_pos q3]
            have he := escaped_ev (l.drop i) (hb.drop i) (by rw [List.length_drop]; omega)
            obtain ⟨r, hr, hr1, hr2⟩ := ref_esc l hb (by omega) i h1 q3
            have hs := escR_spec (l.drop i)
            generalize escR (l.drop i) = u at he hr1 hr2 hs ⊢
            obtain ⟨c, n, e⟩ := u
            simp only at hr1 hr2 ⊢
            by_cases e0 : e = 0
            · subst e0
              obtain ⟨hc, hn2, hnl, hbl⟩ := hs c n rfl
              rw [List.length_drop] at hnl
              obtain ⟨m, rfl⟩ := Int.eq_ofNat_of_zero_le (show 0 ≤ n by omega)
              rw [hr2 hr1] at hr
              clear hr2 hr1 hs
              simp only [if_true, Int.toNat_natCast]
              have hwn : wrap64 ((i : Int) + (m : Int)) = ((i + m : Nat) : Int) := by rw [wrap_nat (by omega) (by omega)]; rfl
              obtain ⟨ih1, ih2⟩ := ih (i + m) (acc ++ bytesOfChar c) (by omega) (by omega) (by rw [List.length_append]; omega)
              have hcc := (isChar_iff c).mp hc
              refine ⟨Ev.step (fun k => by rw [P1, if_neg q1, if_neg q2, if_pos q3]) (Ev.bind he ?_), Ev.step (fun k => by rw [P2, if_neg q1, if_neg q2, if_pos q3]) (Ev.bind hr ?_)⟩
              · simp only [if_true]
                simp only [if_pos (show (toU8 acc).length + 4 ≤ 140737488355328 ∧ -2147483648 ≤ c ∧ c ≤ 2147483647 by rw [toU8_length]; omega), hwn]
                rw [encodeRune_char c hc, ← toU8_append]
                exact ih1
              · simp only [if_true, enc_is, Option.bind_some, hwn, encOf, if_pos hc]
                simp only [if_pos (show acc.length + (bytesOfChar c).length < 140737488355328 by omega)]
                exact ih2
            · obtain ⟨x, y, z⟩ := r
              simp only at hr1
              subst hr1
              simp only [if_neg e0, nil]
              refine ⟨Ev.step (fun k => by rw [P1, if_neg q1, if_neg q2, if_pos q3]) (Ev.bind he ?_), Ev.step (fun k => by rw [P2, if_neg q1, if_neg q2, if_pos q3]) (Ev.bind hr ?_)⟩
              · simp only [if_neg e0]; exact Ev.now _
              · simp only [if_neg e0]; exact Ev.now _
          · simp only [if_neg q3]
            rcases both_dec l hb i h1 with ⟨c, n, h, g1, g4, hn, hc, hx, ha1, hb1⟩ | ⟨h, ⟨e, he, ha1⟩, ⟨e', he', hb1⟩⟩
            · rw [h]
              simp only
              have hwn : wrap64 ((i : Int) + (n : Int)) = ((i + n : Nat) : Int) := by rw [wrap_nat (by omega) (by omega)]; rfl
              have hcut : (l.take (i + n)).drop i = bytesOfChar c := by
                rw [hx, List.drop_take]
                congr 1
                omega
              have hcl : (bytesOfChar c).length = n := by rw [hx, List.length_take, List.length_drop]; omega
              have hby : ∀ x ∈ bytesOfChar c, 0 ≤ x ∧ x < 256 := by
                intro x hx'
                rw [hx] at hx'
                have := (hb.drop i).take n x hx'
                omega
              obtain ⟨ih1, ih2⟩ := ih (i + n) (acc ++ bytesOfChar c) (by omega) (by omega) (by rw [List.length_append]; omega)
              refine ⟨Ev.step (fun k => by rw [P1, if_neg q1, if_neg q2, if_neg q3]) (Ev.bind ha1 ?_), Ev.step (fun k => by rw [P2, if_neg q1, if_neg q2, if_neg q3]) (Ev.bind hb1 ?_)⟩
              · simp only [if_true, hwn, Int.toNat_natCast, hcut]
                simp only [if_pos (show ((i : Int) < ((i + n : Nat) : Int) ∧ ((i + n : Nat) : Int) ≤ (l.length : Int) ∧ (toU8 acc).length + (bytesOfChar c).length ≤ 140737488355328 ∧ ∀ x ∈ bytesOfChar c, 0 ≤ x ∧ x < 256) from ⟨by omega, by omega, by rw [toU8_length]; omega, hby⟩)]
                rw [← toU8_append]
                exact ih1
              · simp only [if_true, hwn, Int.toNat_natCast, hcut]
                simp only [if_pos (show (i : Int) ≤ ((i + n : Nat) : Int) by omega), if_pos (show ((i + n : Nat) : Int) ≤ (l.length : Int) by omega), if_pos (show acc.length + (bytesOfChar c).length < 140737488355328 by omega)]
                exact ih2
            · rw [h]
              simp only [nil]
              refine ⟨Ev.step (fun k => by rw [P1, if_neg q1, if_neg q2, if_neg q3]) (Ev.bind ha1 ?_), Ev.step (fun k => by rw [P2, if_neg q1, if_neg q2, if_neg q3]) (Ev.bind hb1 ?_)⟩
              · simp only [if_neg he]; exact Ev.now _
              · simp only [if_neg he']; exact Ev.now _
    · simp only [if_neg h1, nil]
      refine ⟨Ev.step (f := fun _ => some (⟨#[]⟩, 0, 3)) (fun k => ?_) (Ev.now _), Ev.step (f := fun _ => some (⟨#[]⟩, 0, 3)) (fun k => ?_) (Ev.now _)⟩
      · rw [uq, if_neg (by omega)]
      · simp only [colophonref08_Unquote.l0]; rw [if_pos (by omega)]
/-- What the string at a place tells. -/
def unquoteR (l : List Int) (a : Int) : List Int × Int × Int :=
  if a < 0 then ([], 0, 9) else if a > (l.length : Int) then ([], 0, 9) else if a = (l.length : Int) then ([], 0, 3)
  else if rd l a = 34 then unqR l.length l (a.toNat + 1) [] else ([], 0, 80)
theorem unquote_both (l : List Int) (hb : Bytes l) (hl : l.length ≤ 140737488351232) (a : Int) :
    Ev (fun k => escape_Unquote.f k l a) (strOfNums (unquoteR l a).1, (unquoteR l a).2.1, (unquoteR l a).2.2) ∧ Ev (fun k => colophonref08_Unquote.f k l a) (strOfNums (unquoteR l a).1, (unquoteR l a).2.1, (unquoteR l a).2.2) := by
  have nil : strOfNums [] = (⟨#[]⟩ : ByteArray) := rfl
  unfold escape_Unquote.f colophonref08_Unquote.f unquoteR
  by_cases c1 : a < 0
  · simp only [if_pos c1, nil]
    refine ⟨Ev.now _, Ev.step (f := fun _ => some (⟨#[]⟩, 0, 9)) (fun k => ?_) (Ev.now _)⟩
    simp only [colophonref08_Unquote.j0, if_true]
  · simp only [if_neg c1]
    by_cases c2 : a > (l.length : Int)
    · simp only [if_pos c2, nil, decide_eq_true c2]
      refine ⟨Ev.now _, Ev.step (f := fun _ => some (⟨#[]⟩, 0, 9)) (fun k => ?_) (Ev.now _)⟩
      simp only [colophonref08_Unquote.j0, if_true]
    · simp only [if_neg c2, decide_eq_false c2]
      by_cases c3 : a = (l.length : Int)
      · simp only [if_pos c3, nil]
        refine ⟨Ev.now _, Ev.step (f := fun _ => some (⟨#[]⟩, 0, 3)) (fun k => ?_) (Ev.now _)⟩
        simp only [colophonref08_Unquote.j0, Bool.false_eq_true, if_false]
        rw [if_pos c3]
      · simp only [if_neg c3]
        obtain ⟨i, rfl⟩ := Int.eq_ofNat_of_zero_le (show 0 ≤ a by omega)
        have hw : wrap64 ((i : Int) + 1) = ((i + 1 : Nat) : Int) := by rw [wrap_nat (by omega) (by omega)]; rfl
        by_cases c4 : rd l (i : Int) = 34
        · simp only [if_pos c4, hw, Int.toNat_natCast]
          obtain ⟨h1, h2⟩ := unq_both l hb hl l.length (i + 1) [] (by omega) (by omega) (by simp)
          refine ⟨h1, Ev.step (fun k => ?_) h2⟩
          simp only [colophonref08_Unquote.j0, Bool.false_eq_true, if_false]
          rw [if_neg c3, if_pos (by omega), if_pos (by omega), if_pos c4, hw]
        · simp only [if_neg c4, nil]
          refine ⟨Ev.now _, Ev.step (f := fun _ => some (⟨#[]⟩, 0, 80)) (fun k => ?_) (Ev.now _)⟩
          simp only [colophonref08_Unquote.j0, Bool.false_eq_true, if_false]
          rw [if_neg c3, if_pos (by omega), if_pos (by omega), if_neg c4]
end Go.Proofs.YtjioglaobabmmaaDoor.Pure
