/- EscapeShort: the plain law. -/
import Derived.Test.YtjioglaobabmmaaDoorP11
import Derived.Test.YtjioglaobabmmaaDoorQ16
namespace Go.Proofs.YtjioglaobabmmaaDoor.Pure
open Go.RowKit Go.Proofs.YtjioglaobabmmaaDoor.P Go.Proofs.YtjioglaobabmmaaDoorW.PrintWords
set_option linter.unusedVariables false
set_option linter.unusedSimpArgs false
theorem short_is (cs : List Int) (h : ∀ c ∈ cs, isChar c) (n : Nat) (hn : n < (34 :: (qts cs ++ [34])).length) : unquoteR ((34 :: (qts cs ++ [34])).take n) 0 = ([], 0, if utf ((34 :: (qts cs ++ [34])).take n) = true then 3 else 10) := by
  cases n with
  | zero => rfl
  | succ m =>
    rw [List.take_succ_cons]
    have hm : m < (qts cs ++ [34]).length := by simp only [List.length_cons] at hn; omega
    have hr : (qts cs ++ [34]).drop m ≠ [] := by intro e; have := congrArg List.length e; simp at this hm; omega
    have hB : Bytes ((qts cs ++ [34]).take m) := by
      have := quote_bytes cs h
      exact (Bytes.take this.cons.2 m)
    have hu : utf (34 :: (qts cs ++ [34]).take m) = utf ((qts cs ++ [34]).take m) := ascii_utf [34] (by decide) _ hB
    rw [hu]
    unfold unquoteR
    rw [if_neg (by decide), if_neg (show ¬ (0 : Int) > (((34 : Int) :: List.take m (qts cs ++ [34])).length : Int) by omega), if_neg (show ¬ (0 : Int) = (((34 : Int) :: List.take m (qts cs ++ [34])).length : Int) by rw [List.length_cons]; omega), if_pos (by rfl)]
    have := unq_short cs h (List.length ((34 : Int) :: List.take m (qts cs ++ [34]))) (34 :: List.take m (qts cs ++ [34])) 1 [] (List.take m (qts cs ++ [34])) (List.drop m (qts cs ++ [34])) (List.take_append_drop m _).symm hr rfl (by rw [List.length_cons]; omega)
    exact this
theorem strOf_extract (l : List Int) (n : Nat) : (strOfNums l).extract 0 n = strOfNums (l.take n) := by
  apply ByteArray.ext
  unfold strOfNums
  simp [ByteArray.data_extract, List.extract_eq_take_drop, List.map_take]
theorem EscapeShort : colophonlaw08_EscapeShort.Pure := by
  intro l0 a1 _ hl _ _
  refine Ev.rounds ?_
  obtain ⟨cs, h1, h2, ht⟩ := text_ev l0 (by omega)
  have hcl := chs_len cs
  have hql := qts_len cs h1
  unfold colophonlaw08_EscapeShort.f
  refine Ev.bind ht (Ev.bind (quote_prog cs h1 (by omega)) ?_)
  have hqb := quote_bytes cs h1
  have hqL := quote_len cs h1
  have hshort := short_is cs h1
  generalize 34 :: (qts cs ++ [34]) = L at hqb hqL hshort ⊢
  simp only [if_true, strOfNums_size]
  rw [show ((L.length : Int) == 0) = false from beq_eq_false_iff_ne.mpr (by omega)]
  obtain ⟨x, hx, hx0, hx1⟩ := bring_at a1 (L.length : Int) (by omega) (by omega)
  obtain ⟨n, rfl⟩ := Int.eq_ofNat_of_zero_le hx0
  have hs := hshort n (by omega)
  have hB : Bytes (L.take n) := hqb.take n
  have hl2 : (L.take n).length ≤ 140737488351232 := by rw [List.length_take]; omega
  have hu := (unquote_both (L.take n) hB hl2 0).1
  rw [hs] at hu
  obtain ⟨_, ⟨a, e, k1, k2⟩⟩ := check_ev (L.take n) hB (by omega)
  refine Ev.step (fun k => by simp only [colophonlaw08_EscapeShort.j0, Bool.false_eq_true, if_false, strOfNums_size, hx, Option.bind_some, Int.toNat_natCast, strOf_extract, xbytes_str _ hB (show (L.take n).length ≤ 9223372036854775807 by omega)]; rw [if_pos (by omega), if_pos (by omega)]) (Ev.bind hu (Ev.bind k1 ?_))
  by_cases e0 : e = 0
  · have hut := k2.mp e0
    simp only [if_pos e0, if_pos hut]
    simp only [show (strOfNums []).toList = ([] : List UInt8) from by decide +kernel, if_true]
    exact awake_ev
  · have hut : ¬ utf (L.take n) = true := fun g => e0 (k2.mpr g)
    simp only [if_neg e0, if_neg hut]
    simp only [show (strOfNums []).toList = ([] : List UInt8) from by decide +kernel, if_true]
    exact awake_ev
end Go.Proofs.YtjioglaobabmmaaDoor.Pure
