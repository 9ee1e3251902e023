/- EscapeTold: the plain law, of a million bytes. -/
import Derived.Test.YtjioglaobabmmaaDoorUEscapeTold
import Derived.Test.YtjioglaobabmmaaDoorQB
namespace Go.Proofs.YtjioglaobabmmaaDoor.Pure
open Go.RowKit Go.Proofs.YtjioglaobabmmaaDoor.P Go.Proofs.YtjioglaobabmmaaDoorW.PrintWords Go.Proofs.YtjioglaobabmmaaDoorW.PrintMore
set_option linter.unusedVariables false
set_option linter.unusedSimpArgs false
theorem EscapeTold : colophonlaw08_EscapeTold.PureU := by
  intro l0 a1 _ _ hb _ hs
  have hB : Bytes l0 := fun x hx => byte_range (hb x hx)
  refine Ev.rounds ?_
  unfold colophonlaw08_EscapeTold.f
  rw [wrap_nat (by omega) (by omega)]
  obtain ⟨x, hx, hx0, hx1⟩ := bring_at a1 ((l0.length : Int) + 1) (by omega) (by omega)
  obtain ⟨i, rfl⟩ := Int.eq_ofNat_of_zero_le hx0
  simp only [hx, Option.bind_some]
  have h1 := (unquote_both l0 hB (by omega) i).1
  have herr := unquoteR_err l0 i
  obtain ⟨s, n, e, hu⟩ : ∃ s n e, unquoteR l0 i = (s, n, e) := ⟨_, _, _, rfl⟩
  rw [hu] at h1 herr
  refine Ev.bind h1 ?_
  by_cases e0 : e = 0
  · subst e0
    simp only [if_true]
    have hi : i < l0.length ∧ rd l0 (i : Int) = 34 ∧ unqR l0.length l0 (i + 1) [] = (s, n, 0) := by
      unfold unquoteR at hu
      rw [if_neg (by omega), if_neg (by omega)] at hu
      by_cases c1 : (i : Int) = (l0.length : Int)
      · rw [if_pos c1] at hu; simp at hu
      · rw [if_neg c1] at hu
        by_cases c2 : rd l0 (i : Int) = 34
        · rw [if_pos c2, Int.toNat_natCast] at hu
          exact ⟨by omega, c2, hu⟩
        · rw [if_neg c2] at hu; simp at hu
    obtain ⟨hi1, hi2, hi3⟩ := hi
    obtain ⟨cs, x, y, c1, c2, c3, c4, c5, c6⟩ := unq_told l0.length l0 (i + 1) [] s n hB hi3
    rw [List.nil_append] at c2
    subst c2
    have hlen := congrArg List.length c3
    rw [List.length_drop, List.length_append, List.length_cons] at hlen
    have hcb := chs_bytes cs c1
    have hql := qts_len cs c1
    simp only [xbytes_str _ hcb (by omega), Option.bind_some]
    obtain ⟨_, ⟨a, e, k1, k2⟩⟩ := check_ev (chs cs) hcb (by omega)
    have he : e = 0 := k2.mpr (utf_of_chs cs c1)
    subst he
    refine Ev.bind k1 (Ev.bind (quote_prog cs c1 (by omega)) ?_)
    have hmx : mx n 0 = n := by unfold mx; split <;> omega
    have hmn : mn n (l0.length : Int) = n := by unfold mn; split <;> omega
    simp only [hmx, hmn]
    have hn : n.toNat = i + 1 + x.length + 1 := by omega
    simp only [hn, if_pos (show (0 : Int) ≤ n by omega), if_pos (show n ≤ (l0.length : Int) by omega)]
    have hd : l0.drop i = 34 :: (x ++ 34 :: y) := by rw [drop_rd hi1, hi2, c3]
    have hd2 : (l0.take (i + 1 + x.length + 1)).drop i = 34 :: (x ++ [34]) := by
      rw [List.drop_take, hd, show i + 1 + x.length + 1 - i = (x.length + 1) + 1 by omega, List.take_succ_cons, take_q]
    have hu2 : unquoteR (l0.take (i + 1 + x.length + 1)) i = (chs cs, n, 0) := by
      obtain ⟨g1, g2⟩ := rd_drop _ i 34 _ hd2
      have hlt : (l0.take (i + 1 + x.length + 1)).length = i + 1 + x.length + 1 := by rw [List.length_take]; omega
      unfold unquoteR
      rw [if_neg (by omega), if_neg (by omega), if_neg (by omega), if_pos g2, Int.toNat_natCast, c6 _ (i + 1) [] [] _ (by rw [← List.drop_drop, hd2]; rfl) (by omega), List.nil_append, c5]
    have h2 := (unquote_both (l0.take (i + 1 + x.length + 1)) (hB.take _) (by rw [List.length_take]; omega) i).1
    rw [hu2] at h2
    refine Ev.bind h2 ?_
    simp only [if_true]
    simp only [strOfNums_size, if_pos (show (((chs cs).length : Nat) : Int) ≤ wrap64 (wrap64 (n - i) - 2) by rw [wrap_nat (i := n - i) (by omega) (by omega), wrap_nat (by omega) (by omega)]; omega)]
    have ht := told_at cs c1 [] []
    refine Ev.bind (tells_at (34 :: (qts cs ++ [34])) (chs cs) (quote_bytes cs c1) (by rw [quote_len cs c1]; omega) (by
      rw [List.nil_append] at ht
      rw [quote_len cs c1]
      have e2 : (([] : List Int).length : Int) = 0 := rfl
      rw [e2] at ht
      rw [ht]
      simp)) ?_
    simp only [if_true]
    exact awake_ev
  · have := herr e0
    obtain ⟨rfl, rfl⟩ := this
    simp only [if_neg e0]
    simp only [show (strOfNums []).toList = ([] : List UInt8) from by decide +kernel, if_true]
    exact awake_ev
end Go.Proofs.YtjioglaobabmmaaDoor.Pure
