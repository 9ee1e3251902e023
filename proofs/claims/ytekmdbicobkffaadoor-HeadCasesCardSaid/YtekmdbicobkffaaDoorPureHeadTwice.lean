/- HeadTwice: the plain law: two lengths that tell different numbers are none. -/
import Derived.Test.YtekmdbicobkffaaDoorQ10
import Derived.Test.YtekmdbicobkffaaDoorP9
namespace Go.Proofs.YtekmdbicobkffaaDoor.Pure
open Go.RowKit Go.Proofs.YtekmdbicobkffaaDoor.P Go.Proofs.YtekmdbicobkffaaDoorW.PrintWords Go.Proofs.YtekmdbicobkffaaDoorW.PrintMore
set_option linter.unusedVariables false
set_option linter.unusedSimpArgs false
theorem two_ln (x y : Nat) : ∀ o ∈ [clOf x, clOf y], Ln o := fun o ho => by
  rcases List.mem_cons.mp ho with rfl | ho
  · exact cl_ln x
  · rw [List.mem_singleton.mp ho]; exact cl_ln y
theorem awake1_ev : Ev (fun k => colophonlaw06_awake.f k) true := Ev.of (fun k => colophonlaw06_awake.mono k) awake_true
theorem two_len (x y : Nat) (hx : x ≤ 65536) (hy : y ≤ 65536) : (lns [clOf x, clOf y]).length ≤ 100 := by
  have h1 := nd_small_len x hx
  have h2 := nd_small_len y hy
  simp [lns, clOf]
  omega
theorem HeadTwice : colophonlaw06_HeadTwice.Pure := by
  intro a0 a1 _ _
  refine Ev.rounds ?_
  unfold colophonlaw06_HeadTwice.f
  refine Ev.bind awake1_ev ?_
  simp only [if_true]
  obtain ⟨v, h1, h2, h3⟩ := bring_some a0 65537 (by omega) (by omega)
  obtain ⟨z, g1, g2, g3⟩ := bring_some a1 65537 (by omega) (by omega)
  obtain ⟨x, rfl⟩ := Int.eq_ofNat_of_zero_le h2
  obtain ⟨y, rfl⟩ := Int.eq_ofNat_of_zero_le g2
  have hx : x ≤ 65536 := by omega
  have hy : y ≤ 65536 := by omega
  have hlx := hd_len x hx
  simp only [h1, g1, Option.bind_some, make_is (x : Int) h2 (by omega), make_is (y : Int) g2 (by omega), Int.toNat_natCast]
  rw [wrap_nat (i := ((hdOf x).length : Int) - 2) (by omega) (by omega)]
  have ht : (hdOf x).take (((hdOf x).length : Int) - 2).toNat = lns [clOf x] := by
    rw [show (((hdOf x).length : Int) - 2).toNat = (lns [clOf x]).length by have := hd_lns x hx; omega]
    exact List.take_left' rfl
  simp only [if_neg (show ¬ ((hdOf x).length : Int) < 2 by omega), if_pos (show (0 : Int) ≤ ((hdOf x).length : Int) - 2 by omega), if_pos (show ((hdOf x).length : Int) - 2 ≤ ((hdOf x).length : Int) by omega), ht, strOf_append]
  have hs : lns [clOf x] ++ hdOf y = lns [clOf x, clOf y] ++ [13, 10] := by simp [hdOf, lns]
  rw [hs]
  have hll := two_len x y hx hy
  have hsz : (strOfNums (lns [clOf x])).size + (strOfNums (hdOf y)).size = (lns [clOf x, clOf y]).length + 2 := by
    rw [strOf_size, strOf_size, ← List.length_append, hs, List.length_append]
    rfl
  have hsi : ((strOfNums (lns [clOf x])).size : Int) + ((strOfNums (hdOf y)).size : Int) = (((lns [clOf x, clOf y]).length + 2 : Nat) : Int) := by rw [← hsz]; rfl
  simp only [hsz, hsi, if_pos (show (lns [clOf x, clOf y]).length + 2 ≤ 9223372036854775807 by omega)]
  have hby := byt_hd _ (two_ln x y)
  have hl2 : (lns [clOf x, clOf y] ++ [13, 10]).length ≤ 140737488351232 := by simp only [List.length_append, List.length_cons, List.length_nil]; omega
  have hb1 : Byt (clOf y ++ 13 :: 10 :: []) := byt_lns [clOf y] (ln_cl y)
  have hb0 : Byt [] := fun x hx => by simp at hx
  have run : ∀ out, Ev (fun k => if 0 ≤ (x : Int) then (if (y : Int) = (x : Int) then hloop k ((lns [clOf x, clOf y]).length) [] (y : Int) else some (0, 60)) else hloop k ((lns [clOf x, clOf y]).length) [] (y : Int)) out → Ev (fun k => head_Parse.f k (lns [clOf x, clOf y] ++ [13, 10])) (outOf (((lns [clOf x, clOf y]).length + 2 : Nat) : Int) out) := by
    intro out ho
    refine parse_lns _ (two_ln x y) (by simp) (by omega) out ?_
    rw [show lns [clOf x, clOf y] = clOf x ++ 13 :: 10 :: (clOf y ++ 13 :: 10 :: []) from rfl] at ho ⊢
    refine cl_loop x _ hx _ hb1 (-1) out ?_
    simp only [if_neg (show ¬ (0 : Int) ≤ -1 by decide)]
    exact cl_loop y _ hy [] hb0 (x : Int) out ho
  by_cases e : (x : Int) = (y : Int)
  · obtain rfl : x = y := by omega
    simp only [if_true]
    have hp := run ((x : Int), 0) (by
      simp only [if_pos h2, if_true]
      obtain ⟨f, hf⟩ : ∃ f, (lns [clOf x, clOf x]).length = f + 1 := ⟨_, (Nat.succ_pred_eq_of_pos (by simp [lns]; omega)).symm⟩
      simp only [hf, loop_end]
      exact Ev.now _)
    unfold outOf at hp
    rw [if_pos rfl, if_neg (by simp only; omega)] at hp
    refine Ev.bind (says_ev _ hby hl2 _ _ hp) ?_
    simp only [if_true]
    exact awake_ev
  · simp only [if_neg e]
    have hp := run (0, 60) (by
      simp only [if_pos h2, if_neg (show ¬ (y : Int) = (x : Int) from fun h => e h.symm)]
      exact Ev.now _)
    refine Ev.bind (fails_ev _ hby hl2 60 hp) ?_
    simp only [if_true]
    exact awake_ev
end Go.Proofs.YtekmdbicobkffaaDoor.Pure
