/- HeadLong: the plain law: a header of 512 bytes may be, one of more may not. -/
import Derived.Test.YtekmdbicobkffaaDoorQ10
namespace Go.Proofs.YtekmdbicobkffaaDoor.Pure
open Go.RowKit Go.Proofs.YtekmdbicobkffaaDoor.P Go.Proofs.YtekmdbicobkffaaDoorW.PrintWords Go.Proofs.YtekmdbicobkffaaDoorW.PrintMore
set_option linter.unusedVariables false
set_option linter.unusedSimpArgs false
def xOf (i : Nat) : List Int := 120 :: 58 :: List.replicate i 121
theorem xOf_len (i : Nat) : (xOf i).length = i + 2 := by simp [xOf]
theorem xOf_succ (i : Nat) : xOf i ++ [121] = xOf (i + 1) := by simp [xOf, List.replicate_succ']
theorem xOf_ln (i : Nat) : Ln (xOf i) := by
  refine ⟨by simp [xOf], ?_, ?_⟩
  · intro x hx
    simp only [xOf, List.mem_cons, List.mem_replicate] at hx
    omega
  · intro x hx
    simp only [xOf, List.mem_cons, List.mem_replicate] at hx
    omega
theorem xOf_line (i : Nat) : ∃ v, lineD (xOf i) = some ([120], v) := by
  have hnl : nameLen (xOf i) = 1 := by
    unfold nameLen xOf
    rw [List.takeWhile_cons, if_pos (by decide), List.takeWhile_cons, if_neg (by decide)]
    rfl
  have hall : (List.replicate i (121 : Int)).all valI = true := by
    rw [List.all_eq_true]
    intro x hx
    rw [(List.mem_replicate.mp hx).2]
    rfl
  refine ⟨rtrim ((List.replicate i 121).dropWhile isBl), ?_⟩
  unfold lineD
  rw [hnl, if_neg (by rw [xOf_len]; simp [xOf, rd, List.getD]), show (xOf i).drop (1 + 1) = List.replicate i 121 from rfl, if_pos hall]
  rfl
theorem long_text (i : Nat) : strOfNums (xOf i) ++ (⟨#[13, 10, 67, 111, 110, 116, 101, 110, 116, 45, 76, 101, 110, 103, 116, 104, 58, 32, 49, 13, 10, 13, 10]⟩ : ByteArray) = strOfNums (lns [xOf i, clOf 1] ++ [13, 10]) := by
  have e : (⟨#[13, 10, 67, 111, 110, 116, 101, 110, 116, 45, 76, 101, 110, 103, 116, 104, 58, 32, 49, 13, 10, 13, 10]⟩ : ByteArray) = strOfNums ([13, 10, 67, 111, 110, 116, 101, 110, 116, 45, 76, 101, 110, 103, 116, 104, 58, 32, 49, 13, 10, 13, 10] : List Int) := by decide
  rw [e, strOf_append]
  congr 1
  simp only [lns, clOf, nd_small (show 1 < 10 by decide)]
  simp
theorem long_ln (i : Nat) : ∀ o ∈ [xOf i, clOf 1], Ln o := fun o ho => by
  rcases List.mem_cons.mp ho with rfl | ho
  · exact xOf_ln i
  · rw [List.mem_singleton.mp ho]; exact cl_ln 1
theorem long_len (i : Nat) : (lns [xOf i, clOf 1]).length + 2 = i + 25 := by
  simp [lns, clOf, nd_small (show 1 < 10 by decide), xOf]
set_option maxHeartbeats 1000000 in
theorem long_last (i : Nat) (hi : i ≤ 1000 - 100) : Ev (fun k => if (((strOfNums (xOf i)).size : Int) + 23) ≤ 512 then ((colophonlaw06_says.f k ((strOfNums (xOf i)) ++ (⟨#[13, 10, 67, 111, 110, 116, 101, 110, 116, 45, 76, 101, 110, 103, 116, 104, 58, 32, 49, 13, 10, 13, 10]⟩ : ByteArray)) 1 (((strOfNums (xOf i)).size : Int) + 23)).bind fun t266 => (if t266 = true then ((colophonlaw06_awake.f k).bind fun t267 => (some t267)) else (some false))) else ((colophonlaw06_fails.f k ((strOfNums (xOf i)) ++ (⟨#[13, 10, 67, 111, 110, 116, 101, 110, 116, 45, 76, 101, 110, 103, 116, 104, 58, 32, 49, 13, 10, 13, 10]⟩ : ByteArray)) 5).bind fun t268 => (if t268 = true then ((colophonlaw06_awake.f k).bind fun t269 => (some t269)) else (some false)))) true := by
  rw [long_text, strOf_size, xOf_len]
  have hlen := long_len i
  have hby := byt_hd _ (long_ln i)
  have hll : (lns [xOf i, clOf 1] ++ [13, 10]).length = i + 25 := by rw [List.length_append]; simpa using hlen
  by_cases h : i + 25 ≤ 512
  · simp only [if_pos (show ((i + 2 : Nat) : Int) + 23 ≤ 512 by omega)]
    have hp : Ev (fun k => head_Parse.f k (lns [xOf i, clOf 1] ++ [13, 10])) (1, ((i + 2 : Nat) : Int) + 23, 0) := by
      have := parse_lns [xOf i, clOf 1] (long_ln i) (by simp) (by omega) ((1 : Nat), 0) (by
        rw [hlen, show lns [xOf i, clOf 1] = xOf i ++ 13 :: 10 :: (clOf 1 ++ 13 :: 10 :: []) from rfl]
        obtain ⟨v, hv⟩ := xOf_line i
        have hb1 : Byt (clOf 1 ++ 13 :: 10 :: []) := byt_lns [clOf 1] (ln_cl 1)
        refine Ev.congr (fun k => loop_other k (i + 24) (xOf i) _ (xOf_ln i) hb1 (-1) _ v hv (by decide +kernel)) ?_
        refine cl_loop 1 _ (by decide) [] (fun x hx => by simp at hx) (-1) _ ?_
        simp only [if_neg (show ¬ (0 : Int) ≤ -1 by decide), loop_end]
        exact Ev.now _)
      rw [hlen] at this
      exact this
    refine Ev.bind (says_ev _ hby (by omega) 1 _ hp) ?_
    simp only [if_true]
    exact awake_ev
  · simp only [if_neg (show ¬ ((i + 2 : Nat) : Int) + 23 ≤ 512 by omega)]
    refine Ev.bind (fails_ev _ hby (by omega) 5 (parse_long _ (long_ln i) (by simp) (by omega) (by omega))) ?_
    simp only [if_true]
    exact awake_ev
theorem long_loop (K : Nat) (hK : K ≤ 900) (d : Nat) : ∀ i, i + 2 + d = K → Ev (fun k => colophonlaw06_HeadLong.l0 k (K : Int) (xOf i)) true := by
  induction d with
  | zero =>
    intro i hi
    refine Ev.step (fun k => ?_) (long_last i (by omega))
    rw [colophonlaw06_HeadLong.l0, xOf_len, if_neg (by omega), strOf_size, xOf_len, if_pos (by omega)]
  | succ d ih =>
    intro i hi
    refine Ev.step (fun k => ?_) (ih (i + 1) (by omega))
    rw [colophonlaw06_HeadLong.l0, xOf_len, if_pos (by omega), if_pos (by omega), xOf_succ]
theorem HeadLong : colophonlaw06_HeadLong.Pure := by
  intro a0 _
  refine Ev.rounds ?_
  unfold colophonlaw06_HeadLong.f
  obtain ⟨v, h1, h2, h3⟩ := bring_some a0 301 (by omega) (by omega)
  obtain ⟨u, rfl⟩ := Int.eq_ofNat_of_zero_le h2
  simp only [h1, Option.bind_some]
  rw [wrap_nat (i := 400 + (u : Int)) (by omega) (by omega)]
  simp only [List.length_nil, List.length_cons, if_pos (show (0 + (0 + 1 + 1) : Nat) < 140737488355328 by decide), List.nil_append]
  exact long_loop (400 + u) (by omega) (400 + u - 2) 0 (by omega)
end Go.Proofs.YtekmdbicobkffaaDoor.Pure
