/- HeadCases: the plain law: lines of other names, the case of letters, blanks, noughts and the order of lines change nothing. -/
import Derived.Test.YtekmdbicobkffaaDoorQC
import Derived.Test.YtekmdbicobkffaaDoorHC
import Derived.Test.YtekmdbicobkffaaDoorPureHeadTwice
namespace Go.Proofs.YtekmdbicobkffaaDoor.Pure
open Go.RowKit Go.Proofs.YtekmdbicobkffaaDoor.P Go.Proofs.YtekmdbicobkffaaDoorW.PrintWords Go.Proofs.YtekmdbicobkffaaDoorW.PrintMore
set_option linter.unusedVariables false
set_option linter.unusedSimpArgs false
theorem blank_of (x : Int) (h0 : 0 ≤ x) (h1 : x < 4) : ∃ b : List Int, rdOf ByteArray.empty [(⟨#[]⟩ : ByteArray), ⟨#[32]⟩, ⟨#[9]⟩, ⟨#[32, 9, 32]⟩] x = strOfNums b ∧ (∀ c ∈ b, isBl c = true) ∧ b.length ≤ 3 := by
  have : x = 0 ∨ x = 1 ∨ x = 2 ∨ x = 3 := by omega
  rcases this with rfl | rfl | rfl | rfl
  · exact ⟨[], rfl, by simp, by simp⟩
  · exact ⟨[32], rfl, by decide, by simp⟩
  · exact ⟨[9], rfl, by decide, by simp⟩
  · exact ⟨[32, 9, 32], rfl, by decide, by simp⟩
theorem four_loop (u : Int) (s0 s1 s2 s3 : ByteArray) (h : ∀ s, s = s0 ∨ s = s1 ∨ s = s2 ∨ s = s3 → Ev (fun k => colophonlaw06_says.f k s u ((s.size : Nat) : Int)) true) (d : Nat) : ∀ i : Nat, i + d = 4 → Ev (fun k => colophonlaw06_HeadCases.l0 k u [s0, s1, s2, s3] (i : Int)) true := by
  induction d with
  | zero =>
    intro i hi
    have : i = 4 := by omega
    subst this
    refine Ev.step (f := fun k => (colophonlaw06_awake.f k).bind fun t357 => (some t357)) (fun k => ?_) awake_ev
    rw [colophonlaw06_HeadCases.l0, if_neg (by simp)]
  | succ d ih =>
    intro i hi
    have hs := h (rdOf ByteArray.empty [s0, s1, s2, s3] (i : Int)) (by
      have : i = 0 ∨ i = 1 ∨ i = 2 ∨ i = 3 := by omega
      rcases this with rfl | rfl | rfl | rfl
      · exact .inl rfl
      · exact .inr (.inl rfl)
      · exact .inr (.inr (.inl rfl))
      · exact .inr (.inr (.inr rfl)))
    refine Ev.step (f := fun k => (colophonlaw06_says.f k (rdOf ByteArray.empty [s0, s1, s2, s3] (i : Int)) u ((rdOf ByteArray.empty [s0, s1, s2, s3] (i : Int)).size : Int)).bind fun t => if t = true then colophonlaw06_HeadCases.l0 k u [s0, s1, s2, s3] ((i + 1 : Nat) : Int) else some false) (fun k => ?_) ?_
    · rw [colophonlaw06_HeadCases.l0, if_pos (by simp; omega), if_pos (by omega), show wrap64 ((i : Int) + 1) = ((i + 1 : Nat) : Int) by rw [wrap_nat (by omega) (by omega)]; omega]
    · refine Ev.bind hs ?_
      simp only [if_true]
      exact ih (i + 1) (by omega)
set_option maxHeartbeats 2000000 in
theorem HeadCases : colophonlaw06_HeadCases.Pure := by
  intro a0 l1 a2 a3 a4 _ _ hl hb _ _ _
  have hB : Byt l1 := fun x hx => by have := byte_range (hb x hx); omega
  refine Ev.rounds ?_
  unfold colophonlaw06_HeadCases.f
  refine Ev.bind awake1_ev ?_
  simp only [if_true]
  obtain ⟨v, h1, h2, h3⟩ := bring_some a0 65537 (by omega) (by omega)
  simp only [h1, Option.bind_some]
  obtain ⟨u, rfl⟩ := Int.eq_ofNat_of_zero_le h2
  have hu : u ≤ 65536 := by omega
  have hlen := hd_len u hu
  have hnl := nd_small_len u hu
  simp only [make_is (u : Int) h2 (by omega), Option.bind_some, Int.toNat_natCast, if_true]
  have hnd : ((hdOf u).take (wrap64 (((hdOf u).length : Int) - 4)).toNat).drop 16 = nd u := by
    have e : (hdOf u).length = 16 + (nd u).length + 4 := by simp [hdOf, lns, clOf]; omega
    rw [wrap_nat (by omega) (by omega), show (((hdOf u).length : Int) - 4).toNat = 16 + (nd u).length by omega]
    have e2 : hdOf u = [67, 111, 110, 116, 101, 110, 116, 45, 76, 101, 110, 103, 116, 104, 58, 32] ++ (nd u ++ [13, 10, 13, 10]) := by simp [hdOf, lns, clOf]
    rw [e2, List.take_append, List.drop_append]
    simp
  have hw1 : (16 : Int) ≤ wrap64 (((hdOf u).length : Int) - 4) := by rw [wrap_nat (by omega) (by omega)]; omega
  have hw2 : wrap64 (((hdOf u).length : Int) - 4) ≤ ((hdOf u).length : Int) := by rw [wrap_nat (by omega) (by omega)]; omega
  obtain ⟨m, m1, m2, m3, m4⟩ := mixed_ev a2
  obtain ⟨x3, y1, y2, y3⟩ := bring_some a3 4 (by omega) (by omega)
  obtain ⟨x4, z1, z2, z3⟩ := bring_some a4 4 (by omega) (by omega)
  obtain ⟨b1, p1, p2, p3⟩ := blank_of x3 y2 y3
  obtain ⟨b2, q1, q2, q3⟩ := blank_of x4 z2 z3
  obtain ⟨t, t1, t2, t3⟩ := letters_ev l1 hB
  rw [show decide (((hdOf u).length : Int) < 20) = false from decide_eq_false (by omega)]
  refine Ev.step (f := fun k => _) (fun k => by rw [colophonlaw06_HeadCases.j0, if_neg (by simp)]) ?_
  simp only [if_pos hw1, if_pos hw2, hnd, Option.bind_some]
  refine Ev.bind m1 ?_
  have e58 : (⟨#[58]⟩ : ByteArray) = strOfNums [58] := rfl
  have e48 : (⟨#[48, 48]⟩ : ByteArray) = strOfNums [48, 48] := rfl
  have e13 : (⟨#[13, 10]⟩ : ByteArray) = strOfNums [13, 10] := rfl
  have e120 : (⟨#[120, 45]⟩ : ByteArray) = strOfNums [120, 45] := rfl
  have e32 : (⟨#[58, 32]⟩ : ByteArray) = strOfNums [58, 32] := rfl
  simp only [y1, z1, p1, q1, Option.bind_some, strOf_size, m4, List.length_cons, List.length_nil,
    if_pos y2, if_pos z2, if_pos (show x3 < (((0 + 1 + 1 + 1 + 1 : Nat)) : Int) by omega), if_pos (show x4 < (((0 + 1 + 1 + 1 + 1 : Nat)) : Int) by omega)]
  iterate 6
    refine Ev.congr (fun k => if_pos ?_) ?_
    · omega
  refine Ev.bind t1 ?_
  simp only [strOf_size]
  iterate 2
    refine Ev.congr (fun k => if_pos ?_) ?_
    · omega
  refine Ev.bind t1 ?_
  simp only [strOf_size]
  repeat
    refine Ev.congr (fun k => if_pos ?_) ?_
    · omega
  simp only [e58, e48, e13, e120, e32, strOf_append]
  have hL : ∀ r : List Int, clX m b1 u b2 ++ 13 :: 10 :: r = (((((m ++ [58]) ++ b1) ++ [48, 48]) ++ nd u) ++ b2) ++ ([13, 10] ++ r) := fun r => by simp [clX]
  have hM : ∀ r : List Int, mrX t ++ 13 :: 10 :: r = (([120, 45] ++ t) ++ [58, 32]) ++ (t ++ ([13, 10] ++ r)) := fun r => by simp [mrX]
  have len1 : (clX m b1 u b2).length = 17 + b1.length + (nd u).length + b2.length := by simp [clX, m4]; omega
  have len2 : (mrX t).length = 4 + t.length + t.length := by simp [mrX]; omega
  have hm0 : m ≠ [] := by rintro rfl; simp at m4
  have says := says_lns m b1 u hu b2 t hm0 m3 m2 p2 q2 t2
  refine four_loop (u : Int) _ _ _ _ (fun s hs => ?_) 4 0 rfl
  rcases hs with rfl | rfl | rfl | rfl
  · have := says [clX m b1 u b2] (.inl rfl) (by simp [lns, len1]; omega)
    rw [show lns [clX m b1 u b2] ++ [13, 10] = ((((((m ++ [58]) ++ b1) ++ [48, 48]) ++ nd u) ++ b2) ++ [13, 10]) ++ [13, 10] by simp [lns, clX]] at this
    exact this
  · have := says [mrX t, clX m b1 u b2] (.inr (.inl rfl)) (by simp [lns, len1, len2]; omega)
    rw [show lns [mrX t, clX m b1 u b2] ++ [13, 10] = ((((([120, 45] ++ t) ++ [58, 32]) ++ t) ++ [13, 10]) ++ (((((((m ++ [58]) ++ b1) ++ [48, 48]) ++ nd u) ++ b2) ++ [13, 10]))) ++ [13, 10] by simp [lns, clX, mrX]] at this
    exact this
  · have := says [clX m b1 u b2, mrX t] (.inr (.inr (.inl rfl))) (by simp [lns, len1, len2]; omega)
    rw [show lns [clX m b1 u b2, mrX t] ++ [13, 10] = ((((((((m ++ [58]) ++ b1) ++ [48, 48]) ++ nd u) ++ b2) ++ [13, 10])) ++ (((([120, 45] ++ t) ++ [58, 32]) ++ t) ++ [13, 10])) ++ [13, 10] by simp [lns, clX, mrX]] at this
    exact this
  · have := says [clX m b1 u b2, clX m b1 u b2, mrX t] (.inr (.inr (.inr rfl))) (by simp [lns, len1, len2]; omega)
    rw [show lns [clX m b1 u b2, clX m b1 u b2, mrX t] ++ [13, 10] = (((((((((m ++ [58]) ++ b1) ++ [48, 48]) ++ nd u) ++ b2) ++ [13, 10])) ++ (((((((m ++ [58]) ++ b1) ++ [48, 48]) ++ nd u) ++ b2) ++ [13, 10]))) ++ (((([120, 45] ++ t) ++ [58, 32]) ++ t) ++ [13, 10])) ++ [13, 10] by simp [lns, clX, mrX]] at this
    exact this
end Go.Proofs.YtekmdbicobkffaaDoor.Pure
