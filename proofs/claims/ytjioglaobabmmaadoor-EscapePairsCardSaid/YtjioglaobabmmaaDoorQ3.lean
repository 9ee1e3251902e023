/- The document's decoder says what stands at a place; so do its Check and the program's. -/
import Derived.Test.YtjioglaobabmmaaDoorP5
import Derived.Test.YtjioglaobabmmaaDoorP6
import Derived.Test.YtjioglaobabmmaaDoorQ2
namespace Go.Proofs.YtjioglaobabmmaaDoor.Pure
open Go.RowKit Go.Proofs.YtjioglaobabmmaaDoor.P Go.Proofs.YtjioglaobabmmaaDoorW.PrintWords
set_option linter.unusedVariables false
set_option linter.unusedSimpArgs false
theorem head1 (b : Int) : headOf 1 b = b := rfl
theorem head2 (b : Int) : headOf 2 b = b % 32 := rfl
theorem head3 (b : Int) : headOf 3 b = b % 16 := rfl
theorem head4 (b : Int) : headOf 4 b = b % 8 := rfl
theorem join1 (b0 : Int) (t : List Int) (g0 : 0 ≤ b0) (g1 : b0 ≤ 255) : Ev (fun k => colophonref01_joined.f k (b0 :: t) 1) b0 :=
  jf_head b0 t 1 g0 g1 _ (jl_end _ 1 _)
theorem join2 (b0 b1 : Int) (t : List Int) (g0 : 0 ≤ b0) (g1 : b0 ≤ 255) (k0 : 0 ≤ b1) (k1 : b1 ≤ 255) : Ev (fun k => colophonref01_joined.f k (b0 :: b1 :: t) 2) (b0 % 32 * 64 + b1 % 64) :=
  jf_head b0 (b1 :: t) 2 g0 g1 _ (jl_go _ 2 _ 1 b1 rfl (by decide) (by decide) (by decide) (by simp only [List.length_cons]; omega) k0 k1 (by rw [head2]; omega) (by rw [head2]; omega) _ (jl_end _ 2 _))
theorem join3 (b0 b1 b2 : Int) (t : List Int) (g0 : 0 ≤ b0) (g1 : b0 ≤ 255) (k0 : 0 ≤ b1) (k1 : b1 ≤ 255) (m0 : 0 ≤ b2) (m1 : b2 ≤ 255) : Ev (fun k => colophonref01_joined.f k (b0 :: b1 :: b2 :: t) 3) ((b0 % 16 * 64 + b1 % 64) * 64 + b2 % 64) :=
  jf_head b0 (b1 :: b2 :: t) 3 g0 g1 _ (jl_go _ 3 _ 1 b1 rfl (by decide) (by decide) (by decide) (by simp only [List.length_cons]; omega) k0 k1 (by rw [head3]; omega) (by rw [head3]; omega) _
    (jl_go _ 3 _ 2 b2 rfl (by decide) (by decide) (by decide) (by simp only [List.length_cons]; omega) m0 m1 (by rw [head3]; omega) (by rw [head3]; omega) _ (jl_end _ 3 _)))
theorem join4 (b0 b1 b2 b3 : Int) (t : List Int) (g0 : 0 ≤ b0) (g1 : b0 ≤ 255) (k0 : 0 ≤ b1) (k1 : b1 ≤ 255) (m0 : 0 ≤ b2) (m1 : b2 ≤ 255) (n0 : 0 ≤ b3) (n1 : b3 ≤ 255) : Ev (fun k => colophonref01_joined.f k (b0 :: b1 :: b2 :: b3 :: t) 4) (((b0 % 8 * 64 + b1 % 64) * 64 + b2 % 64) * 64 + b3 % 64) :=
  jf_head b0 (b1 :: b2 :: b3 :: t) 4 g0 g1 _ (jl_go _ 4 _ 1 b1 rfl (by decide) (by decide) (by decide) (by simp only [List.length_cons]; omega) k0 k1 (by rw [head4]; omega) (by rw [head4]; omega) _
    (jl_go _ 4 _ 2 b2 rfl (by decide) (by decide) (by decide) (by simp only [List.length_cons]; omega) m0 m1 (by rw [head4]; omega) (by rw [head4]; omega) _
    (jl_go _ 4 _ 3 b3 rfl (by decide) (by decide) (by decide) (by simp only [List.length_cons]; omega) n0 n1 (by rw [head4]; omega) (by rw [head4]; omega) _ (jl_end _ 4 _))))
/-- A try that hits, or one that does not. -/
theorem hit (rest : List Int) (n : Int) (m : Nat) (hm : n = (m : Int)) (h1 : 1 ≤ m) (h4 : m ≤ 4) (hl : m ≤ rest.length) (c : Int) (hj : Ev (fun k => colophonref01_joined.f k rest n) c) (he : encOf c = (rest.take m, 0)) : Ev (fun k => colophonref01_Decode.l0 k rest n) (c, n, 0) :=
  ref_try rest n m hm h1 h4 hl c hj _ (by rw [if_pos he])
theorem miss (rest : List Int) (n : Int) (m : Nat) (hm : n = (m : Int)) (h1 : 1 ≤ m) (h4 : m ≤ 4) (hl : m ≤ rest.length) (c : Int) (hj : Ev (fun k => colophonref01_joined.f k rest n) c) (he : ¬ encOf c = (rest.take m, 0)) (r : Int × Int × Int) (k : Ev (fun k => colophonref01_Decode.l0 k rest (n + 1)) r) : Ev (fun k => colophonref01_Decode.l0 k rest n) r :=
  ref_try rest n m hm h1 h4 hl c hj _ (by rw [if_neg he]; exact k)
theorem ref_tail (b0 : Int) (t : List Int) (hb : Bytes (b0 :: t)) : ∃ r, Ev (fun k => colophonref01_Decode.l0 k (b0 :: t) 1) r ∧ DecIs (dec (b0 :: t)) r := by
  obtain ⟨⟨g0, g1⟩, ht⟩ := hb.cons
  by_cases h1 : b0 < 128
  · refine ⟨(b0, 1, 0), hit _ 1 1 rfl (by decide) (by decide) (by simp) b0 (join1 b0 t g0 g1) ((m1 b0 t g0 g1).mpr h1), ?_⟩
    simp only [dec, if_pos h1]
    rfl
  · have n1 := fun r k => miss (b0 :: t) 1 1 rfl (by decide) (by decide) (by simp) b0 (join1 b0 t g0 g1) (fun h => h1 ((m1 b0 t g0 g1).mp h)) r k
    match t, ht with
    | [], _ =>
      obtain ⟨r, hr, hd⟩ := ref_stop [b0] (by simp) 2 (.inr ⟨rfl, by simp⟩)
      refine ⟨r, n1 r hr, ?_⟩
      have : dec [b0] = none := by
        simp only [dec, if_neg h1]
        split; rfl
        split; rfl
        split; rfl
        split <;> rfl
      rw [this]; exact hd
    | b1 :: t1, ht =>
      obtain ⟨⟨k0, k1⟩, ht1⟩ := ht.cons
      by_cases c2 : 194 ≤ b0 ∧ b0 ≤ 223 ∧ 128 ≤ b1 ∧ b1 ≤ 191
      · refine ⟨_, n1 _ (hit _ 2 2 rfl (by decide) (by decide) (by simp) _ (join2 b0 b1 t1 g0 g1 k0 k1) ((m2 b0 b1 t1 g0 g1 k0 k1).mpr c2)), ?_⟩
        simp only [dec, if_neg h1, if_neg (show ¬ b0 < 194 by omega), if_neg (show ¬ b0 > 244 by omega), if_pos (show b0 < 224 by omega), if_pos (show 128 ≤ b1 ∧ b1 ≤ 191 from c2.2.2)]
        show (_, _, _) = (_, _, _)
        rw [show b0 % 32 * 64 + b1 % 64 = (b0 - 192) * 64 + (b1 - 128) by omega]
        rfl
      · have n2 := fun r k => n1 r (miss (b0 :: b1 :: t1) 2 2 rfl (by decide) (by decide) (by simp) _ (join2 b0 b1 t1 g0 g1 k0 k1) (fun h => c2 ((m2 b0 b1 t1 g0 g1 k0 k1).mp h)) r k)
        match t1, ht1 with
        | [], _ =>
          obtain ⟨r, hr, hd⟩ := ref_stop [b0, b1] (by simp) 3 (.inr ⟨rfl, by simp⟩)
          refine ⟨r, n2 r hr, ?_⟩
          have : dec [b0, b1] = none := by
            simp only [dec, if_neg h1]
            split; rfl
            split; rfl
            split
            · rw [if_neg (by omega)]
            · split <;> rfl
          rw [this]; exact hd
        | b2 :: t2, ht1 =>
          obtain ⟨⟨m0, m1'⟩, ht2⟩ := ht1.cons
          by_cases c3 : 224 ≤ b0 ∧ b0 ≤ 239 ∧ lowOf b0 ≤ b1 ∧ b1 ≤ highOf b0 ∧ 128 ≤ b2 ∧ b2 ≤ 191
          · refine ⟨_, n2 _ (hit _ 3 3 rfl (by decide) (by decide) (by simp) _ (join3 b0 b1 b2 t2 g0 g1 k0 k1 m0 m1') ((m3 b0 b1 b2 t2 g0 g1 k0 k1 m0 m1').mpr c3)), ?_⟩
            simp only [dec, if_neg h1, if_neg (show ¬ b0 < 194 by omega), if_neg (show ¬ b0 > 244 by omega), if_neg (show ¬ b0 < 224 by omega), if_pos (show b0 < 240 by omega), if_pos c3.2.2]
            show (_, _, _) = (_, _, _)
            have hb1 : 128 ≤ b1 ∧ b1 ≤ 191 := by
              have := c3.2.2.1; have := c3.2.2.2.1; unfold lowOf at *; unfold highOf at *; split at * <;> split at * <;> omega
            rw [show (b0 % 16 * 64 + b1 % 64) * 64 + b2 % 64 = (b0 - 224) * 4096 + (b1 - 128) * 64 + (b2 - 128) by omega]
            rfl
          · have n3 := fun r k => n2 r (miss (b0 :: b1 :: b2 :: t2) 3 3 rfl (by decide) (by decide) (by simp) _ (join3 b0 b1 b2 t2 g0 g1 k0 k1 m0 m1') (fun h => c3 ((m3 b0 b1 b2 t2 g0 g1 k0 k1 m0 m1').mp h)) r k)
            match t2, ht2 with
            | [], _ =>
              obtain ⟨r, hr, hd⟩ := ref_stop [b0, b1, b2] (by simp) 4 (.inr ⟨rfl, by simp⟩)
              refine ⟨r, n3 r hr, ?_⟩
              have : dec [b0, b1, b2] = none := by
                simp only [dec, if_neg h1]
                split; rfl
                split; rfl
                split
                · rw [if_neg (by omega)]
                · split
                  · rw [if_neg (fun h => c3 ⟨by omega, by omega, h⟩)]
                  · rfl
              rw [this]; exact hd
            | b3 :: t3, ht2 =>
              obtain ⟨⟨q0, q1⟩, ht3⟩ := ht2.cons
              by_cases c4 : 240 ≤ b0 ∧ b0 ≤ 244 ∧ lowOf b0 ≤ b1 ∧ b1 ≤ highOf b0 ∧ 128 ≤ b2 ∧ b2 ≤ 191 ∧ 128 ≤ b3 ∧ b3 ≤ 191
              · refine ⟨_, n3 _ (hit _ 4 4 rfl (by decide) (by decide) (by simp) _ (join4 b0 b1 b2 b3 t3 g0 g1 k0 k1 m0 m1' q0 q1) ((m4 b0 b1 b2 b3 t3 g0 g1 k0 k1 m0 m1' q0 q1).mpr c4)), ?_⟩
                simp only [dec, if_neg h1, if_neg (show ¬ b0 < 194 by omega), if_neg (show ¬ b0 > 244 by omega), if_neg (show ¬ b0 < 224 by omega), if_neg (show ¬ b0 < 240 by omega), if_pos c4.2.2]
                show (_, _, _) = (_, _, _)
                have hb1 : 128 ≤ b1 ∧ b1 ≤ 191 := by
                  have := c4.2.2.1; have := c4.2.2.2.1; unfold lowOf at *; unfold highOf at *; split at * <;> split at * <;> omega
                rw [show ((b0 % 8 * 64 + b1 % 64) * 64 + b2 % 64) * 64 + b3 % 64 = (b0 - 240) * 262144 + (b1 - 128) * 4096 + (b2 - 128) * 64 + (b3 - 128) by omega]
                rfl
              · obtain ⟨r, hr, hd⟩ := ref_stop (b0 :: b1 :: b2 :: b3 :: t3) (by simp) 5 (.inl ⟨rfl, by simp⟩)
                refine ⟨r, n3 r (miss (b0 :: b1 :: b2 :: b3 :: t3) 4 4 rfl (by decide) (by decide) (by simp) _ (join4 b0 b1 b2 b3 t3 g0 g1 k0 k1 m0 m1' q0 q1) (fun h => c4 ((m4 b0 b1 b2 b3 t3 g0 g1 k0 k1 m0 m1' q0 q1).mp h)) r hr), ?_⟩
                have : dec (b0 :: b1 :: b2 :: b3 :: t3) = none := by
                  simp only [dec, if_neg h1]
                  split; rfl
                  split; rfl
                  split
                  · rw [if_neg (by omega)]
                  · split
                    · rw [if_neg (fun h => c3 ⟨by omega, by omega, h⟩)]
                    · rw [if_neg (fun h => c4 ⟨by omega, by omega, h⟩)]
                rw [this]; exact hd
theorem ref_dec (l : List Int) (hb : Bytes l) (i : Nat) (hi : i < l.length) : ∃ r, Ev (fun k => colophonref01_Decode.f k l i) r ∧ DecIs (dec (l.drop i)) r := by
  obtain ⟨b0, t, hd⟩ := drop_cons hi
  have hb2 : Bytes (b0 :: t) := hd ▸ hb.drop i
  obtain ⟨r, h1, h2⟩ := ref_tail b0 t hb2
  rw [hd]
  refine ⟨r, ?_, h2⟩
  unfold colophonref01_Decode.f
  simp only [if_neg (show ¬ ((i : Int) < 0) by omega), show decide ((i : Int) ≥ (l.length : Int)) = false from decide_eq_false (by omega)]
  refine Ev.step (f := fun k => colophonref01_Decode.l0 k (b0 :: t) 1) (fun k => ?_) h1
  simp only [colophonref01_Decode.j0, Bool.false_eq_true, if_false]
  rw [if_pos (by omega), if_pos (by omega)]
  simp only [Int.toNat_natCast, hd]
end Go.Proofs.YtjioglaobabmmaaDoor.Pure
