/- The laws' helpers: deed. -/
import Derived.Test.YtfedlanbmibhkaaS13
import Derived.Test.YtfedlanbmibhkaaP1
import Derived.OwnWalk
namespace Go.Proofs.Ytfedlanbmibhkaa.P
open Go.RowKit Go.Shelf Go.Proofs.YtfedlanbmibhkaaW.PrintWords Go.Proofs.YtfedlanbmibhkaaW.PrintLast Go.Proofs.YtfedlanbmibhkaaW.PrintMore
set_option linter.unusedVariables false
set_option linter.unusedSimpArgs false
attribute [local go_sem] Oper.semAt_some
theorem bring_fits (a : Int) (n : Nat) (hn : (n : Int) ≤ 4611686018427387904) : ∃ r : Nat, colophonref00_Bring.f a n = some (r : Int) ∧ (r < n ∨ r = 0) := by
  unfold colophonref00_Bring.f
  rcases Nat.eq_zero_or_pos n with h | h
  · subst h; exact ⟨0, by simp, .inr rfl⟩
  · rw [if_neg (by omega), if_neg (by omega)]
    have h1 : Int.tmod a n < n := Int.tmod_lt_of_pos a (by omega)
    have h2 : -(n : Int) < Int.tmod a n := by
      have := Int.tmod_lt_of_pos (-a) (b := (n : Int)) (by omega)
      rw [Int.neg_tmod] at this; omega
    split
    · refine ⟨(Int.tmod a n + n).toNat, ?_, .inl (by omega)⟩
      rw [show wrap64 (Int.tmod a n + n) = Int.tmod a n + n by unfold wrap64; omega]
      congr 1; omega
    · exact ⟨(Int.tmod a n).toNat, by congr 1; omega, .inl (by omega)⟩
theorem rng_wrap (x : Int) (h1 : -9223372036854775808 ≤ x) (h2 : x ≤ 9223372036854775807) : wrap64 x = x := by unfold wrap64; omega
set_option maxRecDepth 100000 in
set_option maxHeartbeats 4000000 in
theorem bring_calls (w : World) (a b : Int) (r : Nat) (n : Nat) (hb : b = (n : Int)) (h0 : 0 < n) (hn : (n : Int) ≤ 4611686018427387904) (h : colophonref00_Bring.f a (n : Int) = some (r : Int)) : Calls Try.prog 28 #[.int .i64 a, .int .i64 b] w fun e w' => e = .returned (.int .i64 (r : Int)) ∧ w = w' := by
  subst hb
  have h1 : Int.tmod a n < n := Int.tmod_lt_of_pos a (by omega)
  have h2 : -(n : Int) < Int.tmod a n := by
    have := Int.tmod_lt_of_pos (-a) (b := (n : Int)) (by omega)
    rw [Int.neg_tmod] at this; omega
  unfold colophonref00_Bring.f at h
  rw [if_neg (by omega), if_neg (by omega)] at h
  have t1 : decide ((n : Int) ≤ 0) = false := decide_eq_false (by omega)
  have t1b : decide (n = 0) = false := decide_eq_false (by omega)
  by_cases c : Int.tmod a n < 0
  · rw [if_pos c] at h
    have t2 : decide (Int.tmod a n < 0) = true := decide_eq_true c
    have H := Aside0.mk (Option.some.inj h)
    clear h c h1 h2
    go_enter Try.func28, Try.ntmps28
    go_wp2
    go_ret
    exact ⟨by rw [H.out]; rfl, rfl⟩
  · rw [if_neg c] at h
    have t2 : decide (Int.tmod a n < 0) = false := decide_eq_false c
    have H := Aside0.mk (Option.some.inj h)
    clear h c h1 h2
    go_enter Try.func28, Try.ntmps28
    go_wp2
    go_ret
    exact ⟨by rw [H.out]; rfl, rfl⟩
set_option maxRecDepth 100000 in
set_option maxHeartbeats 4000000 in
theorem deed_calls (w : World) (d0 d1 d2 : Int) (n : Nat) (hn : n ≤ 1000000) : Calls Try.prog 24 #[.agg #[.int .i64 d0, .int .i64 d1, .int .i64 d2], .int .i64 n] w fun e w' => ∃ (f k : Nat) (A : Option Addr) (c : Nat) (xs : List Int), e = .returned (.tuple #[.int .i64 f, .int .i64 k, .slice A xs.length c]) ∧ f ≤ k ∧ k ≤ n ∧ xs.length ≤ 4 ∧ w'.ownsRow w.heap.size 5 1 (.slice A xs.length c) xs.length (nums .u8 xs) ∧ Below w.heap.size w w' := by
  obtain ⟨f, hf, hf1⟩ := bring_fits d0 (n + 1) (by omega)
  have hfn : f ≤ n := by omega
  obtain ⟨g, hg, hg1⟩ := bring_fits d1 (n - f + 1) (by omega)
  obtain ⟨m, hm, hm1⟩ := bring_fits d2 5 (by omega)
  have hgn : f + g ≤ n := by omega
  have hm5 : m ≤ 4 := by omega
  have B1 : ∀ w, Calls Try.prog 28 #[.int .i64 d0, .int .i64 ((n : Int) + 1)] w fun e w' => e = .returned (.int .i64 (f : Int)) ∧ w = w' := fun w => bring_calls w d0 _ f (n + 1) (by omega) (by omega) (by omega) hf
  have B2 : ∀ w, Calls Try.prog 28 #[.int .i64 d1, .int .i64 ((n : Int) - (f : Int) + 1)] w fun e w' => e = .returned (.int .i64 (g : Int)) ∧ w = w' := fun w => bring_calls w d1 _ g (n - f + 1) (by omega) (by omega) (by omega) hg
  have B3 : ∀ w, Calls Try.prog 28 #[.int .i64 d2, .int .i64 5] w fun e w' => e = .returned (.int .i64 (m : Int)) ∧ w = w' := fun w => bring_calls w d2 _ m 5 (by omega) (by omega) (by omega) hm
  have X1 := Aside0.mk B1
  have X2 := Aside0.mk B2
  have X3 := Aside0.mk B3
  have HMK := print_make (P := Try.prog) 22 5 .u8 1 rfl info5 (by decide) m (by omega)
  clear hf hg hm B1 B2 B3 hf1 hg1 hm1
  go_enter Try.func24, Try.ntmps24
  go_wp2_with (go_at_call 28; first
    | ((with_reducible refine (X1.out _).mono ?_); rintro e w' ⟨rfl, rfl⟩)
    | ((with_reducible refine (X2.out _).mono ?_); rintro e w' ⟨rfl, rfl⟩)
    | ((with_reducible refine (X3.out _).mono ?_); rintro e w' ⟨rfl, rfl⟩))
  have O0 : Aside0 ((((w.alloc (.cells #[.int .i64 d0, .int .i64 d1, .int .i64 d2] 46)).alloc (.cells (madeCells #[.int .u8 0] m) 5))).ownsRow (w.heap.size + 1) 5 1 (.slice (some ⟨w.heap.size + 1, 0, none⟩) m m) m (nums .u8 (List.replicate m 0))) := ⟨by
    have := own_made (w.alloc (.cells #[.int .i64 d0, .int .i64 d1, .int .i64 d2] 46)) (w.heap.size + 1) 5 .u8 m (by rw [World.size_alloc]; exact Nat.le_refl _) (by omega)
    rwa [World.size_alloc] at this⟩
  go_loopw [10] (fun i wr => ∃ (j : Nat) (xs : List Int), j ≤ m ∧ i = .int .i64 j ∧ Aside0 (xs.length = m) ∧ Aside0 (wr.ownsRow (w.heap.size + 1) 5 1 (.slice (some ⟨w.heap.size + 1, 0, none⟩) m m) m (nums .u8 xs)) ∧ Aside0 (Below w.heap.size w wr ∧ wr.cell? ⟨w.heap.size, 2, none⟩ = some (.int .i64 d2))) (fun i _ => m - (intOf i).toNat)
  case atStart =>
    refine ⟨0, List.replicate m 0, Nat.zero_le _, rfl, ⟨by simp⟩, O0, ⟨below_alloc (below_alloc (Below.refl _ w) _) _, ?_⟩⟩
    refine (Lib.cell?_alloc_some _ (blk_cell (heap_alloc_new w (.cells #[.int .i64 d0, .int .i64 d1, .int .i64 d2] 46)) 2)) 
  case round =>
    obtain ⟨j, xs, hj, rfl, HX, HO, HE⟩ := hrel
    by_cases hlt : j < m
    · obtain ⟨q1, q2⟩ := own_at HO.out (j : Int) (by omega) (by omega)
      have q3 := HE.out.2
      have q4 : ((j : Int)).toNat = j := rfl
      rw [q4] at q1 q2
      have t1 : decide (j < m) = true := decide_eq_true hlt
      go_wp2
      have hs := own_store HO.out (j : Int) (wrap64 (d2 + (j : Int)) % 256)
      rw [q4] at hs
      refine ⟨⟨j + 1, xs.set j (wrap64 (d2 + (j : Int)) % 256), by omega, by go_num, ⟨by rw [List.length_set]; exact HX.out⟩, ⟨hs.1⟩, ⟨below_set HE.out.1 (by omega), ?_⟩⟩, ?_⟩
      · rw [World.cell?_of_block (hs.2.block w.heap.size (World.block_lt_of_cell? _ _ q3) (by intro e; injection e with e; omega))]; exact q3
      · simp [intOf]; omega
    · obtain rfl : j = m := by omega
      have t1 : decide (j < j) = false := decide_eq_false (by omega)
      go_wp2
      go_ret3
      refine ⟨f, f + g, some ⟨w.heap.size + 1, 0, none⟩, j, xs, ?_, by omega, hgn, by have := HX.out; omega, ?_, HE.out.1⟩
      · rw [HX.out]; push_cast; rfl
      · rw [HX.out]; exact own_lower HO.out (by omega)
end Go.Proofs.Ytfedlanbmibhkaa.P
