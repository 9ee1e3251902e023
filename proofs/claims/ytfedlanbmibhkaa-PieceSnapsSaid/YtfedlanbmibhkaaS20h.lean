/- A deed as a function; a run of deeds. -/
import Derived.Test.YtfedlanbmibhkaaS18h
namespace Go.Proofs.Ytfedlanbmibhkaa.P
open Go.RowKit Go.Shelf Go.Proofs.YtfedlanbmibhkaaW.PrintWords Go.Proofs.YtfedlanbmibhkaaW.PrintLast Go.Proofs.YtfedlanbmibhkaaW.PrintMore
set_option linter.unusedVariables false
set_option linter.unusedSimpArgs false
attribute [local go_sem] Oper.semAt_some
def bringF (a : Int) (n : Nat) : Nat := ((colophonref00_Bring.f a n).getD 0).toNat
theorem bringF_of {a : Int} {n r : Nat} (h : colophonref00_Bring.f a n = some (r : Int)) : bringF a n = r := by simp [bringF, h]
def dF (d : Int × Int × Int) (n : Nat) : Nat := bringF d.1 (n + 1)
def dK (d : Int × Int × Int) (n : Nat) : Nat := dF d n + bringF d.2.1 (n - dF d n + 1)
def dX (d : Int × Int × Int) : List Int := (List.range (bringF d.2.2 5)).map fun j : Nat => wrap64 (d.2.2 + (j : Int)) % 256
def applyF (d : Int × Int × Int) (l : List Int) : List Int := l.take (dF d l.length) ++ dX d ++ l.drop (dK d l.length)
def runF (ms : List (Int × Int × Int)) (l : List Int) (j : Nat) : List Int := (ms.take j).foldl (fun l d => applyF d l) l
theorem runF_zero (ms : List (Int × Int × Int)) (l : List Int) : runF ms l 0 = l := rfl
theorem runF_succ {ms : List (Int × Int × Int)} {l : List Int} {j : Nat} {d : Int × Int × Int} (h : ms[j]? = some d) : runF ms l (j + 1) = applyF d (runF ms l j) := by
  unfold runF
  rw [take_get h, List.foldl_append]; rfl
set_option maxRecDepth 100000 in
set_option maxHeartbeats 4000000 in
theorem deed_callsF (w : World) (d0 d1 d2 : Int) (n : Nat) (hn : n ≤ 1000000) : Calls Try.prog 24 #[.agg #[.int .i64 d0, .int .i64 d1, .int .i64 d2], .int .i64 n] w fun e w' => ∃ (f k m : Nat) (A : Option Addr) (c : Nat), e = .returned (.tuple #[.int .i64 f, .int .i64 k, .slice A m c]) ∧ f = dF (d0, d1, d2) n ∧ k = dK (d0, d1, d2) n ∧ m = (dX (d0, d1, d2)).length ∧ f ≤ k ∧ k ≤ n ∧ m ≤ 4 ∧ w'.ownsRow w.heap.size 5 1 (.slice A m c) m (nums .u8 (dX (d0, d1, d2))) ∧ Below w.heap.size w w' := by
  obtain ⟨f, hf, hf1⟩ := bring_fits d0 (n + 1) (by omega)
  have hfn : f ≤ n := by omega
  obtain ⟨g, hg, hg1⟩ := bring_fits d1 (n - f + 1) (by omega)
  obtain ⟨m, hm, hm1⟩ := bring_fits d2 5 (by omega)
  have hgn : f + g ≤ n := by omega
  have hm5 : m ≤ 4 := by omega
  have B1 : ∀ w, Calls Try.prog 28 #[.int .i64 d0, .int .i64 ((n : Int) + 1)] w fun e w' => e = .returned (.int .i64 (f : Int)) ∧ w = w' := fun w => bring_calls w d0 _ f (n + 1) (by omega) (by omega) (by omega) hf
  have B2 : ∀ w, Calls Try.prog 28 #[.int .i64 d1, .int .i64 ((n : Int) - (f : Int) + 1)] w fun e w' => e = .returned (.int .i64 (g : Int)) ∧ w = w' := fun w => bring_calls w d1 _ g (n - f + 1) (by omega) (by omega) (by omega) hg
  have B3 : ∀ w, Calls Try.prog 28 #[.int .i64 d2, .int .i64 5] w fun e w' => e = .returned (.int .i64 (m : Int)) ∧ w = w' := fun w => bring_calls w d2 _ m 5 (by omega) (by omega) (by omega) hm
  have X1 := Aside0.mk B1
  have X2 := Aside0.mk B2
  have X3 := Aside0.mk B3
  have E1 := Aside0.mk (show f = dF (d0, d1, d2) n from (bringF_of hf).symm)
  have E2 := Aside0.mk (show f + g = dK (d0, d1, d2) n by unfold dK; rw [← E1.out]; congr 1; exact (bringF_of hg).symm)
  have E3 := Aside0.mk (show dX (d0, d1, d2) = (List.range m).map fun j : Nat => wrap64 (d2 + (j : Int)) % 256 by unfold dX; rw [bringF_of hm])
  have HMK := print_make (P := Try.prog) 22 5 .u8 1 rfl info5 (by decide) m (by omega)
  clear hf hg hm B1 B2 B3 hf1 hg1 hm1
  go_enter Try.func24, Try.ntmps24
  go_wp2_with (go_at_call 28; first
    | ((with_reducible refine (X1.out _).mono ?_); rintro e w' ⟨rfl, rfl⟩)
    | ((with_reducible refine (X2.out _).mono ?_); rintro e w' ⟨rfl, rfl⟩)
    | ((with_reducible refine (X3.out _).mono ?_); rintro e w' ⟨rfl, rfl⟩))
  have O0 : Aside0 ((((w.alloc (.cells #[.int .i64 d0, .int .i64 d1, .int .i64 d2] 46)).alloc (.cells (madeCells #[.int .u8 0] m) 5))).ownsRow (w.heap.size + 1) 5 1 (.slice (some ⟨w.heap.size + 1, 0, none⟩) m m) m (nums .u8 (List.replicate m 0))) := ⟨by
    have := own_made (w.alloc (.cells #[.int .i64 d0, .int .i64 d1, .int .i64 d2] 46)) (w.heap.size + 1) 5 .u8 m (by rw [World.size_alloc]; exact Nat.le_refl _) (by omega)
    rwa [World.size_alloc] at this⟩
  go_loopw [10] (fun i wr => ∃ (j : Nat) (xs : List Int), j ≤ m ∧ i = .int .i64 j ∧ Aside0 (xs.length = m ∧ ∀ q, q < j → xs[q]? = some (wrap64 (d2 + (q : Int)) % 256)) ∧ Aside0 (wr.ownsRow (w.heap.size + 1) 5 1 (.slice (some ⟨w.heap.size + 1, 0, none⟩) m m) m (nums .u8 xs)) ∧ Aside0 (Below w.heap.size w wr ∧ wr.cell? ⟨w.heap.size, 2, none⟩ = some (.int .i64 d2))) (fun i _ => m - (intOf i).toNat)
  case atStart =>
    refine ⟨0, List.replicate m 0, Nat.zero_le _, rfl, ⟨by simp, fun q hq => absurd hq (Nat.not_lt_zero _)⟩, O0, ⟨below_alloc (below_alloc (Below.refl _ w) _) _, ?_⟩⟩
    refine (Lib.cell?_alloc_some _ (blk_cell (heap_alloc_new w (.cells #[.int .i64 d0, .int .i64 d1, .int .i64 d2] 46)) 2))
  case round =>
    obtain ⟨j, xs, hj, rfl, HX, HO, HE⟩ := hrel
    by_cases hlt : j < m
    · obtain ⟨q1, q2⟩ := own_at HO.out (j : Int) (by omega) (by omega)
      have q3 := HE.out.2
      have q4 : ((j : Int)).toNat = j := rfl
      rw [q4] at q1 q2
      have t1 : decide (j < m) = true := decide_eq_true hlt
      go_wp2
      have hs := own_store HO.out (j : Int) (wrap64 (d2 + (j : Int)) % 256)
      rw [q4] at hs
      refine ⟨⟨j + 1, xs.set j (wrap64 (d2 + (j : Int)) % 256), by omega, by go_num, ⟨by rw [List.length_set]; exact HX.out.1, fun q hq => ?_⟩, ⟨hs.1⟩, ⟨below_set HE.out.1 (by omega), ?_⟩⟩, ?_⟩
      · rw [List.getElem?_set]
        split
        · subst_vars; rw [if_pos (by rw [HX.out.1]; exact hlt)]
        · exact HX.out.2 q (by omega)
      · rw [World.cell?_of_block (hs.2.block w.heap.size (World.block_lt_of_cell? _ _ q3) (by intro e; injection e with e; omega))]; exact q3
      · simp [intOf]; omega
    · obtain rfl : j = m := by omega
      have t1 : decide (j < j) = false := decide_eq_false (by omega)
      go_wp2
      go_ret3
      have ex : xs = dX (d0, d1, d2) := by
        rw [E3.out]
        apply List.ext_getElem?
        intro q
        rcases Nat.lt_or_ge q j with hq | hq
        · rw [HX.out.2 q hq]; simp [hq]
        · rw [List.getElem?_eq_none (by rw [HX.out.1]; exact hq), List.getElem?_eq_none (by simp; exact hq)]
      refine ⟨f, f + g, j, some ⟨w.heap.size + 1, 0, none⟩, j, ?_, E1.out, E2.out, by rw [← ex]; exact HX.out.1.symm, by omega, hgn, hm5, ?_, HE.out.1⟩
      · push_cast; rfl
      · rw [← ex]; exact own_lower HO.out (by omega)
theorem deed_forF {w0 w : World} {t : Nat} {v : Value} {ps : List (List Int)} (h : TT_b w0 w t v ps) (d0 d1 d2 : Int) (N : Nat) (hN : N ≤ 1000000) : Calls Try.prog 24 #[.agg #[.int .i64 d0, .int .i64 d1, .int .i64 d2], .int .i64 N] w fun e w' => ∃ (f k m : Nat) (A : Option Addr) (c : Nat), e = .returned (.tuple #[.int .i64 f, .int .i64 k, .slice A m c]) ∧ f = dF (d0, d1, d2) N ∧ k = dK (d0, d1, d2) N ∧ f ≤ k ∧ k ≤ N ∧ m ≤ 4 ∧ Row_b w' t v A c m (dX (d0, d1, d2)) ∧ TT_b w0 w' t v ps ∧ Below w.heap.size w w' := by
  refine (deed_callsF w d0 d1 d2 N hN).mono ?_
  rintro e w' ⟨f, k, m, A, c, rfl, h1, h2, h3, h4, h5, h6, h7, h8⟩
  exact ⟨f, k, m, A, c, rfl, h1, h2, h4, h5, h6, Row_b.of_own h h7, h.step h8, h8⟩
theorem C46_ofF {w : World} {A : Option Addr} {n : Nat} {l : List (Int × Int × Int)} (h : k46.C w A n l) (j : Nat) (hj : j < l.length) : ∃ ad d0 d1 d2, l[j]? = some (d0, d1, d2) ∧ A = some ad ∧ w.cell? (ad.add (j * 3)) = some (.int .i64 d0) ∧ w.cell? ⟨(ad.add (j * 3)).block, (ad.add (j * 3)).off + 1, none⟩ = some (.int .i64 d1) ∧ w.cell? ⟨(ad.add (j * 3)).block, (ad.add (j * 3)).off + 2, none⟩ = some (.int .i64 d2) := by
  obtain ⟨⟨d0, d1, d2⟩, hd⟩ := getElem_lt hj
  obtain ⟨ad, e, h0, h1, h2⟩ := C46_at h j _ hd
  refine ⟨ad, d0, d1, d2, hd, e, h0, ?_, ?_⟩
  · rw [← add_more _ _ _ (by decide)]; exact h1
  · rw [← add_more _ _ _ (by decide)]; exact h2
theorem apart_rep {w0 w : World} {t1 t2 : Nat} {v1 v1' v2 : Value} {ps2 : List (List Int)} (ha : t1 ≠ t2 ∧ ∀ b, v1.ownBlock = some b → v2.ownBlock ≠ some b) (h2 : TT_b w0 w t2 v2 ps2) (N : v1'.ownBlock = v1.ownBlock ∨ ∃ b, v1'.ownBlock = some b ∧ w.heap.size ≤ b) : t1 ≠ t2 ∧ ∀ b, v1'.ownBlock = some b → v2.ownBlock ≠ some b := by
  refine ⟨ha.1, fun b e1 e2 => ?_⟩
  rcases N with N | ⟨q, N, hq⟩
  · exact ha.2 b (N.symm.trans e1) e2
  · rw [N] at e1; cases e1
    have := (h2.tab.ownB _ e2).2.1
    omega
theorem snap_for {w0 w : World} {t : Nat} {v : Value} {ps : List (List Int)} (h : TT_b w0 w t v ps) (hn : ps.length ≤ 1000000) : Calls Try.prog 17 #[.pointer (some ⟨t, 0, none⟩)] w fun e w' => ∃ t' v', e = .returned (.pointer (some ⟨t', 0, none⟩)) ∧ TT_b w0 w' t' v' ps ∧ TT_b w0 w' t v ps ∧ (t ≠ t' ∧ ∀ b, v.ownBlock = some b → v'.ownBlock ≠ some b) ∧ Below w.heap.size w w' := by
  refine (h.snap hn).mono ?_
  rintro e w5 ⟨t5, v5, rfl, T_, B_, L_, N_⟩
  exact ⟨t5, v5, rfl, T_, h.step B_, ⟨by have := h.lt; omega, fun b e1 e2 => by have := (h.tab.ownB b e1).2.1; have := N_ b e2; omega⟩, B_⟩
theorem slice_own {w0 w : World} {t : Nat} {v : Value} {ps : List (List Int)} (h : TT_b w0 w t v ps) (n : Nat) (hn : ps.flatten.length = n) (hs : n ≤ 1000000) :
    Calls Try.prog 22 #[.pointer (some ⟨t, 0, none⟩), .int .i64 0, .int .i64 n] w fun e w' => ∃ A c, e = .returned (.tuple #[.slice A n c, .int .i64 0]) ∧ w'.ownsRow w.heap.size 5 1 (.slice A n c) n (nums .u8 ps.flatten) ∧ Below w.heap.size w w' :=
  h.sliceI 0 n 0 n rfl rfl (Nat.zero_le _) (by omega) (by omega) n ps.flatten (by rw [List.take_of_length_le (Nat.le_of_eq hn), List.drop_zero]) hn
end Go.Proofs.Ytfedlanbmibhkaa.P
