/- A table of pieces: Replace. -/
import Derived.Test.YtfedlanbmibhkaaS8b
namespace Go.Proofs.Ytfedlanbmibhkaa.P
open Go.RowKit Go.Proofs.YtfedlanbmibhkaaW.PrintWords Go.Proofs.YtfedlanbmibhkaaW.PrintLast Go.Proofs.YtfedlanbmibhkaaW.PrintMore
set_option linter.unusedVariables false
set_option linter.unusedSimpArgs false
theorem del_close_b {B : Nat} {w : World} {t : Nat} {C : Nat → Prop} {v : Value} {ps : List (List Int)} (h : Tab_b B w t C v ps) {vs : List Value} (HO : w.ownsRow B 22 1 v ps.length vs) (HV : All2 (Bl_b w C) vs ps) (i j : Nat) (hij : i ≤ j) (hj : j ≤ ps.length)
    {w2 : World} {v2 : Value} (O2 : w2.ownsRow B 22 1 v2 (i + (ps.length - j)) (vs.take i ++ vs.drop j)) (S2 : w.grownBy w2 v.ownBlock) (N2 : v2.ownBlock = v.ownBlock) :
    Left_b B t C v (ps.take i ++ ps.drop j) w (w2.setCell ⟨t, 1, none⟩ v2) := by
  have hbox := h.box
  have ht := blk_lt hbox
  have hown : ∀ b, v.ownBlock = some b → b ≠ t := fun b hb => (h.ownB b hb).2.2
  have hb2 : w2.heap[t]? = some (.cells #[.bool true, v] 71 (0, 0)) := (S2.block t ht (fun e => hown t e.symm rfl)).trans hbox
  have eff : Eff_b t v.ownBlock w w2 := Eff_b.of_grown S2
  have hb3 := blk_set hb2 1 v2
  have hne := own_ne O2 hb2 (by decide)
  have O3 := own_setCell O2 (p := ⟨t, 1, none⟩) hne v2
  have old : ∀ u p, Bl_b w C u p → Bl_b (w2.setCell ⟨t, 1, none⟩ v2) C u p := by
    intro u p hb
    obtain ⟨g, o', c, cs, e, hc, hb, h1, h2, h3⟩ := hb
    have n1 : g ≠ t := blk_ne hb hbox (by decide)
    have n2 : some g ≠ v.ownBlock := by
      rcases own_rowAt HO with ⟨rfl, -, -⟩ | ⟨g2, cap, cur, rfl, hR⟩
      · simp [Value.ownBlock]
      · intro e; cases e; exact absurd rfl (blk_ne hb hR.blk (by decide))
    exact ⟨g, o', c, cs, e, hc, ((eff.set 1 _).blk g (blk_lt hb) n1 n2).trans hb, h1, h2, h3⟩
  have HN := HV.imp old
  refine ⟨v2, ⟨h.lo, hb3, ⟨_, by
      rw [show (ps.take i ++ ps.drop j).length = i + (ps.length - j) by simp only [List.length_append, List.length_take, List.length_drop]; omega]
      exact O3, (HN.take i).append (HN.drop j)⟩, ?_⟩, eff.set 1 _, .inl N2⟩
  have hf := h.full
  exact full_append.mpr ⟨fun x hx => hf x (List.mem_of_mem_take hx), fun x hx => hf x (List.mem_of_mem_drop hx)⟩

theorem C_mv_b {k : IntKind} {w w' : World} {A : Option Addr} {n : Nat} {xs : List Int} (h : Kd.C (Kd.int k) w A n xs) (hm : 0 < n → ∀ ad, A = some ad → ad.block < w.heap.size → w'.heap[ad.block]? = w.heap[ad.block]?) : Kd.C (Kd.int k) w' A n xs := by
  by_cases h0 : 0 < n
  · exact C_move h (hm h0)
  · exact ⟨h.1, h.2.1, fun hp => absurd hp h0⟩
set_option maxHeartbeats 4000000 in
set_option maxRecDepth 100000 in
theorem replace_calls_b {B : Nat} {w : World} {t : Nat} {C : Nat → Prop} {v : Value} {ps : List (List Int)} (h : Tab_b B w t C v ps) (f k : Nat) (hfk : f ≤ k) (hk : k ≤ ps.flatten.length) (hs : ps.flatten.length ≤ 4611686018427387904) (hn : ps.length ≤ 900000)
    (A : Option Addr) (c : Nat) (xs : List Int) (hr : Kd.C (Kd.int .u8) w A xs.length xs) (hx : xs.length * 1 ≤ 140737488355328) (hA : 0 < xs.length → ∀ ad, A = some ad → ad.block ≠ t ∧ some ad.block ≠ v.ownBlock) (hB : B ≤ w.heap.size) :
    Calls Try.prog 19 #[.pointer (some ⟨t, 0, none⟩), .int .i64 f, .int .i64 k, .slice A xs.length c] w fun e w' => e = .returned (.int .i64 0) ∧ Left_b B t (fun g => C g ∨ w.heap.size ≤ g) v (replS ps f k xs) w w' := by
  have HT := Aside0.mk h
  have HC := Aside0.mk hr
  obtain ⟨q1, q2, q3, q4⟩ := cutS_facts ps f (by omega) h.full
  obtain ⟨r1, r2, r3, r4⟩ := cutS_facts (cutS ps f).1 k (by rw [q1]; exact hk) q2
  have r5 := cutS_mono ps f k hfk hk h.full
  have hlt1 : decide ((f : Int) < 0) = false := by simp
  have hlt2 : decide (k < f) = false := decide_eq_false (by omega)
  obtain ⟨N, hN⟩ : ∃ N, ps.flatten.length = N := ⟨_, rfl⟩
  have hlt3 : decide (N < k) = false := decide_eq_false (by omega)
  have HN := Aside0.mk hN
  have HS := Aside0.mk hs
  have HK := Aside0.mk hk
  have HQ : Aside0 ((cutS ps f).1.flatten.length = ps.flatten.length ∧ (cutS ps f).1.length ≤ ps.length + 1 ∧ (cutS (cutS ps f).1 k).1.length ≤ ps.length + 2 ∧ (cutS ps f).2 ≤ (cutS (cutS ps f).1 k).2 ∧ (cutS (cutS ps f).1 k).2 ≤ (cutS (cutS ps f).1 k).1.length) := ⟨⟨by rw [q1], q3, by omega, r5, r4⟩⟩
  clear h hr q1 q2 q3 q4 r1 r2 r3 r4 r5 hN hs hk
  go_enter Try.func19, Try.ntmps19
  go_wp2_with (first
    | (go_at_call 37; (with_reducible refine (none_calls_b HT.out).mono ?_); rintro e w' ⟨rfl, rfl⟩)
    | (go_at_call 25; (with_reducible refine (len_calls_b HT.out HS.out N HN.out).mono ?_); rintro e w' ⟨rfl, rfl⟩)
    | (go_at_call 39; (with_reducible refine (cut_calls_b HT.out f (by have := HK.out; omega) HS.out (by omega) hB).mono ?_); rintro e w1 ⟨rfl, v1, T1_, E1_, N1_⟩; have T1 := Aside0.mk T1_; have E1 := Aside0.mk E1_; have N1 := Aside0.mk N1_; clear T1_ E1_ N1_)
    | (go_at_call 39; (with_reducible refine (cut_calls_b T1.out k (by rw [HQ.out.1]; exact HK.out) (by rw [HQ.out.1]; exact HS.out) (by have := HQ.out; omega) (Nat.le_trans hB E1.out.size)).mono ?_); rintro e w2 ⟨rfl, v2, T2_, E2_, N2_⟩; have T2 := Aside0.mk T2_; have E2 := Aside0.mk E2_; have N2 := Aside0.mk N2_; obtain ⟨vs2, ho2, hr2⟩ := T2_.row; have O2 := Aside0.mk ho2; have R2 := Aside0.mk hr2; have X2 : Aside0 (∀ x ∈ vs2, x.oneCell' = true) := ⟨hr2.left fun _ _ hb => hb.one⟩; obtain ⟨-, k2, f2⟩ := T2_.cells; clear T2_ E2_ N2_ ho2 hr2)
    | (go_at_call 40; (with_reducible refine (del_calls_b B _ (cutS ps f).2 (cutS (cutS ps f).1 k).2 v2 vs2 _ O2.out HQ.out.2.2.2.1 HQ.out.2.2.2.2 (by have := HQ.out; omega) X2.out).mono ?_); rintro e w3 ⟨v3, rfl, ho3, hg3, ha3⟩; obtain ⟨A3, c3, rfl⟩ := own_slice ho3; have O3 := Aside0.mk ho3; have S3 := Aside0.mk hg3; have N3 := Aside0.mk ha3; have kk := slot_grown hg3 (fun e_ => (T2.out.ownB _ e_.symm).2.2 rfl) ⟨k2, f2⟩; obtain ⟨k3, f3⟩ := kk; have D3 := Aside0.mk (del_close_b T2.out O2.out R2.out _ _ HQ.out.2.2.2.1 HQ.out.2.2.2.2 ho3 hg3 ha3); clear ho3 hg3 ha3; obtain ⟨v4, T4_, E4_, N4_⟩ := D3.out; have T4 := Aside0.mk T4_; have N21 := Aside0.mk (own_chain N2.out N1.out E1.out.size); have E4 := Aside0.mk ((E1.out.trans E2.out N1.out).trans E4_ N21.out); have N4 := Aside0.mk (own_chain N4_ N21.out (Nat.le_trans E1.out.size E2.out.size)); clear T4_ E4_ N4_)
    | (go_at_call 36; (with_reducible refine (put_calls_b T4.out (cutS ps f).2 (by have := HQ.out; rw [List.length_append, List.length_take, List.length_drop]; omega) (by have := HQ.out; rw [List.length_append, List.length_take, List.length_drop]; omega) A c xs (C_mv_b HC.out (fun h0_ ad e_ h_ => E4.out.blk _ h_ (hA h0_ ad e_).1 (hA h0_ ad e_).2)) hx (Nat.le_trans hB E4.out.size)).mono ?_); rintro e w5 ⟨rfl, L5_⟩; have L5 := Aside0.mk L5_; clear L5_))
  go_ret
  refine ⟨rfl, ?_⟩
  obtain ⟨v5, T5, E5, N5⟩ := L5.out
  refine ⟨v5, T5.weaken fun g hg => hg.imp id fun hg => Nat.le_trans E4.out.size hg, E4.out.trans E5 N4.out, own_chain N5 N4.out E4.out.size⟩

set_option maxHeartbeats 4000000 in
set_option maxRecDepth 100000 in
theorem replace_no_b {B : Nat} {w : World} {t : Nat} {C : Nat → Prop} {v : Value} {ps : List (List Int)} (h : Tab_b B w t C v ps) (f k : Int) (hbad : ¬ (0 ≤ f ∧ f ≤ k ∧ k ≤ (ps.flatten.length : Int))) (hs : ps.flatten.length ≤ 4611686018427387904)
    (A : Option Addr) (n c : Nat) :
    Calls Try.prog 19 #[.pointer (some ⟨t, 0, none⟩), .int .i64 f, .int .i64 k, .slice A n c] w fun e w' => e = .returned (.int .i64 9) ∧ w = w' := by
  have HT := Aside0.mk h
  have HS := Aside0.mk hs
  obtain ⟨N, hN⟩ : ∃ N, ps.flatten.length = N := ⟨_, rfl⟩
  rw [hN] at hbad
  have HN := Aside0.mk hN
  clear h hs hN
  by_cases h1 : f < 0
  · have e1 : decide (f < 0) = true := decide_eq_true h1
    clear hbad
    go_enter Try.func19, Try.ntmps19
    go_wp2_with (first
      | (go_at_call 37; (with_reducible refine (none_calls_b HT.out).mono ?_); rintro e w' ⟨rfl, rfl⟩)
      | (go_at_call 25; (with_reducible refine (len_calls_b HT.out HS.out N HN.out).mono ?_); rintro e w' ⟨rfl, rfl⟩))
    all_goals (go_ret; exact ⟨rfl, rfl⟩)
  · have e1 : decide (f < 0) = false := decide_eq_false h1
    by_cases h2 : k < f
    · have e2 : decide (k < f) = true := decide_eq_true h2
      clear hbad
      go_enter Try.func19, Try.ntmps19
      go_wp2_with (first
        | (go_at_call 37; (with_reducible refine (none_calls_b HT.out).mono ?_); rintro e w' ⟨rfl, rfl⟩)
        | (go_at_call 25; (with_reducible refine (len_calls_b HT.out HS.out N HN.out).mono ?_); rintro e w' ⟨rfl, rfl⟩))
      all_goals (go_ret; exact ⟨rfl, rfl⟩)
    · have e2 : decide (k < f) = false := decide_eq_false h2
      have e3 : decide ((N : Int) < k) = true := decide_eq_true (by omega)
      clear hbad
      go_enter Try.func19, Try.ntmps19
      go_wp2_with (first
        | (go_at_call 37; (with_reducible refine (none_calls_b HT.out).mono ?_); rintro e w' ⟨rfl, rfl⟩)
        | (go_at_call 25; (with_reducible refine (len_calls_b HT.out HS.out N HN.out).mono ?_); rintro e w' ⟨rfl, rfl⟩))
      all_goals (go_ret; exact ⟨rfl, rfl⟩)
end Go.Proofs.Ytfedlanbmibhkaa.P
