/- slices.Replace of one slice in a row of slices by two. -/
import Derived.Test.YtfedlanbmibhkaaS3b
namespace Go.Proofs.Ytfedlanbmibhkaa.P
open Go.RowKit Go.Proofs.YtfedlanbmibhkaaW.PrintWords Go.Proofs.YtfedlanbmibhkaaW.PrintLast Go.Proofs.YtfedlanbmibhkaaW.PrintMore
set_option linter.unusedVariables false
set_option linter.unusedSimpArgs false
theorem lit2_b {w : World} {vb : Nat} {u u' : Value} (hv : w.heap[vb]? = some (.cells #[u, u'] 22 (0, 0))) : ∀ j x, [u, u'][j]? = some x → w.cell? ((⟨vb, 0, none⟩ : Addr).add j) = some x := fun j x hx => by rw [add_plain, blk_cell hv j]; simpa using hx

set_option maxHeartbeats 2000000 in
set_option maxRecDepth 100000 in
theorem repl_end_b (base g cap i vb : Nat) (cur : Array Value) (vs : List Value) (u u' : Value) (w : World) (hR : RowAt w base g (i + 1) cap 22 cur vs) (hn : i + 1 ≤ 1000000)
    (hv : w.heap[vb]? = some (.cells #[u, u'] 22 (0, 0))) (h1u : u.oneCell' = true) (h1u' : u'.oneCell' = true) (hb : base ≤ w.heap.size) :
    Calls Try.prog 51 #[.slice (some ⟨g, 0, none⟩) (i + 1) cap, .int .i64 i, .int .i64 ((i : Int) + 1), .slice (some ⟨vb, 0, none⟩) 2 2] w (Ins_b base (some g) w (i + 1 + 1) (vs.take i ++ [u, u'])) := by
  obtain ⟨i0, hi, hz0, hz1, hz2⟩ := info_parts infoE_b
  have HI := Aside0.mk hi
  have HV := Aside0.mk (lit2_b hv)
  have HB := Aside0.mk hz2
  have HO := Aside0.mk (own_take (m := i) hR.own (by omega))
  have hcm := hR.cm
  have hnc := hR.nc
  have hne1 : ((i : Int) == (i : Int) + 1) = false := by simp; omega
  have hi1 : (i : Int) ≤ (i : Int) + 1 := by omega
  have hi0 : (0 : Int) ≤ (i : Int) + 1 := by omega
  have htn : ((i : Int) + 1).toNat = i + 1 := by omega
  have hc1 : ¬ (cap = i) := by omega
  have hls : decide (i + 2 < i + 1) = false := by simp
  clear hR hv hi hz2
  go_enter Try.func51, Try.ntmps51
  go_wp2_with (at_builtin; refine list_of rfl (fun K_ hK_ => ?_); refine wp_append_w _ _ 69 rfl base 22 i0 (.slice none 0 0) Try.underlying69 HI.out hz0 hz1 rfl _ i _ rfl HO.out ⟨vb, 0, none⟩ 2 2 [u, u'] rfl rfl HV.out (by simp [h1u, h1u']) (by omega) (by rw [HB.out]; omega) hb ?_; intro v' w1 ho1 hg1 ha1; obtain ⟨A1, c1, rfl⟩ := own_slice ho1; refine hK_ _ _ ?_; clear hK_)
  all_goals go_ret
  all_goals exact ⟨_, rfl, by rw [Nat.mul_one] at ho1; exact ho1, hg1, ha1⟩

set_option maxHeartbeats 2000000 in
set_option maxRecDepth 100000 in
theorem repl_grow_b (base g n cap i vb : Nat) (cur : Array Value) (vs : List Value) (u u' : Value) (w : World) (hR : RowAt w base g n cap 22 cur vs) (hi : i + 1 < n) (hn : n ≤ 1000000) (hroom : cap < n + 1)
    (hv : w.heap[vb]? = some (.cells #[u, u'] 22 (0, 0))) (h1 : ∀ x ∈ vs, x.oneCell' = true) (h1u : u.oneCell' = true) (h1u' : u'.oneCell' = true) (hb : base ≤ w.heap.size) :
    Calls Try.prog 51 #[.slice (some ⟨g, 0, none⟩) n cap, .int .i64 i, .int .i64 ((i : Int) + 1), .slice (some ⟨vb, 0, none⟩) 2 2] w (Ins_b base (some g) w (n + 1) (vs.take i ++ [u, u'] ++ vs.drop (i + 1))) := by
  obtain ⟨i0, hi0, hz0, hz1, hz2⟩ := info_parts infoE_b
  have HI := Aside0.mk hi0
  have HV := Aside0.mk hv
  have HR := Aside0.mk hR
  have H1 := Aside0.mk h1
  have HB := Aside0.mk hz2
  have hnc := hR.nc
  have hcm := hR.cm
  have hne0 : ((i : Int) == (i : Int) + 1) = false := by simp; omega
  have hne1 : ((i : Int) + 1 == (n : Int)) = false := by simp; omega
  have hi1 : (i : Int) ≤ (i : Int) + 1 := by omega
  have hi2 : (i : Int) + 1 ≤ (n : Int) := by omega
  have hi3 : (0 : Int) ≤ (i : Int) + 1 := by omega
  have hc1 : ¬ (cap = i) := by omega
  have hc2 : ¬ (cap = i + 1) := by omega
  have htn : ((i : Int) + 1).toNat = i + 1 := by omega
  have HN : Aside0 (i + 1 < n ∧ n ≤ 1000000 ∧ cap < n + 1) := ⟨⟨hi, hn, hroom⟩⟩
  have HG := Aside0.mk (blk_lt hR.blk)
  clear hR hv h1 hi0 hz2
  go_enter Try.func51, Try.ntmps51
  go_wp2_with fail
  have hq1 : IntKind.i64.wrap ((i : Int) + 2) = (i : Int) + 2 := by rw [IntKind.wrap_i64]; have := HN.out; omega
  have hq2 : IntKind.i64.wrap ((i : Int) + 2 + ((n - (i + 1) : Nat) : Int)) = (n : Int) + 1 := by rw [IntKind.wrap_i64]; have := HN.out; omega
  go_quiet (fail)
  clear hq1 hq2
  generalize hwq : w.drewN nq = wq
  have HRq := Aside0.mk (HR.out.move (w' := wq) (by rw [← hwq]; rfl))
  have HVq : Aside0 (wq.heap[vb]? = some (.cells #[u, u'] 22 (0, 0))) := ⟨by rw [← hwq]; exact HV.out⟩
  have HGq := Aside0.mk (blk_lt HRq.out.blk)
  have SQ : Aside0 (Below w.heap.size w wq) := ⟨by rw [← hwq]; exact pw_below_drewN (Below.refl _ _) nq⟩
  have hbq : base ≤ wq.heap.size := by rw [← hwq]; exact hb
  clear hwq HR HV HG hb
  have hz3 : decide ((cap : Int) < (n : Int) + 1) = true := by have := HN.out; simp; omega
  have hkk : (n : Int) + 1 - (i : Int) = ((n + 1 - i : Nat) : Int) := by have := HN.out; omega
  have HK := Aside0.mk hkk
  have hw1 : IntKind.i64.wrap ((i : Int) + 2) = (i : Int) + 2 := by rw [IntKind.wrap_i64]; have := HN.out; omega
  have hj1 : (0 : Int) ≤ (i : Int) + 2 := by omega
  have hj2 : (i : Int) + 2 ≤ (n : Int) + 1 := by omega
  have hj3 : (i : Int) ≤ (n : Int) + 1 := by omega
  have hj4 : (i : Int) ≤ (n : Int) := by omega
  have htn2 : ((i : Int) + 2).toNat = i + 2 := by omega
  clear hkk
  go_wp2_with (first
    | (at_builtin; refine list_of rfl (fun K_ hK_ => ?_); refine wp_zeros_w _ _ 69 3 rfl 22 i0 (.slice none 0 0) .i64 .i64 Try.underlying69 Try.underlying3 HI.out hz0 hz1 rfl g i cap (n + 1 - i) rfl (by rw [← HK.out]; rfl) (vs.take i) (by rw [List.length_take, HRq.out.len]; have := HN.out; omega) (fun j x hj => HRq.out.cell j x (by rw [List.getElem?_take] at hj; split at hj; exact hj; cases hj)) (n + 1) (by have := HN.out; omega) (by have := HN.out; omega) (by have := HN.out; omega) (by rw [HB.out]; have := HN.out; omega) (by rw [HB.out]; decide) ?_; intro w1 c1 cur1 hb1_ hs1_ hc1_ hm1_ ht1_ hbel_ hlt_; have B1 := Aside0.mk hb1_; have C1 := Aside0.mk hs1_; have T1 := Aside0.mk ht1_; have S1 := Aside0.mk hbel_; have L1 := Aside0.mk hlt_; clear hb1_ hs1_ ht1_ hbel_ hlt_; have hc3 : ¬ (c1 = i) := (by omega); have hc4 : ¬ (c1 = i + 2) := (by omega); refine hK_ _ _ ?_; clear hK_)
    | ((with_reducible refine gate_dst (N := 72) rfl ?_); refine list_of rfl (fun K_ hK_ => ?_); refine wp_copy_w (.tmp 70) (.tmp 71) 69 rfl 22 Try.underlying69 sizeE_b wq.heap.size i (n + 1 - i) (c1 - i) cur1 rfl ⟨vb, 0, none⟩ 2 2 rfl [u, u'] (by have := HN.out; simp only [List.length_cons, List.length_nil, Nat.min_def]; split <;> omega) B1.out (lit2_b ((S1.out.block vb (blk_lt HVq.out)).trans HVq.out)) (by have := HN.out; have := C1.out; simp only [List.length_cons, List.length_nil]; omega) (by simp [h1u, h1u']) ?_; intro w2 cur2 hb2_ hs2_ ht2_ hg2_; have B2 := Aside0.mk hb2_; have C2 := Aside0.mk hs2_; have T2 := Aside0.mk ht2_; have S2 := Aside0.mk hg2_; clear hb2_ hs2_ ht2_ hg2_; refine hK_ _ _ ?_; clear hK_))
  go_region_law ((refine step_of rfl ?_; refine wp_copy_w (.tmp 78) (.tmp 81) 69 rfl 22 Try.underlying69 sizeE_b wq.heap.size (i + 2) (n + 1 - (i + 2)) (c1 - (i + 2)) cur2 (by simp [Act.eval, Act.put]) ⟨g, i + 1, none⟩ (n - (i + 1)) (cap - (i + 1)) (by simp [Act.eval, Act.put]) (vs.drop (i + 1)) (by have := HN.out; rw [List.length_drop, HRq.out.len]; simp only [Nat.min_def]; split <;> omega) B2.out ?c1 ?c2 (fun x hx => H1.out x (List.mem_of_mem_drop hx)) ?_; (case c1 => intro j x hj; rw [add_at]; exact (HRq.out.move ((S2.out.block g (by have := HGq.out; have := L1.out; omega) (by have := HGq.out; intro e_; injection e_ with e_; omega)).trans (S1.out.block g HGq.out))).cell (i + 1 + j) x (by rwa [List.getElem?_drop] at hj)); (case c2 => have := HN.out; rw [List.length_drop, HRq.out.len, C2.out, C1.out]; omega); intro w3 cur3 hb3_ hs3_ ht3_ hg3_; have B3 := Aside0.mk hb3_; have C3 := Aside0.mk hs3_; have T3 := Aside0.mk ht3_; have S3 := Aside0.mk hg3_; clear hb3_ hs3_ ht3_ hg3_))
  go_wp2
  go_ret
  have hgs := grown_trans (grown_trans (grown_trans (grown_of_below SQ.out (some g)) (grown_of_below S1.out (some g)) (.inl rfl)) S2.out (.inr ⟨_, rfl, SQ.out.size⟩)) (grown_drew S3.out) (.inr ⟨_, rfl, SQ.out.size⟩)
  refine ⟨_, rfl, RowAt.own (cur := cur3) ⟨hbq, B3.out, hc1_, hm1_, by rw [C3.out, C2.out, C1.out], ?_, ?_⟩, hgs, .inr ⟨_, rfl, SQ.out.size⟩⟩
  · have := HN.out
    exact two_grow (us := [u, u']) (i := i) (j := i + 1) (m := n + 1) (by rw [HRq.out.len]; omega) (show i + 2 ≤ cur1.toList.length from by rw [Array.length_toList, C1.out]; omega) T1.out T2.out T3.out (show n + 1 = i + 2 + (vs.length - (i + 1)) from by rw [HRq.out.len]; omega)
  · have := HN.out
    simp only [List.length_append, List.length_take, List.length_cons, List.length_nil, List.length_drop, HRq.out.len]; omega

set_option maxHeartbeats 2000000 in
set_option maxRecDepth 100000 in
theorem repl_room_b (base g n cap i vb : Nat) (cur : Array Value) (vs : List Value) (u u' : Value) (w : World) (hR : RowAt w base g n cap 22 cur vs) (hi : i + 1 < n) (hn : n ≤ 1000000) (hroom : n + 1 ≤ cap)
    (hv : w.heap[vb]? = some (.cells #[u, u'] 22 (0, 0))) (hne : vb ≠ g) (h1 : ∀ x ∈ vs, x.oneCell' = true) (h1u : u.oneCell' = true) (h1u' : u'.oneCell' = true) :
    Calls Try.prog 51 #[.slice (some ⟨g, 0, none⟩) n cap, .int .i64 i, .int .i64 ((i : Int) + 1), .slice (some ⟨vb, 0, none⟩) 2 2] w (Ins_b base (some g) w (n + 1) (vs.take i ++ [u, u'] ++ vs.drop (i + 1))) := by
  have HV := Aside0.mk hv
  have HR := Aside0.mk hR
  have H1 := Aside0.mk h1
  have HE := Aside0.mk hne
  have hnc := hR.nc
  have hcm := hR.cm
  have hne0 : ((i : Int) == (i : Int) + 1) = false := by simp; omega
  have hne1 : ((i : Int) + 1 == (n : Int)) = false := by simp; omega
  have hi1 : (i : Int) ≤ (i : Int) + 1 := by omega
  have hi2 : (i : Int) + 1 ≤ (n : Int) := by omega
  have hi3 : (0 : Int) ≤ (i : Int) + 1 := by omega
  have hc1 : ¬ (cap = i) := by omega
  have hc2 : ¬ (cap = i + 1) := by omega
  have hc3 : ¬ (cap = i + 2) := by omega
  have htn : ((i : Int) + 1).toNat = i + 1 := by omega
  have HN : Aside0 (i + 1 < n ∧ n ≤ 1000000 ∧ n + 1 ≤ cap) := ⟨⟨hi, hn, hroom⟩⟩
  clear hR hv h1 hne
  go_enter Try.func51, Try.ntmps51
  go_wp2_with fail
  have hq1 : IntKind.i64.wrap ((i : Int) + 2) = (i : Int) + 2 := by rw [IntKind.wrap_i64]; have := HN.out; omega
  have hq2 : IntKind.i64.wrap ((i : Int) + 2 + ((n - (i + 1) : Nat) : Int)) = (n : Int) + 1 := by rw [IntKind.wrap_i64]; have := HN.out; omega
  go_quiet (fail)
  clear hq1 hq2
  generalize hwq : w.drewN nq = wq
  have HRq := Aside0.mk (HR.out.move (w' := wq) (by rw [← hwq]; rfl))
  have HVq : Aside0 (wq.heap[vb]? = some (.cells #[u, u'] 22 (0, 0))) := ⟨by rw [← hwq]; exact HV.out⟩
  have SQ : Aside0 (Below w.heap.size w wq) := ⟨by rw [← hwq]; exact pw_below_drewN (Below.refl _ _) nq⟩
  clear hwq HR HV
  have hz3 : decide ((cap : Int) < (n : Int) + 1) = false := by have := HN.out; simp; omega
  have hz4 : decide ((i : Int) + 2 ≤ (i : Int) + 1) = false := by simp
  have hw1 : IntKind.i64.wrap ((i : Int) + 2) = (i : Int) + 2 := by rw [IntKind.wrap_i64]; have := HN.out; omega
  have hj1 : (0 : Int) ≤ (i : Int) + 2 := by omega
  have hj2 : (i : Int) + 2 ≤ (n : Int) + 1 := by omega
  have hj3 : (i : Int) ≤ (n : Int) + 1 := by omega
  have hj4 : (i : Int) ≤ (n : Int) := by omega
  have htn2 : ((i : Int) + 2).toNat = i + 2 := by omega
  have HO : Aside0 (∀ o1 la ca, (callFunc 55 #[.slice (some ⟨g, o1, none⟩) la ca, .slice (some ⟨vb, 0, none⟩) 2 2]).run Try.prog wq = .ok (.value (.bool false)) wq) := ⟨fun o1 la ca => overlaps_b wq g o1 vb 0 la ca 2 2 0 0 22 22 (Ne.symm HE.out) _ _ HRq.out.blk HVq.out (by simp)⟩
  go_wp2_with (simp only [HO.out])
  go_region_law ((refine step_of rfl ?_; refine wp_copy_w (.tmp 126) (.tmp 129) 69 rfl 22 Try.underlying69 sizeE_b g (i + 2) (n + 1 - (i + 2)) (cap - (i + 2)) cur (by simp [Act.eval, Act.put]) ⟨g, i + 1, none⟩ (n - (i + 1)) (cap - (i + 1)) (by simp [Act.eval, Act.put]) (vs.drop (i + 1)) (by have := HN.out; rw [List.length_drop, HRq.out.len]; simp only [Nat.min_def]; split <;> omega) HRq.out.blk ?c1 ?c2 (fun x hx => H1.out x (List.mem_of_mem_drop hx)) ?_; (case c1 => intro j x hj; rw [add_at]; exact HRq.out.cell (i + 1 + j) x (by rwa [List.getElem?_drop] at hj)); (case c2 => have := HN.out; rw [List.length_drop, HRq.out.len, HRq.out.cs]; omega); intro w1 cur1 hb1_ hs1_ ht1_ hg1_; have B1 := Aside0.mk hb1_; have C1 := Aside0.mk hs1_; have T1 := Aside0.mk ht1_; have S1 := Aside0.mk (grown_drew hg1_); clear hb1_ hs1_ ht1_ hg1_))
  go_wp2_with ((with_reducible refine gate_dst (N := 135) rfl ?_); refine list_of rfl (fun K_ hK_ => ?_); refine wp_copy_w (.tmp 133) (.tmp 134) 69 rfl 22 Try.underlying69 sizeE_b g i (n + 1 - i) (cap - i) cur1 rfl ⟨vb, 0, none⟩ 2 2 rfl [u, u'] (by have := HN.out; simp only [List.length_cons, List.length_nil, Nat.min_def]; split <;> omega) B1.out (lit2_b ((S1.out.block vb (blk_lt HVq.out) (by have := HE.out; intro e_; injection e_ with e_; exact this e_)).trans HVq.out)) (by have := HN.out; have := HRq.out.cs; rw [C1.out]; simp only [List.length_cons, List.length_nil]; omega) (by simp [h1u, h1u']) ?_; intro w2 cur2 hb2_ hs2_ ht2_ hg2_; have B2 := Aside0.mk hb2_; have C2 := Aside0.mk hs2_; have T2 := Aside0.mk ht2_; have S2 := Aside0.mk hg2_; clear hb2_ hs2_ ht2_ hg2_; refine hK_ _ _ ?_; clear hK_)
  go_ret
  have hgs := grown_trans (grown_trans (grown_of_below SQ.out (some g)) S1.out (.inl rfl)) S2.out (.inl rfl)
  refine ⟨_, rfl, RowAt.own (cur := cur2) ⟨HRq.out.lo, B2.out, hroom, hcm, by rw [C2.out, C1.out, HRq.out.cs], ?_, ?_⟩, hgs, .inl rfl⟩
  · have := HN.out
    exact two_room (us := [u, u']) (i := i) (j := i + 1) (n := n) (m := n + 1) (by omega) HRq.out.len (show i + 2 + (n - (i + 1)) ≤ cur.toList.length from by rw [Array.length_toList, HRq.out.cs]; omega) HRq.out.tk T1.out T2.out (show n + 1 = i + 2 + (n - (i + 1)) from by omega)
  · have := HN.out
    simp only [List.length_append, List.length_take, List.length_cons, List.length_nil, List.length_drop, HRq.out.len]; omega
theorem repl_calls_b (base n i vb : Nat) (v : Value) (vs : List Value) (u u' : Value) (w : World) (hown : w.ownsRow base 22 1 v n vs) (hi : i < n) (hn : n ≤ 1000000)
    (hv : w.heap[vb]? = some (.cells #[u, u'] 22 (0, 0))) (hne : some vb ≠ v.ownBlock) (h1 : ∀ x ∈ vs, x.oneCell' = true) (h1u : u.oneCell' = true) (h1u' : u'.oneCell' = true) (hb : base ≤ w.heap.size) :
    Calls Try.prog 51 #[v, .int .i64 i, .int .i64 ((i : Int) + 1), .slice (some ⟨vb, 0, none⟩) 2 2] w (Ins_b base v.ownBlock w (n + 1) (vs.take i ++ [u, u'] ++ vs.drop (i + 1))) := by
  rcases own_rowAt hown with ⟨rfl, rfl, rfl⟩ | ⟨g, cap, cur, rfl, hR⟩
  · omega
  · by_cases hin : i + 1 = n
    · subst hin
      rw [List.drop_eq_nil_of_le (by have := hR.len; omega), List.append_nil]
      exact repl_end_b base g cap i vb cur vs u u' w hR hn hv h1u h1u' hb
    · by_cases hroom : n + 1 ≤ cap
      · exact repl_room_b base g n cap i vb cur vs u u' w hR (by omega) hn hroom hv (fun e => hne (by rw [e]; rfl)) h1 h1u h1u'
      · exact repl_grow_b base g n cap i vb cur vs u u' w hR (by omega) hn (by omega) hv h1 h1u h1u' hb
end Go.Proofs.Ytfedlanbmibhkaa.P
