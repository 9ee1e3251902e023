/- slices.Insert of one value into a row of slices: what is left is told of the row alone. -/
import Derived.Test.YtfedlanbmibhkaaSX
namespace Go.Proofs.Ytfedlanbmibhkaa.P
open Go.RowKit Go.Proofs.YtfedlanbmibhkaaW.PrintWords Go.Proofs.YtfedlanbmibhkaaW.PrintLast Go.Proofs.YtfedlanbmibhkaaW.PrintMore
set_option linter.unusedVariables false
set_option linter.unusedSimpArgs false

theorem infoE_b : (Try.prog.info? 22).map (fun i => (i.zero, i.size, i.bytes)) = some (some (.slice none 0 0), 1, 24) := by kernel_rfl
theorem sizeE_b : (Try.prog.info? 22).map (·.size) = some 1 := by kernel_rfl
theorem zeroE_b : ∀ w, (zeroValue 22).run Try.prog w = .ok (.slice none 0 0) w := fun w => by kernel_rfl
theorem sizeOfE_b : ∀ w, (Go.sizeOf 22).run Try.prog w = .ok 1 w := fun w => by kernel_rfl
theorem overlaps_b (w : World) (vb o1 b o2 la ca lb cb kA kB : Nat) (tA tB : TypeId) (hne : vb ≠ b) (cA cB : Array Value) (hA : w.heap[vb]? = some (.cells cA tA (0, 0))) (hB : w.heap[b]? = some (.cells cB tB (0, 0))) (hk : 0 < cB.size) :
    (callFunc 55 #[.slice (some ⟨vb, o1, none⟩) la ca, .slice (some ⟨b, o2, none⟩) lb cb]).run Try.prog w = .ok (.value (.bool false)) w := by
  rw [run_callFunc_extern Try.func55 (by kernel_rfl) (by kernel_rfl) (by kernel_rfl) (e := Extern.SlicesOverlaps.overlaps #[69, 69] #[4]) (by kernel_rfl),
    Lib.run_overlaps_apart w 69 4 22 Try.underlying69 1 sizeOfE_b ⟨vb, o1, none⟩ ⟨b, o2, none⟩ la ca lb cb hne tA tB cA.size cB.size (by simp [World.shape?, hA]) (by simp [World.shape?, hB]) (by omega) (blk_frozen hA _) (blk_frozen hA _)]
  rfl

theorem lit1_b {w : World} {vb : Nat} {u : Value} (hv : w.heap[vb]? = some (.cells #[u] 22 (0, 0))) : ∀ j x, [u][j]? = some x → w.cell? ((⟨vb, 0, none⟩ : Addr).add j) = some x := fun j x hx => by rw [add_plain, blk_cell hv j]; simpa using hx
/-- what an insertion leaves -/
def Ins_b (base : Nat) (own : Option Nat) (w : World) (n : Nat) (xs : List Value) (e : Ending) (w' : World) : Prop :=
  ∃ v', e = .returned v' ∧ w'.ownsRow base 22 1 v' n xs ∧ w.grownBy w' own ∧ (v'.ownBlock = own ∨ ∃ b, v'.ownBlock = some b ∧ w.heap.size ≤ b)

set_option maxHeartbeats 2000000 in
set_option maxRecDepth 100000 in
theorem insert_end_b (base n vb : Nat) (v : Value) (vs : List Value) (u : Value) (w : World) (hown : w.ownsRow base 22 1 v n vs) (hn : n ≤ 1000000)
    (hv : w.heap[vb]? = some (.cells #[u] 22 (0, 0))) (h1u : u.oneCell' = true) (hb : base ≤ w.heap.size) :
    Calls Try.prog 49 #[v, .int .i64 n, .slice (some ⟨vb, 0, none⟩) 1 1] w (Ins_b base v.ownBlock w (n + 1) (vs ++ [u])) := by
  obtain ⟨i0, hi, hz0, hz1, hz2⟩ := info_parts infoE_b
  have HI := Aside0.mk hi
  have HO := Aside0.mk hown
  have HV := Aside0.mk (lit1_b hv)
  have HB := Aside0.mk hz2
  rcases hown.2 with ⟨rfl, rfl⟩ | ⟨g, cap, cur, rfl, hgb, hg, hnc, hcm, hcs, ht⟩
  · clear hown hv hi hz2
    go_enter Try.func49, Try.ntmps49
    go_wp2_with (at_builtin; refine list_of rfl (fun K_ hK_ => ?_); refine wp_append_w _ _ 69 rfl base 22 i0 (.slice none 0 0) Try.underlying69 HI.out hz0 hz1 rfl _ _ _ rfl HO.out ⟨vb, 0, none⟩ 1 1 [u] rfl rfl HV.out (by simpa using h1u) (by omega) (by rw [HB.out]; omega) hb ?_; intro v' w1 ho1 hg1 ha1; refine hK_ _ _ ?_; clear hK_)
    go_ret
    exact ⟨v', rfl, ho1, hg1, ha1⟩
  · have hcm' : cap ≤ 9223372036854775807 := hcm
    clear hown hv hi hz2 hg hcm hcs ht
    go_enter Try.func49, Try.ntmps49
    go_wp2_with (at_builtin; refine list_of rfl (fun K_ hK_ => ?_); refine wp_append_w _ _ 69 rfl base 22 i0 (.slice none 0 0) Try.underlying69 HI.out hz0 hz1 rfl _ _ _ rfl HO.out ⟨vb, 0, none⟩ 1 1 [u] rfl rfl HV.out (by simpa using h1u) (by omega) (by rw [HB.out]; omega) hb ?_; intro v' w1 ho1 hg1 ha1; refine hK_ _ _ ?_; clear hK_)
    all_goals go_ret
    all_goals exact ⟨v', rfl, ho1, hg1, ha1⟩

set_option maxHeartbeats 2000000 in
set_option maxRecDepth 100000 in
theorem insert_grow_b (base g n cap i vb : Nat) (cur : Array Value) (vs : List Value) (u : Value) (w : World) (hR : RowAt w base g n cap 22 cur vs) (hi : i < n) (hn : n ≤ 1000000) (hroom : cap < n + 1)
    (hv : w.heap[vb]? = some (.cells #[u] 22 (0, 0))) (h1 : ∀ x ∈ vs, x.oneCell' = true) (h1u : u.oneCell' = true) (hb : base ≤ w.heap.size) :
    Calls Try.prog 49 #[.slice (some ⟨g, 0, none⟩) n cap, .int .i64 i, .slice (some ⟨vb, 0, none⟩) 1 1] w (Ins_b base (some g) w (n + 1) (vs.take i ++ u :: vs.drop i)) := by
  obtain ⟨i0, hi0, hz0, hz1, hz2⟩ := info_parts infoE_b
  have HI := Aside0.mk hi0
  have HV := Aside0.mk hv
  have HR := Aside0.mk hR
  have H1 := Aside0.mk h1
  have HB := Aside0.mk hz2
  have hnc := hR.nc
  have hcm := hR.cm
  have hne1 : ((i : Int) == (n : Int)) = false := by simp; omega
  have hz3 : decide ((cap : Int) < (n : Int) + 1) = true := by simp; omega
  have hkk : (n : Int) + 1 - (i : Int) = ((n + 1 - i : Nat) : Int) := by omega
  have HK := Aside0.mk hkk
  have hw1 : IntKind.i64.wrap ((i : Int) + 1) = (i : Int) + 1 := by rw [IntKind.wrap_i64]; omega
  have hb1 : (0 : Int) ≤ (i : Int) + 1 := by omega
  have hi1 : (i : Int) ≤ (n : Int) := by omega
  have hi2 : (i : Int) + 1 ≤ (n : Int) + 1 := by omega
  have hc1 : ¬ (cap = i) := by omega
  have htn : ((i : Int) + 1).toNat = i + 1 := by omega
  have HN : Aside0 (i < n ∧ n ≤ 1000000 ∧ cap < n + 1) := ⟨⟨hi, hn, hroom⟩⟩
  have HG := Aside0.mk (blk_lt hR.blk)
  clear hR hv h1 hi0 hz2 hkk
  go_enter Try.func49, Try.ntmps49
  go_wp2_with (first
    | (at_builtin; refine list_of rfl (fun K_ hK_ => ?_); refine wp_zeros_w _ _ 69 3 rfl 22 i0 (.slice none 0 0) .i64 .i64 Try.underlying69 Try.underlying3 HI.out hz0 hz1 rfl g i cap (n + 1 - i) rfl (by rw [← HK.out]; rfl) (vs.take i) (by rw [List.length_take, HR.out.len]; have := HN.out; omega) (fun j x hj => HR.out.cell j x (by rw [List.getElem?_take] at hj; split at hj; exact hj; cases hj)) (n + 1) (by have := HN.out; omega) (by have := HN.out; omega) (by have := HN.out; omega) (by rw [HB.out]; have := HN.out; omega) (by rw [HB.out]; decide) ?_; intro w1 c1 cur1 hb1_ hs1_ hc1_ hm1_ ht1_ hbel_ hlt_; have B1 := Aside0.mk hb1_; have C1 := Aside0.mk hs1_; have T1 := Aside0.mk ht1_; have S1 := Aside0.mk hbel_; have L1 := Aside0.mk hlt_; clear hb1_ hs1_ ht1_ hbel_ hlt_; have hc2 : ¬ (c1 = i) := (by omega); have hc3 : ¬ (c1 = i + 1) := (by omega); refine hK_ _ _ ?_; clear hK_)
    | ((with_reducible refine gate_dst (N := 45) rfl ?_); refine list_of rfl (fun K_ hK_ => ?_); refine wp_copy_w (.tmp 43) (.tmp 44) 69 rfl 22 Try.underlying69 sizeE_b w.heap.size i (n + 1 - i) (c1 - i) cur1 rfl ⟨vb, 0, none⟩ 1 1 rfl [u] (by have := HN.out; simp only [List.length_singleton, Nat.min_def]; split <;> omega) B1.out (lit1_b ((S1.out.block vb (blk_lt HV.out)).trans HV.out)) (by have := HN.out; have := C1.out; simp only [List.length_singleton]; omega) (by simpa using h1u) ?_; intro w2 cur2 hb2_ hs2_ ht2_ hg2_; have B2 := Aside0.mk hb2_; have C2 := Aside0.mk hs2_; have T2 := Aside0.mk ht2_; have S2 := Aside0.mk hg2_; clear hb2_ hs2_ ht2_ hg2_; refine hK_ _ _ ?_; clear hK_))
  go_region_law ((refine step_of rfl ?_; refine wp_copy_w (.tmp 50) (.tmp 53) 69 rfl 22 Try.underlying69 sizeE_b w.heap.size (i + 1) (n + 1 - (i + 1)) (c1 - (i + 1)) cur2 (by simp [Act.eval, Act.put]) ⟨g, i, none⟩ (n - i) (cap - i) (by simp [Act.eval, Act.put]) (vs.drop i) (by have := HN.out; rw [List.length_drop, HR.out.len]; simp only [Nat.min_def]; split <;> omega) B2.out ?c1 ?c2 (fun x hx => H1.out x (List.mem_of_mem_drop hx)) ?_; (case c1 => intro j x hj; rw [add_at]; exact (HR.out.move ((S2.out.block g (by have := HG.out; have := L1.out; omega) (by have := HG.out; intro e_; injection e_ with e_; omega)).trans (S1.out.block g HG.out))).cell (i + j) x (by rwa [List.getElem?_drop] at hj)); (case c2 => have := HN.out; rw [List.length_drop, HR.out.len, C2.out, C1.out]; omega); intro w3 cur3 hb3_ hs3_ ht3_ hg3_; have B3 := Aside0.mk hb3_; have C3 := Aside0.mk hs3_; have T3 := Aside0.mk ht3_; have S3 := Aside0.mk hg3_; clear hb3_ hs3_ ht3_ hg3_))
  go_wp2
  go_ret
  have hgs := grown_trans (grown_trans (grown_of_below S1.out (some g)) S2.out (.inr ⟨_, rfl, Nat.le_refl _⟩)) (grown_drew S3.out) (.inr ⟨_, rfl, Nat.le_refl _⟩)
  refine ⟨_, rfl, RowAt.own (cur := cur3) ⟨hb, B3.out, hc1_, hm1_, by rw [C3.out, C2.out, C1.out], ?_, ?_⟩, hgs, .inr ⟨_, rfl, Nat.le_refl _⟩⟩
  · have := HN.out
    have h := two_grow (us := [u]) (i := i) (j := i) (m := n + 1) (by rw [HR.out.len]; omega) (show i + 1 ≤ cur1.toList.length from by rw [Array.length_toList, C1.out]; omega) T1.out T2.out T3.out (show n + 1 = i + 1 + (vs.length - i) from by rw [HR.out.len]; omega)
    rw [h, List.append_assoc]; rfl
  · have := HN.out
    rw [List.length_append, List.length_take, List.length_cons, List.length_drop, HR.out.len]; omega

set_option maxHeartbeats 2000000 in
set_option maxRecDepth 100000 in
theorem insert_room_b (base g n cap i vb : Nat) (cur : Array Value) (vs : List Value) (u : Value) (w : World) (hR : RowAt w base g n cap 22 cur vs) (hi : i < n) (hn : n ≤ 1000000) (hroom : n + 1 ≤ cap)
    (hv : w.heap[vb]? = some (.cells #[u] 22 (0, 0))) (hne : vb ≠ g) (h1 : ∀ x ∈ vs, x.oneCell' = true) (h1u : u.oneCell' = true) :
    Calls Try.prog 49 #[.slice (some ⟨g, 0, none⟩) n cap, .int .i64 i, .slice (some ⟨vb, 0, none⟩) 1 1] w (Ins_b base (some g) w (n + 1) (vs.take i ++ u :: vs.drop i)) := by
  have HV := Aside0.mk hv
  have HR := Aside0.mk hR
  have H1 := Aside0.mk h1
  have hcm := hR.cm
  have hne1 : ((i : Int) == (n : Int)) = false := by simp; omega
  have hz3 : decide ((cap : Int) < (n : Int) + 1) = false := by simp; omega
  have hw1 : IntKind.i64.wrap ((i : Int) + 1) = (i : Int) + 1 := by rw [IntKind.wrap_i64]; omega
  have hb1 : (0 : Int) ≤ (i : Int) + 1 := by omega
  have hi1 : (i : Int) ≤ (n : Int) := by omega
  have hi2 : (i : Int) + 1 ≤ (n : Int) + 1 := by omega
  have hi3 : (i : Int) ≤ (n : Int) + 1 := by omega
  have hc1 : ¬ (cap = i) := by omega
  have hc2 : ¬ (cap = i + 1) := by omega
  have htn : ((i : Int) + 1).toNat = i + 1 := by omega
  have HN : Aside0 (i < n ∧ n ≤ 1000000 ∧ n + 1 ≤ cap) := ⟨⟨hi, hn, hroom⟩⟩
  have hov : ∀ o2 lb cb, (callFunc 55 #[.slice (some ⟨vb, 0, none⟩) 1 1, .slice (some ⟨g, o2, none⟩) lb cb]).run Try.prog w = .ok (.value (.bool false)) w := fun o2 lb cb => overlaps_b w vb 0 g o2 1 1 lb cb 0 0 22 22 hne _ _ hv hR.blk (by rw [hR.cs]; omega)
  have HO := Aside0.mk hov
  have HE := Aside0.mk hne
  clear hR hv h1 hov hne
  go_enter Try.func49, Try.ntmps49
  go_wp2_with (simp only [HO.out])
  go_region_law ((refine step_of rfl ?_; refine wp_copy_w (.tmp 73) (.tmp 76) 69 rfl 22 Try.underlying69 sizeE_b g (i + 1) (n + 1 - (i + 1)) (cap - (i + 1)) cur (by simp [Act.eval, Act.put]) ⟨g, i, none⟩ (n + 1 - i) (cap - i) (by simp [Act.eval, Act.put]) (vs.drop i) (by have := HN.out; rw [List.length_drop, HR.out.len]; simp only [Nat.min_def]; split <;> omega) HR.out.blk ?c1 ?c2 (fun x hx => H1.out x (List.mem_of_mem_drop hx)) ?_; (case c1 => intro j x hj; rw [add_at]; exact HR.out.cell (i + j) x (by rwa [List.getElem?_drop] at hj)); (case c2 => have := HN.out; rw [List.length_drop, HR.out.len, HR.out.cs]; omega); intro w1 cur1 hb1_ hs1_ ht1_ hg1_; have B1 := Aside0.mk hb1_; have C1 := Aside0.mk hs1_; have T1 := Aside0.mk ht1_; have S1 := Aside0.mk (grown_drew hg1_); clear hb1_ hs1_ ht1_ hg1_))
  go_wp2_with ((with_reducible refine gate_dst (N := 82) rfl ?_); refine list_of rfl (fun K_ hK_ => ?_); refine wp_copy_w (.tmp 80) (.tmp 81) 69 rfl 22 Try.underlying69 sizeE_b g i (n + 1 - i) (cap - i) cur1 rfl ⟨vb, 0, none⟩ 1 1 rfl [u] (by have := HN.out; simp only [List.length_singleton, Nat.min_def]; split <;> omega) B1.out (lit1_b ((S1.out.block vb (blk_lt HV.out) (by have := HE.out; intro e_; injection e_ with e_; exact this e_)).trans HV.out)) (by have := HN.out; have := HR.out.cs; rw [C1.out]; simp only [List.length_singleton]; omega) (by simpa using h1u) ?_; intro w2 cur2 hb2_ hs2_ ht2_ hg2_; have B2 := Aside0.mk hb2_; have C2 := Aside0.mk hs2_; have T2 := Aside0.mk ht2_; have S2 := Aside0.mk hg2_; clear hb2_ hs2_ ht2_ hg2_; refine hK_ _ _ ?_; clear hK_)
  go_ret
  have hgs := grown_trans S1.out S2.out (.inl rfl)
  refine ⟨_, rfl, RowAt.own (cur := cur2) ⟨HR.out.lo, B2.out, hroom, hcm, by rw [C2.out, C1.out, HR.out.cs], ?_, ?_⟩, hgs, .inl rfl⟩
  · have := HN.out
    have h := two_room (us := [u]) (i := i) (j := i) (n := n) (m := n + 1) (by omega) HR.out.len (show i + 1 + (n - i) ≤ cur.toList.length from by rw [Array.length_toList, HR.out.cs]; omega) HR.out.tk T1.out T2.out (show n + 1 = i + 1 + (n - i) from by omega)
    rw [h, List.append_assoc]; rfl
  · have := HN.out
    rw [List.length_append, List.length_take, List.length_cons, List.length_drop, HR.out.len]; omega
theorem insert_calls_b (base n i vb : Nat) (v : Value) (vs : List Value) (u : Value) (w : World) (hown : w.ownsRow base 22 1 v n vs) (hi : i ≤ n) (hn : n ≤ 1000000)
    (hv : w.heap[vb]? = some (.cells #[u] 22 (0, 0))) (hne : some vb ≠ v.ownBlock) (h1 : ∀ x ∈ vs, x.oneCell' = true) (h1u : u.oneCell' = true) (hb : base ≤ w.heap.size) :
    Calls Try.prog 49 #[v, .int .i64 i, .slice (some ⟨vb, 0, none⟩) 1 1] w (Ins_b base v.ownBlock w (n + 1) (vs.take i ++ u :: vs.drop i)) := by
  by_cases hin : i = n
  · subst hin
    have hl : vs.length = i := by have := hown.1; omega
    rw [List.take_of_length_le (by omega), List.drop_eq_nil_of_le (by omega)]
    exact insert_end_b base i vb v vs u w hown hn hv h1u hb
  · rcases own_rowAt hown with ⟨rfl, rfl, rfl⟩ | ⟨g, cap, cur, rfl, hR⟩
    · omega
    · by_cases hroom : n + 1 ≤ cap
      · exact insert_room_b base g n cap i vb cur vs u w hR (by omega) hn hroom hv (fun e => hne (by rw [e]; rfl)) h1 h1u
      · exact insert_grow_b base g n cap i vb cur vs u w hR (by omega) hn (by omega) hv h1 h1u hb
end Go.Proofs.Ytfedlanbmibhkaa.P
