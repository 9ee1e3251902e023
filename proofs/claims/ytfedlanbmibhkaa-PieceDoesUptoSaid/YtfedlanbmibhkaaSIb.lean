/- slices.Insert of one value into a row of slices: what is left is told of the row alone. -/
import Derived.Test.YtfedlanbmibhkaaSX
import Derived.RangeFuncNested
import Derived.RangeFuncBound
import Derived.RangeFuncCalls
import Derived.RangeFuncLeaves
import Derived.Shelf.Abstract
import Derived.Shelf.RegionOpen
import Derived.OwnWalkIn
import Derived.TacticsInMore
import Derived.LoopNIn
import Derived.LoopIn
import Derived.Sort.BigQuietIn
import Derived.Maps.AppendAt
import Derived.RangeFuncBox
namespace Go.Proofs.Ytfedlanbmibhkaa.P
open Go.RowKit Go.Proofs.YtfedlanbmibhkaaW.PrintWords Go.Proofs.YtfedlanbmibhkaaW.PrintLast Go.Proofs.YtfedlanbmibhkaaW.PrintMore
set_option linter.unusedVariables false
set_option linter.unusedSimpArgs false

theorem infoE_b : (Try.prog.info? 22).map (fun i => (i.zero, i.size, i.bytes)) = some (some (.slice none 0 0), 1, 24) := by kernel_rfl
theorem sizeE_b : (Try.prog.info? 22).map (·.size) = some 1 := by kernel_rfl
theorem zeroE_b : ∀ w, (zeroValue 22).run Try.prog w = .ok (.slice none 0 0) w := fun w => by kernel_rfl
theorem sizeOfE_b : ∀ w, (Go.sizeOf 22).run Try.prog w = .ok 1 w := fun w => by kernel_rfl
theorem overlaps_b (w : World) (vb o1 b o2 la ca lb cb kA kB : Nat) (tA tB : TypeId) (hne : vb ≠ b) (cA cB : Array Value) (hA : w.heap[vb]? = some (.cells cA tA (0, 0))) (hB : w.heap[b]? = some (.cells cB tB (0, 0))) (hk : 0 < cB.size) :
    (callFunc 55 #[.slice (some ⟨vb, o1, none⟩) la ca, .slice (some ⟨b, o2, none⟩) lb cb]).run Try.prog w = .ok (.value (.bool false)) w := by
  rw [run_callFunc_extern Try.func55 (by kernel_rfl) (by kernel_rfl) (by kernel_rfl) (e := Extern.SlicesOverlaps.overlaps #[69, 69] #[4]) (by kernel_rfl),
    Lib.run_overlaps_apart w 69 4 22 Try.underlying69 1 sizeOfE_b ⟨vb, o1, none⟩ ⟨b, o2, none⟩ la ca lb cb hne tA tB cA.size cB.size (by simp [World.shape?, hA]) (by simp [World.shape?, hB]) (by omega) (blk_frozen hA _) (blk_frozen hA _)]
  rfl

theorem lit1_b {w : World} {vb : Nat} {u : Value} (hv : w.heap[vb]? = some (.cells #[u] 22 (0, 0))) : ∀ j x, [u][j]? = some x → w.cell? ((⟨vb, 0, none⟩ : Addr).add j) = some x := fun j x hx => by rw [add_plain, blk_cell hv j]; simpa using hx
/-- what an insertion leaves -/
def Ins_b (base : Nat) (own : Option Nat) (w : World) (n : Nat) (xs : List Value) (e : Ending) (w' : World) : Prop :=
  ∃ v', e = .returned v' ∧ w'.ownsRow base 22 1 v' n xs ∧ w.grownBy w' own ∧ (v'.ownBlock = own ∨ ∃ b, v'.ownBlock = some b ∧ w.heap.size ≤ b)

set_option maxHeartbeats 2000000 in
set_option maxRecDepth 100000 in
theorem insert_end_b (base n vb : Nat) (v : Value) (vs : List Value) (u : Value) (w : World) (hown : w.ownsRow base 22 1 v n vs) (hn : n ≤ 1000000)
    (hv : w.heap[vb]? = some (.cells #[u] 22 (0, 0))) (h1u : u.oneCell' = true) (hb : base ≤ w.heap.size) :
    Calls Try.prog 49 #[v, .int .i64 n, .slice (some ⟨vb, 0, none⟩) 1 1] w (Ins_b base v.ownBlock w (n + 1) (vs ++ [u])) := by
  obtain ⟨i0, hi, hz0, hz1, hz2⟩ := info_parts infoE_b
  have HI := Aside0.mk hi
  have HO := Aside0.mk hown
  have HV := Aside0.mk (lit1_b hv)
  have HB := Aside0.mk hz2
  rcases hown.2 with ⟨rfl, rfl⟩ | ⟨g, cap, cur, rfl, hgb, hg, hnc, hcm, hcs, ht⟩
  · clear hown hv hi hz2
    go_enter Try.func49, Try.ntmps49
    go_wp2_with (at_builtin; refine list_of rfl (fun K_ hK_ => ?_); refine wp_append_w _ _ 69 rfl base 22 i0 (.slice none 0 0) Try.underlying69 HI.out hz0 hz1 rfl _ _ _ rfl HO.out ⟨vb, 0, none⟩ 1 1 [u] rfl rfl HV.out (by simpa using h1u) (by omega) (by rw [HB.out]; omega) hb ?_; intro v' w1 ho1 hg1 ha1; refine hK_ _ _ ?_; clear hK_)
    go_ret
    exact ⟨v', rfl, ho1, hg1, ha1⟩
  · have hcm' : cap ≤ 9223372036854775807 := hcm
    clear hown hv hi hz2 hg hcm hcs ht
    go_enter Try.func49, Try.ntmps49
    go_wp2_with (at_builtin; refine list_of rfl (fun K_ hK_ => ?_); refine wp_append_w _ _ 69 rfl base 22 i0 (.slice none 0 0) Try.underlying69 HI.out hz0 hz1 rfl _ _ _ rfl HO.out ⟨vb, 0, none⟩ 1 1 [u] rfl rfl HV.out (by simpa using h1u) (by omega) (by rw [HB.out]; omega) hb ?_; intro v' w1 ho1 hg1 ha1; refine hK_ _ _ ?_; clear hK_)
    all_goals go_ret
    all_goals exact ⟨v', rfl, ho1, hg1, ha1⟩

set_option maxHeartbeats 2000000 in
set_option maxRecDepth 100000 in
theorem insert_grow_b (base g n cap i vb : Nat) (cur : Array Value) (vs : List Value) (u : Value) (w : World) (hR : RowAt w base g n cap 22 cur vs) (hi : i < n) (hn : n ≤ 1000000) (hroom : cap < n + 1)
    (hv : w.heap[vb]? = some (.cells #[u] 22 (0, 0))) (h1 : ∀ x ∈ vs, x.oneCell' = true) (h1u : u.oneCell' = true) (hb : base ≤ w.heap.size) :
    Calls Try.prog 49 #[.slice (some ⟨g, 0, none⟩) n cap, .int .i64 i, .slice (some ⟨vb, 0, none⟩) 1 1] w (Ins_b base (some g) w (n + 1) (vs.take i ++ u :: vs.drop i)) := by
  obtain ⟨i0, hi0, hz0, hz1, hz2⟩ := info_parts infoE_b
  have HI := Aside0.mk hi0
  have HV := Aside0.mk hv
  have HR := Aside0.mk hR
  have H1 := Aside0.mk h1
  have HB := Aside0.mk hz2
  have hnc := hR.nc
  have hcm := hR.cm
  have hne1 : ((i : Int) == (n : Int)) = false := by simp; omega
  have hz3 : decide ((cap : Int) < (n : Int) + 1) = true := by simp; omega
  have hkk : (n : Int) + 1 - (i : Int) = ((n + 1 - i : Nat) : Int) := by omega
  have HK := Aside0.mk hkk
  have hw1 : IntKind.i64.wrap ((i : Int) + 1) = (i : Int) + 1 := by rw [IntKind.wrap_i64]; omega
  have hb1 : (0 : Int) ≤ (i : Int) + 1 := by omega
  have hi1 : (i : Int) ≤ (n : Int) := by omega
  have hi2 : (i : Int) + 1 ≤ (n : Int) + 1 := by omega
  have hc1 : ¬ (cap = i) := by omega
  have htn : ((i : Int) + 1).toNat = i + 1 := by omega
  have HN : Aside0 (i < n ∧ n ≤ 1000000 ∧ cap < n + 1) := ⟨⟨hi, hn, hroom⟩⟩
  have HG := Aside0.mk (blk_lt hR.blk)
  clear hR hv h1 hi0 hz2 hkk
  go_enter Try.func49, Try.ntmps49
  go_wp2_with (first
    | (at_builtin; refine list_of rfl (fun K_ hK_ => ?_); refine wp_zeros_w _ _ 69 3 rfl 22 i0 (.slice none 0 0) .i64 .i64 Try.underlying69 Try.underlying3 HI.out hz0 hz1 rfl g i cap (n + 1 - i) rfl (by rw [← HK.out]; rfl) (vs.take i) (by rw [List.length_take, HR.out.len]; have := HN.out; omega) (fun j x hj => HR.out.cell j x (by rw [List.getElem?_take] at hj; split at hj; exact hj; cases hj)) (n + 1) (by have := HN.out; omega) (by have := HN.out; omega) (by have := HN.out; omega) (by rw [HB.out]; have := HN.out; omega) (by rw [HB.out]; decide) ?_; intro w1 c1 cur1 hb1_ hs1_ hc1_ hm1_ ht1_ hbel_ hlt_; have B1 := Aside0.mk hb1_; have C1 := Aside0.mk hs1_; have T1 := Aside0.mk ht1_; have S1 := Aside0.mk hbel_; have L1 := Aside0.mk hlt_; clear hb1_ hs1_ ht1_ hbel_ hlt_; have hc2 : ¬ (c1 = i) := (by omega); have hc3 : ¬ (c1 = i + 1) := (by omega); refine hK_ _ _ ?_; clear hK_)
    | ((with_reducible refine gate_dst (N := 45) rfl ?_); refine list_of rfl (fun K_ hK_ => ?_); refine wp_copy_w (.tmp 43) (.tmp 44) 69 rfl 22 Try.underlying69 sizeE_b w.heap.size i (n + 1 - i) (c1 - i) cur1 rfl ⟨vb, 0, none⟩ 1 1 rfl [u] (by have := HN.out; simp only [List.length_singleton, Nat.min_def]; split <;> omega) B1.out (lit1_b ((S1.out.block vb (blk_lt HV.out)).trans HV.out)) (by have := HN.out; have := C1.out; simp only [List.length_singleton]; omega) (by simpa using h1u) ?_; intro w2 cur2 hb2_ hs2_ ht2_ hg2_; have B2 := Aside0.mk hb2_; have C2 := Aside0.mk hs2_; have T2 := Aside0.mk ht2_; have S2 := Aside0.mk hg2_; clear hb2_ hs2_ ht2_ hg2_; refine hK_ _ _ ?_; clear hK_))
  go_region_law ((refine step_of rfl ?_; refine wp_copy_w (.tmp 50) (.tmp 53) 69 rfl 22 Try.underlying69 sizeE_b w.heap.size (i + 1) (n + 1 - (i + 1)) (c1 - (i + 1)) cur2 (by simp [Act.eval, Act.put]) ⟨g, i, none⟩ (n - i) (cap - i) (by simp [Act.eval, Act.put]) (vs.drop i) (by have := HN.out; rw [List.length_drop, HR.out.len]; simp only [Nat.min_def]; split <;> omega) B2.out ?c1 ?c2 (fun x hx => H1.out x (List.mem_of_mem_drop hx)) ?_; (case c1 => intro j x hj; rw [add_at]; exact (HR.out.move ((S2.out.block g (by have := HG.out; have := L1.out; omega) (by have := HG.out; intro e_; injection e_ with e_; omega)).trans (S1.out.block g HG.out))).cell (i + j) x (by rwa [List.getElem?_drop] at hj)); (case c2 => have := HN.out; rw [List.length_drop, HR.out.len, C2.out, C1.out]; omega); intro w3 cur3 hb3_ hs3_ ht3_ hg3_; have B3 := Aside0.mk hb3_; have C3 := Aside0.mk hs3_; have T3 := Aside0.mk ht3_; have S3 := Aside0.mk hg3_; clear hb3_ hs3_ ht3_ hg3_))
  go_wp2
  go_ret
  have hgs := grown_trans (grown_trans (grown_of_below S1.out (some g)) S2.out (.inr ⟨_, rfl, Nat.le_refl _⟩)) (grown_drew S3.out) (.inr ⟨_, rfl, Nat.le_refl _⟩)
  refine ⟨_, rfl, RowAt.own (cur := cur3) ⟨hb, B3.out, hc1_, hm1_, by rw [C3.out, C2.out, C1.out], ?_, ?_⟩, hgs, .inr ⟨_, rfl, Nat.le_refl _⟩⟩
  · have := HN.out
    have h := two_grow (us := [u]) (i := i) (j := i) (m := n + 1) (by rw [HR.out.len]; omega) (show i + 1 ≤ cur1.toList.length from by rw [Array.length_toList, C1.out]; omega) T1.out T2.out T3.out (show n + 1 = i + 1 + (vs.length - i) from by rw [HR.out.len]; omega)
    rw [h, List.append_assoc]; rfl
  · have := HN.out
    rw [List.length_append, List.length_take, List.length_cons, List.length_drop, HR.out.len]; omega

set_option maxHeartbeats 2000000 in
set_option maxRecDepth 100000 in
theorem insert_room_b (base g n cap i vb : Nat) (cur : Array Value) (vs : List Value) (u : Value) (w : World) (hR : RowAt w base g n cap 22 cur vs) (hi : i < n) (hn : n ≤ 1000000) (hroom : n + 1 ≤ cap)
    (hv : w.heap[vb]? = some (.cells #[u] 22 (0, 0))) (hne : vb ≠ g) (h1 : ∀ x ∈ vs, x.oneCell' = true) (h1u : u.oneCell' = true) :
    Calls Try.prog 49 #[.slice (some ⟨g, 0, none⟩) n cap, .int .i64 i, .slice (some ⟨vb, 0, none⟩) 1 1] w (Ins_b base (some g) w (n + 1) (vs.take i ++ u :: vs.drop i)) := by
  have HV := Aside0.mk hv
  have HR := Aside0.mk hR
  have H1 := Aside0.mk h1
  have hcm := hR.cm
  have hne1 : ((i : Int) == (n : Int)) = false := by simp; omega
  have hz3 : decide ((cap : Int) < (n : Int) + 1) = false := by simp; omega
  have hw1 : IntKind.i64.wrap ((i : Int) + 1) = (i : Int) + 1 := by rw [IntKind.wrap_i64]; omega
  have hb1 : (0 : Int) ≤ (i : Int) + 1 := by omega
  have hi1 : (i : Int) ≤ (n : Int) := by omega
  have hi2 : (i : Int) + 1 ≤ (n : Int) + 1 := by omega
  have hi3 : (i : Int) ≤ (n : Int) + 1 := by omega
  have hc1 : ¬ (cap = i) := by omega
  have hc2 : ¬ (cap = i + 1) := by omega
  have htn : ((i : Int) + 1).toNat = i + 1 := by omega
  have HN : Aside0 (i < n ∧ n ≤ 1000000 ∧ n + 1 ≤ cap) := ⟨⟨hi, hn, hroom⟩⟩
  have hov : ∀ o2 lb cb, (callFunc 55 #[.slice (some ⟨vb, 0, none⟩) 1 1, .slice (some ⟨g, o2, none⟩) lb cb]).run Try.prog w = .ok (.value (.bool false)) w := fun o2 lb cb => overlaps_b w vb 0 g o2 1 1 lb cb 0 0 22 22 hne _ _ hv hR.blk (by rw [hR.cs]; omega)
  have HO := Aside0.mk hov
  have HE := Aside0.mk hne
  clear hR hv h1 hov hne
  go_enter Try.func49, Try.ntmps49
  go_wp2_with (simp only [HO.out])
  go_region_law ((refine step_of rfl ?_; refine wp_copy_w (.tmp 73) (.tmp 76) 69 rfl 22 Try.underlying69 sizeE_b g (i + 1) (n + 1 - (i + 1)) (cap - (i + 1)) cur (by simp [Act.eval, Act.put]) ⟨g, i, none⟩ (n + 1 - i) (cap - i) (by simp [Act.eval, Act.put]) (vs.drop i) (by have := HN.out; rw [List.length_drop, HR.out.len]; simp only [Nat.min_def]; split <;> omega) HR.out.blk ?c1 ?c2 (fun x hx => H1.out x (List.mem_of_mem_drop hx)) ?_; (case c1 => intro j x hj; rw [add_at]; exact HR.out.cell (i + j) x (by rwa [List.getElem?_drop] at hj)); (case c2 => have := HN.out; rw [List.length_drop, HR.out.len, HR.out.cs]; omega); intro w1 cur1 hb1_ hs1_ ht1_ hg1_; have B1 := Aside0.mk hb1_; have C1 := Aside0.mk hs1_; have T1 := Aside0.mk ht1_; have S1 := Aside0.mk (grown_drew hg1_); clear hb1_ hs1_ ht1_ hg1_))
  go_wp2_with ((with_reducible refine gate_dst (N := 82) rfl ?_); refine list_of rfl (fun K_ hK_ => ?_); refine wp_copy_w (.tmp 80) (.tmp 81) 69 rfl 22 Try.underlying69 sizeE_b g i (n + 1 - i) (cap - i) cur1 rfl ⟨vb, 0, none⟩ 1 1 rfl [u] (by have := HN.out; simp only [List.length_singleton, Nat.min_def]; split <;> omega) B1.out (lit1_b ((S1.out.block vb (blk_lt HV.out) (by have := HE.out; intro e_; injection e_ with e_; exact this e_)).trans HV.out)) (by have := HN.out; have := HR.out.cs; rw [C1.out]; simp only [List.length_singleton]; omega) (by simpa using h1u) ?_; intro w2 cur2 hb2_ hs2_ ht2_ hg2_; have B2 := Aside0.mk hb2_; have C2 := Aside0.mk hs2_; have T2 := Aside0.mk ht2_; have S2 := Aside0.mk hg2_; clear hb2_ hs2_ ht2_ hg2_; refine hK_ _ _ ?_; clear hK_)
  go_ret
  have hgs := grown_trans S1.out S2.out (.inl rfl)
  refine ⟨_, rfl, RowAt.own (cur := cur2) ⟨HR.out.lo, B2.out, hroom, hcm, by rw [C2.out, C1.out, HR.out.cs], ?_, ?_⟩, hgs, .inl rfl⟩
  · have := HN.out
    have h := two_room (us := [u]) (i := i) (j := i) (n := n) (m := n + 1) (by omega) HR.out.len (show i + 1 + (n - i) ≤ cur.toList.length from by rw [Array.length_toList, HR.out.cs]; omega) HR.out.tk T1.out T2.out (show n + 1 = i + 1 + (n - i) from by omega)
    rw [h, List.append_assoc]; rfl
  · have := HN.out
    rw [List.length_append, List.length_take, List.length_cons, List.length_drop, HR.out.len]; omega
theorem insert_calls_b (base n i vb : Nat) (v : Value) (vs : List Value) (u : Value) (w : World) (hown : w.ownsRow base 22 1 v n vs) (hi : i ≤ n) (hn : n ≤ 1000000)
    (hv : w.heap[vb]? = some (.cells #[u] 22 (0, 0))) (hne : some vb ≠ v.ownBlock) (h1 : ∀ x ∈ vs, x.oneCell' = true) (h1u : u.oneCell' = true) (hb : base ≤ w.heap.size) :
    Calls Try.prog 49 #[v, .int .i64 i, .slice (some ⟨vb, 0, none⟩) 1 1] w (Ins_b base v.ownBlock w (n + 1) (vs.take i ++ u :: vs.drop i)) := by
  by_cases hin : i = n
  · subst hin
    have hl : vs.length = i := by have := hown.1; omega
    rw [List.take_of_length_le (by omega), List.drop_eq_nil_of_le (by omega)]
    exact insert_end_b base i vb v vs u w hown hn hv h1u hb
  · rcases own_rowAt hown with ⟨rfl, rfl, rfl⟩ | ⟨g, cap, cur, rfl, hR⟩
    · omega
    · by_cases hroom : n + 1 ≤ cap
      · exact insert_room_b base g n cap i vb cur vs u w hR (by omega) hn hroom hv (fun e => hne (by rw [e]; rfl)) h1 h1u
      · exact insert_grow_b base g n cap i vb cur vs u w hR (by omega) hn (by omega) hv h1 h1u hb
end Go.Proofs.Ytfedlanbmibhkaa.P
/- slices.Replace of one slice in a row of slices by two. -/
namespace Go.Proofs.Ytfedlanbmibhkaa.P
open Go.RowKit Go.Proofs.YtfedlanbmibhkaaW.PrintWords Go.Proofs.YtfedlanbmibhkaaW.PrintLast Go.Proofs.YtfedlanbmibhkaaW.PrintMore
set_option linter.unusedVariables false
set_option linter.unusedSimpArgs false
theorem lit2_b {w : World} {vb : Nat} {u u' : Value} (hv : w.heap[vb]? = some (.cells #[u, u'] 22 (0, 0))) : ∀ j x, [u, u'][j]? = some x → w.cell? ((⟨vb, 0, none⟩ : Addr).add j) = some x := fun j x hx => by rw [add_plain, blk_cell hv j]; simpa using hx

set_option maxHeartbeats 2000000 in
set_option maxRecDepth 100000 in
theorem repl_end_b (base g cap i vb : Nat) (cur : Array Value) (vs : List Value) (u u' : Value) (w : World) (hR : RowAt w base g (i + 1) cap 22 cur vs) (hn : i + 1 ≤ 1000000)
    (hv : w.heap[vb]? = some (.cells #[u, u'] 22 (0, 0))) (h1u : u.oneCell' = true) (h1u' : u'.oneCell' = true) (hb : base ≤ w.heap.size) :
    Calls Try.prog 51 #[.slice (some ⟨g, 0, none⟩) (i + 1) cap, .int .i64 i, .int .i64 ((i : Int) + 1), .slice (some ⟨vb, 0, none⟩) 2 2] w (Ins_b base (some g) w (i + 1 + 1) (vs.take i ++ [u, u'])) := by
  obtain ⟨i0, hi, hz0, hz1, hz2⟩ := info_parts infoE_b
  have HI := Aside0.mk hi
  have HV := Aside0.mk (lit2_b hv)
  have HB := Aside0.mk hz2
  have HO := Aside0.mk (own_take (m := i) hR.own (by omega))
  have hcm := hR.cm
  have hnc := hR.nc
  have hne1 : ((i : Int) == (i : Int) + 1) = false := by simp; omega
  have hi1 : (i : Int) ≤ (i : Int) + 1 := by omega
  have hi0 : (0 : Int) ≤ (i : Int) + 1 := by omega
  have htn : ((i : Int) + 1).toNat = i + 1 := by omega
  have hc1 : ¬ (cap = i) := by omega
  have hls : decide (i + 2 < i + 1) = false := by simp
  clear hR hv hi hz2
  go_enter Try.func51, Try.ntmps51
  go_wp2_with (at_builtin; refine list_of rfl (fun K_ hK_ => ?_); refine wp_append_w _ _ 69 rfl base 22 i0 (.slice none 0 0) Try.underlying69 HI.out hz0 hz1 rfl _ i _ rfl HO.out ⟨vb, 0, none⟩ 2 2 [u, u'] rfl rfl HV.out (by simp [h1u, h1u']) (by omega) (by rw [HB.out]; omega) hb ?_; intro v' w1 ho1 hg1 ha1; obtain ⟨A1, c1, rfl⟩ := own_slice ho1; refine hK_ _ _ ?_; clear hK_)
  all_goals go_ret
  all_goals exact ⟨_, rfl, by rw [Nat.mul_one] at ho1; exact ho1, hg1, ha1⟩

set_option maxHeartbeats 2000000 in
set_option maxRecDepth 100000 in
theorem repl_grow_b (base g n cap i vb : Nat) (cur : Array Value) (vs : List Value) (u u' : Value) (w : World) (hR : RowAt w base g n cap 22 cur vs) (hi : i + 1 < n) (hn : n ≤ 1000000) (hroom : cap < n + 1)
    (hv : w.heap[vb]? = some (.cells #[u, u'] 22 (0, 0))) (h1 : ∀ x ∈ vs, x.oneCell' = true) (h1u : u.oneCell' = true) (h1u' : u'.oneCell' = true) (hb : base ≤ w.heap.size) :
    Calls Try.prog 51 #[.slice (some ⟨g, 0, none⟩) n cap, .int .i64 i, .int .i64 ((i : Int) + 1), .slice (some ⟨vb, 0, none⟩) 2 2] w (Ins_b base (some g) w (n + 1) (vs.take i ++ [u, u'] ++ vs.drop (i + 1))) := by
  obtain ⟨i0, hi0, hz0, hz1, hz2⟩ := info_parts infoE_b
  have HI := Aside0.mk hi0
  have HV := Aside0.mk hv
  have HR := Aside0.mk hR
  have H1 := Aside0.mk h1
  have HB := Aside0.mk hz2
  have hnc := hR.nc
  have hcm := hR.cm
  have hne0 : ((i : Int) == (i : Int) + 1) = false := by simp; omega
  have hne1 : ((i : Int) + 1 == (n : Int)) = false := by simp; omega
  have hi1 : (i : Int) ≤ (i : Int) + 1 := by omega
  have hi2 : (i : Int) + 1 ≤ (n : Int) := by omega
  have hi3 : (0 : Int) ≤ (i : Int) + 1 := by omega
  have hc1 : ¬ (cap = i) := by omega
  have hc2 : ¬ (cap = i + 1) := by omega
  have htn : ((i : Int) + 1).toNat = i + 1 := by omega
  have HN : Aside0 (i + 1 < n ∧ n ≤ 1000000 ∧ cap < n + 1) := ⟨⟨hi, hn, hroom⟩⟩
  have HG := Aside0.mk (blk_lt hR.blk)
  clear hR hv h1 hi0 hz2
  go_enter Try.func51, Try.ntmps51
  go_wp2_with fail
  have hq1 : IntKind.i64.wrap ((i : Int) + 2) = (i : Int) + 2 := by rw [IntKind.wrap_i64]; have := HN.out; omega
  have hq2 : IntKind.i64.wrap ((i : Int) + 2 + ((n - (i + 1) : Nat) : Int)) = (n : Int) + 1 := by rw [IntKind.wrap_i64]; have := HN.out; omega
  go_quiet (fail)
  clear hq1 hq2
  generalize hwq : w.drewN nq = wq
  have HRq := Aside0.mk (HR.out.move (w' := wq) (by rw [← hwq]; rfl))
  have HVq : Aside0 (wq.heap[vb]? = some (.cells #[u, u'] 22 (0, 0))) := ⟨by rw [← hwq]; exact HV.out⟩
  have HGq := Aside0.mk (blk_lt HRq.out.blk)
  have SQ : Aside0 (Below w.heap.size w wq) := ⟨by rw [← hwq]; exact pw_below_drewN (Below.refl _ _) nq⟩
  have hbq : base ≤ wq.heap.size := by rw [← hwq]; exact hb
  clear hwq HR HV HG hb
  have hz3 : decide ((cap : Int) < (n : Int) + 1) = true := by have := HN.out; simp; omega
  have hkk : (n : Int) + 1 - (i : Int) = ((n + 1 - i : Nat) : Int) := by have := HN.out; omega
  have HK := Aside0.mk hkk
  have hw1 : IntKind.i64.wrap ((i : Int) + 2) = (i : Int) + 2 := by rw [IntKind.wrap_i64]; have := HN.out; omega
  have hj1 : (0 : Int) ≤ (i : Int) + 2 := by omega
  have hj2 : (i : Int) + 2 ≤ (n : Int) + 1 := by omega
  have hj3 : (i : Int) ≤ (n : Int) + 1 := by omega
  have hj4 : (i : Int) ≤ (n : Int) := by omega
  have htn2 : ((i : Int) + 2).toNat = i + 2 := by omega
  clear hkk
  go_wp2_with (first
    | (at_builtin; refine list_of rfl (fun K_ hK_ => ?_); refine wp_zeros_w _ _ 69 3 rfl 22 i0 (.slice none 0 0) .i64 .i64 Try.underlying69 Try.underlying3 HI.out hz0 hz1 rfl g i cap (n + 1 - i) rfl (by rw [← HK.out]; rfl) (vs.take i) (by rw [List.length_take, HRq.out.len]; have := HN.out; omega) (fun j x hj => HRq.out.cell j x (by rw [List.getElem?_take] at hj; split at hj; exact hj; cases hj)) (n + 1) (by have := HN.out; omega) (by have := HN.out; omega) (by have := HN.out; omega) (by rw [HB.out]; have := HN.out; omega) (by rw [HB.out]; decide) ?_; intro w1 c1 cur1 hb1_ hs1_ hc1_ hm1_ ht1_ hbel_ hlt_; have B1 := Aside0.mk hb1_; have C1 := Aside0.mk hs1_; have T1 := Aside0.mk ht1_; have S1 := Aside0.mk hbel_; have L1 := Aside0.mk hlt_; clear hb1_ hs1_ ht1_ hbel_ hlt_; have hc3 : ¬ (c1 = i) := (by omega); have hc4 : ¬ (c1 = i + 2) := (by omega); refine hK_ _ _ ?_; clear hK_)
    | ((with_reducible refine gate_dst (N := 72) rfl ?_); refine list_of rfl (fun K_ hK_ => ?_); refine wp_copy_w (.tmp 70) (.tmp 71) 69 rfl 22 Try.underlying69 sizeE_b wq.heap.size i (n + 1 - i) (c1 - i) cur1 rfl ⟨vb, 0, none⟩ 2 2 rfl [u, u'] (by have := HN.out; simp only [List.length_cons, List.length_nil, Nat.min_def]; split <;> omega) B1.out (lit2_b ((S1.out.block vb (blk_lt HVq.out)).trans HVq.out)) (by have := HN.out; have := C1.out; simp only [List.length_cons, List.length_nil]; omega) (by simp [h1u, h1u']) ?_; intro w2 cur2 hb2_ hs2_ ht2_ hg2_; have B2 := Aside0.mk hb2_; have C2 := Aside0.mk hs2_; have T2 := Aside0.mk ht2_; have S2 := Aside0.mk hg2_; clear hb2_ hs2_ ht2_ hg2_; refine hK_ _ _ ?_; clear hK_))
  go_region_law ((refine step_of rfl ?_; refine wp_copy_w (.tmp 78) (.tmp 81) 69 rfl 22 Try.underlying69 sizeE_b wq.heap.size (i + 2) (n + 1 - (i + 2)) (c1 - (i + 2)) cur2 (by simp [Act.eval, Act.put]) ⟨g, i + 1, none⟩ (n - (i + 1)) (cap - (i + 1)) (by simp [Act.eval, Act.put]) (vs.drop (i + 1)) (by have := HN.out; rw [List.length_drop, HRq.out.len]; simp only [Nat.min_def]; split <;> omega) B2.out ?c1 ?c2 (fun x hx => H1.out x (List.mem_of_mem_drop hx)) ?_; (case c1 => intro j x hj; rw [add_at]; exact (HRq.out.move ((S2.out.block g (by have := HGq.out; have := L1.out; omega) (by have := HGq.out; intro e_; injection e_ with e_; omega)).trans (S1.out.block g HGq.out))).cell (i + 1 + j) x (by rwa [List.getElem?_drop] at hj)); (case c2 => have := HN.out; rw [List.length_drop, HRq.out.len, C2.out, C1.out]; omega); intro w3 cur3 hb3_ hs3_ ht3_ hg3_; have B3 := Aside0.mk hb3_; have C3 := Aside0.mk hs3_; have T3 := Aside0.mk ht3_; have S3 := Aside0.mk hg3_; clear hb3_ hs3_ ht3_ hg3_))
  go_wp2
  go_ret
  have hgs := grown_trans (grown_trans (grown_trans (grown_of_below SQ.out (some g)) (grown_of_below S1.out (some g)) (.inl rfl)) S2.out (.inr ⟨_, rfl, SQ.out.size⟩)) (grown_drew S3.out) (.inr ⟨_, rfl, SQ.out.size⟩)
  refine ⟨_, rfl, RowAt.own (cur := cur3) ⟨hbq, B3.out, hc1_, hm1_, by rw [C3.out, C2.out, C1.out], ?_, ?_⟩, hgs, .inr ⟨_, rfl, SQ.out.size⟩⟩
  · have := HN.out
    exact two_grow (us := [u, u']) (i := i) (j := i + 1) (m := n + 1) (by rw [HRq.out.len]; omega) (show i + 2 ≤ cur1.toList.length from by rw [Array.length_toList, C1.out]; omega) T1.out T2.out T3.out (show n + 1 = i + 2 + (vs.length - (i + 1)) from by rw [HRq.out.len]; omega)
  · have := HN.out
    simp only [List.length_append, List.length_take, List.length_cons, List.length_nil, List.length_drop, HRq.out.len]; omega

set_option maxHeartbeats 2000000 in
set_option maxRecDepth 100000 in
theorem repl_room_b (base g n cap i vb : Nat) (cur : Array Value) (vs : List Value) (u u' : Value) (w : World) (hR : RowAt w base g n cap 22 cur vs) (hi : i + 1 < n) (hn : n ≤ 1000000) (hroom : n + 1 ≤ cap)
    (hv : w.heap[vb]? = some (.cells #[u, u'] 22 (0, 0))) (hne : vb ≠ g) (h1 : ∀ x ∈ vs, x.oneCell' = true) (h1u : u.oneCell' = true) (h1u' : u'.oneCell' = true) :
    Calls Try.prog 51 #[.slice (some ⟨g, 0, none⟩) n cap, .int .i64 i, .int .i64 ((i : Int) + 1), .slice (some ⟨vb, 0, none⟩) 2 2] w (Ins_b base (some g) w (n + 1) (vs.take i ++ [u, u'] ++ vs.drop (i + 1))) := by
  have HV := Aside0.mk hv
  have HR := Aside0.mk hR
  have H1 := Aside0.mk h1
  have HE := Aside0.mk hne
  have hnc := hR.nc
  have hcm := hR.cm
  have hne0 : ((i : Int) == (i : Int) + 1) = false := by simp; omega
  have hne1 : ((i : Int) + 1 == (n : Int)) = false := by simp; omega
  have hi1 : (i : Int) ≤ (i : Int) + 1 := by omega
  have hi2 : (i : Int) + 1 ≤ (n : Int) := by omega
  have hi3 : (0 : Int) ≤ (i : Int) + 1 := by omega
  have hc1 : ¬ (cap = i) := by omega
  have hc2 : ¬ (cap = i + 1) := by omega
  have hc3 : ¬ (cap = i + 2) := by omega
  have htn : ((i : Int) + 1).toNat = i + 1 := by omega
  have HN : Aside0 (i + 1 < n ∧ n ≤ 1000000 ∧ n + 1 ≤ cap) := ⟨⟨hi, hn, hroom⟩⟩
  clear hR hv h1 hne
  go_enter Try.func51, Try.ntmps51
  go_wp2_with fail
  have hq1 : IntKind.i64.wrap ((i : Int) + 2) = (i : Int) + 2 := by rw [IntKind.wrap_i64]; have := HN.out; omega
  have hq2 : IntKind.i64.wrap ((i : Int) + 2 + ((n - (i + 1) : Nat) : Int)) = (n : Int) + 1 := by rw [IntKind.wrap_i64]; have := HN.out; omega
  go_quiet (fail)
  clear hq1 hq2
  generalize hwq : w.drewN nq = wq
  have HRq := Aside0.mk (HR.out.move (w' := wq) (by rw [← hwq]; rfl))
  have HVq : Aside0 (wq.heap[vb]? = some (.cells #[u, u'] 22 (0, 0))) := ⟨by rw [← hwq]; exact HV.out⟩
  have SQ : Aside0 (Below w.heap.size w wq) := ⟨by rw [← hwq]; exact pw_below_drewN (Below.refl _ _) nq⟩
  clear hwq HR HV
  have hz3 : decide ((cap : Int) < (n : Int) + 1) = false := by have := HN.out; simp; omega
  have hz4 : decide ((i : Int) + 2 ≤ (i : Int) + 1) = false := by simp
  have hw1 : IntKind.i64.wrap ((i : Int) + 2) = (i : Int) + 2 := by rw [IntKind.wrap_i64]; have := HN.out; omega
  have hj1 : (0 : Int) ≤ (i : Int) + 2 := by omega
  have hj2 : (i : Int) + 2 ≤ (n : Int) + 1 := by omega
  have hj3 : (i : Int) ≤ (n : Int) + 1 := by omega
  have hj4 : (i : Int) ≤ (n : Int) := by omega
  have htn2 : ((i : Int) + 2).toNat = i + 2 := by omega
  have HO : Aside0 (∀ o1 la ca, (callFunc 55 #[.slice (some ⟨g, o1, none⟩) la ca, .slice (some ⟨vb, 0, none⟩) 2 2]).run Try.prog wq = .ok (.value (.bool false)) wq) := ⟨fun o1 la ca => overlaps_b wq g o1 vb 0 la ca 2 2 0 0 22 22 (Ne.symm HE.out) _ _ HRq.out.blk HVq.out (by simp)⟩
  go_wp2_with (simp only [HO.out])
  go_region_law ((refine step_of rfl ?_; refine wp_copy_w (.tmp 126) (.tmp 129) 69 rfl 22 Try.underlying69 sizeE_b g (i + 2) (n + 1 - (i + 2)) (cap - (i + 2)) cur (by simp [Act.eval, Act.put]) ⟨g, i + 1, none⟩ (n - (i + 1)) (cap - (i + 1)) (by simp [Act.eval, Act.put]) (vs.drop (i + 1)) (by have := HN.out; rw [List.length_drop, HRq.out.len]; simp only [Nat.min_def]; split <;> omega) HRq.out.blk ?c1 ?c2 (fun x hx => H1.out x (List.mem_of_mem_drop hx)) ?_; (case c1 => intro j x hj; rw [add_at]; exact HRq.out.cell (i + 1 + j) x (by rwa [List.getElem?_drop] at hj)); (case c2 => have := HN.out; rw [List.length_drop, HRq.out.len, HRq.out.cs]; omega); intro w1 cur1 hb1_ hs1_ ht1_ hg1_; have B1 := Aside0.mk hb1_; have C1 := Aside0.mk hs1_; have T1 := Aside0.mk ht1_; have S1 := Aside0.mk (grown_drew hg1_); clear hb1_ hs1_ ht1_ hg1_))
  go_wp2_with ((with_reducible refine gate_dst (N := 135) rfl ?_); refine list_of rfl (fun K_ hK_ => ?_); refine wp_copy_w (.tmp 133) (.tmp 134) 69 rfl 22 Try.underlying69 sizeE_b g i (n + 1 - i) (cap - i) cur1 rfl ⟨vb, 0, none⟩ 2 2 rfl [u, u'] (by have := HN.out; simp only [List.length_cons, List.length_nil, Nat.min_def]; split <;> omega) B1.out (lit2_b ((S1.out.block vb (blk_lt HVq.out) (by have := HE.out; intro e_; injection e_ with e_; exact this e_)).trans HVq.out)) (by have := HN.out; have := HRq.out.cs; rw [C1.out]; simp only [List.length_cons, List.length_nil]; omega) (by simp [h1u, h1u']) ?_; intro w2 cur2 hb2_ hs2_ ht2_ hg2_; have B2 := Aside0.mk hb2_; have C2 := Aside0.mk hs2_; have T2 := Aside0.mk ht2_; have S2 := Aside0.mk hg2_; clear hb2_ hs2_ ht2_ hg2_; refine hK_ _ _ ?_; clear hK_)
  go_ret
  have hgs := grown_trans (grown_trans (grown_of_below SQ.out (some g)) S1.out (.inl rfl)) S2.out (.inl rfl)
  refine ⟨_, rfl, RowAt.own (cur := cur2) ⟨HRq.out.lo, B2.out, hroom, hcm, by rw [C2.out, C1.out, HRq.out.cs], ?_, ?_⟩, hgs, .inl rfl⟩
  · have := HN.out
    exact two_room (us := [u, u']) (i := i) (j := i + 1) (n := n) (m := n + 1) (by omega) HRq.out.len (show i + 2 + (n - (i + 1)) ≤ cur.toList.length from by rw [Array.length_toList, HRq.out.cs]; omega) HRq.out.tk T1.out T2.out (show n + 1 = i + 2 + (n - (i + 1)) from by omega)
  · have := HN.out
    simp only [List.length_append, List.length_take, List.length_cons, List.length_nil, List.length_drop, HRq.out.len]; omega
theorem repl_calls_b (base n i vb : Nat) (v : Value) (vs : List Value) (u u' : Value) (w : World) (hown : w.ownsRow base 22 1 v n vs) (hi : i < n) (hn : n ≤ 1000000)
    (hv : w.heap[vb]? = some (.cells #[u, u'] 22 (0, 0))) (hne : some vb ≠ v.ownBlock) (h1 : ∀ x ∈ vs, x.oneCell' = true) (h1u : u.oneCell' = true) (h1u' : u'.oneCell' = true) (hb : base ≤ w.heap.size) :
    Calls Try.prog 51 #[v, .int .i64 i, .int .i64 ((i : Int) + 1), .slice (some ⟨vb, 0, none⟩) 2 2] w (Ins_b base v.ownBlock w (n + 1) (vs.take i ++ [u, u'] ++ vs.drop (i + 1))) := by
  rcases own_rowAt hown with ⟨rfl, rfl, rfl⟩ | ⟨g, cap, cur, rfl, hR⟩
  · omega
  · by_cases hin : i + 1 = n
    · subst hin
      rw [List.drop_eq_nil_of_le (by have := hR.len; omega), List.append_nil]
      exact repl_end_b base g cap i vb cur vs u u' w hR hn hv h1u h1u' hb
    · by_cases hroom : n + 1 ≤ cap
      · exact repl_room_b base g n cap i vb cur vs u u' w hR (by omega) hn hroom hv (fun e => hne (by rw [e]; rfl)) h1 h1u h1u'
      · exact repl_grow_b base g n cap i vb cur vs u u' w hR (by omega) hn (by omega) hv h1 h1u h1u' hb
end Go.Proofs.Ytfedlanbmibhkaa.P
/- slices.Delete in a row of slices; slices.Clone of such a row, and of a slice of numbers. -/
namespace Go.Proofs.Ytfedlanbmibhkaa.P
open Go.RowKit Go.Proofs.YtfedlanbmibhkaaW.PrintWords Go.Proofs.YtfedlanbmibhkaaW.PrintLast Go.Proofs.YtfedlanbmibhkaaW.PrintMore
set_option linter.unusedVariables false
set_option linter.unusedSimpArgs false

set_option maxHeartbeats 2000000 in
set_option maxRecDepth 100000 in
theorem del_some_b (base g n cap i j : Nat) (cur : Array Value) (vs : List Value) (w : World) (hR : RowAt w base g n cap 22 cur vs) (hij : i < j) (hj : j ≤ n) (hn : n ≤ 1000000) (h1 : ∀ x ∈ vs, x.oneCell' = true) :
    Calls Try.prog 40 #[.slice (some ⟨g, 0, none⟩) n cap, .int .i64 i, .int .i64 j] w fun e w' => ∃ v', e = .returned v' ∧ w'.ownsRow base 22 1 v' (i + (n - j)) (vs.take i ++ vs.drop j) ∧ w.grownBy w' (some g) ∧ v'.ownBlock = some g := by
  obtain ⟨i0, hi0, hz0, hz1, hz2⟩ := info_parts infoE_b
  have HI := Aside0.mk hi0
  have HR := Aside0.mk hR
  have H1 := Aside0.mk h1
  have hnc := hR.nc
  have hcm := hR.cm
  obtain ⟨ad, had, hsrc⟩ : ∃ ad : Addr, (if cap = j then some (⟨g, 0, none⟩ : Addr) else some ⟨g, j, none⟩) = some ad ∧ ∀ q x, (vs.drop j)[q]? = some x → w.cell? (ad.add q) = some x := by
    by_cases h : cap = j
    · refine ⟨⟨g, 0, none⟩, by simp [h], fun q x hq => ?_⟩
      rw [List.drop_eq_nil_of_le (by have := hR.len; omega)] at hq
      cases hq
    · refine ⟨⟨g, j, none⟩, by simp [h], fun q x hq => ?_⟩
      rw [add_at]; exact hR.cell (j + q) x (by rwa [List.getElem?_drop] at hq)
  have HS := Aside0.mk hsrc
  have hne : ((i : Int) == (j : Int)) = false := by simp; omega
  have e1 : (i : Int) ≤ (j : Int) := by omega
  have e2 : (j : Int) ≤ (n : Int) := by omega
  have e3 : (i : Int) ≤ (n : Int) := by omega
  have e4 : i ≤ cap := by omega
  have e5 : j ≤ cap := by omega
  have HN : Aside0 (i < j ∧ j ≤ n ∧ n ≤ 1000000) := ⟨⟨hij, hj, hn⟩⟩
  clear hR h1 hsrc hi0 hz2
  go_enter Try.func40, Try.ntmps40
  go_wp2_with fail
  go_region_law ((refine step_of rfl ?_; refine wp_append_in (.tmp 22) (.tmp 25) 69 rfl 22 i0 Try.underlying69 HI.out hz1 g i cap cur (by simp [Act.eval, Act.put]) ad (n - j) (cap - j) (by simp [Act.eval, Act.put]) (vs.drop j) (by have := HN.out; rw [List.length_drop, HR.out.len]) HR.out.blk HS.out (by have := HN.out; omega) (by have := HN.out; have := HR.out.cs; omega) (fun x hx => H1.out x (List.mem_of_mem_drop hx)) ?_; intro w1 cur1 hb1_ hs1_ ht1_ hg1_; have B1 := Aside0.mk hb1_; have C1 := Aside0.mk hs1_; have T1 := Aside0.mk ht1_; have S1 := Aside0.mk (grown_drew hg1_); clear hb1_ hs1_ ht1_ hg1_))
  clear had
  have f1 : i + (n - j) ≤ n := by have := HN.out; omega
  have f2 : i + (n - j) ≤ cap := by have := HN.out; omega
  have f3 : ¬ (cap = i + (n - j)) := by have := HN.out; omega
  have f4 : i + (n - j) < n := by have := HN.out; omega
  go_wp2_with ((with_reducible refine gate_builtin (b := .clear) (xs := #[.tmp 31]) (ts := #[69]) rfl ?_); refine list_of rfl (fun K_ hK_ => ?_); refine wp_clear_w (.tmp 31) 69 rfl 22 (.slice none 0 0) Try.underlying69 zeroE_b rfl rfl g (i + (n - j)) (n - (i + (n - j))) (cap - (i + (n - j))) cur1 rfl (by have := HN.out; omega) B1.out (by have := HN.out; have := C1.out; have := HR.out.cs; omega) ?_; intro w2 cur2 hb2_ hs2_ ht2_ hg2_; have B2 := Aside0.mk hb2_; have C2 := Aside0.mk hs2_; have T2 := Aside0.mk ht2_; have S2 := Aside0.mk hg2_; clear hb2_ hs2_ ht2_ hg2_; refine hK_ _ _ ?_; clear hK_)
  go_ret
  refine ⟨_, rfl, RowAt.own (cur := cur2) ⟨HR.out.lo, B2.out, f2, hcm, by rw [C2.out, C1.out, HR.out.cs], ?_, ?_⟩, grown_trans S1.out S2.out (.inl rfl), rfl⟩
  · have := HN.out
    have hl1 : (cur.toList.take i ++ vs.drop j).length = i + (n - j) := by rw [List.length_append, List.length_take, List.length_drop, HR.out.len, Array.length_toList, HR.out.cs]; omega
    have h1 : cur1.toList.take (i + (n - j)) = vs.take i ++ vs.drop j := by
      rw [T1.out, ← hl1, List.take_left, ← HR.out.tk, List.take_take, Nat.min_eq_left (by omega)]
    have hl2 : (cur1.toList.take (i + (n - j))).length = i + (n - j) := by rw [List.length_take, Array.length_toList, C1.out, HR.out.cs]; omega
    rw [T2.out, List.append_assoc, List.take_append_of_le_length (by omega), List.take_take, Nat.min_self, h1]
  · have := HN.out
    rw [List.length_append, List.length_take, List.length_drop, HR.out.len]; omega
theorem del_same_b (base n i : Nat) (v : Value) (vs : List Value) (w : World) (hown : w.ownsRow base 22 1 v n vs) (hi : i ≤ n) (hn : n ≤ 1000000) :
    Calls Try.prog 40 #[v, .int .i64 i, .int .i64 i] w fun e w' => e = .returned v ∧ w' = w := by
  have e1 : (i : Int) ≤ (n : Int) := by omega
  rcases own_rowAt hown with ⟨rfl, rfl, rfl⟩ | ⟨g, cap, cur, rfl, hR⟩
  · obtain rfl : i = 0 := by omega
    clear hown
    go_enter Try.func40, Try.ntmps40
    go_wp2
    go_ret
    exact ⟨rfl, rfl⟩
  · have hnc := hR.nc
    have hcm := hR.cm
    have e2 : i ≤ cap := by omega
    clear hown hR
    go_enter Try.func40, Try.ntmps40
    go_wp2
    all_goals (go_ret; exact ⟨rfl, rfl⟩)
theorem del_calls_b (base n i j : Nat) (v : Value) (vs : List Value) (w : World) (hown : w.ownsRow base 22 1 v n vs) (hij : i ≤ j) (hj : j ≤ n) (hn : n ≤ 1000000) (h1 : ∀ x ∈ vs, x.oneCell' = true) :
    Calls Try.prog 40 #[v, .int .i64 i, .int .i64 j] w fun e w' => ∃ v', e = .returned v' ∧ w'.ownsRow base 22 1 v' (i + (n - j)) (vs.take i ++ vs.drop j) ∧ w.grownBy w' v.ownBlock ∧ v'.ownBlock = v.ownBlock := by
  by_cases h : i = j
  · subst h
    refine (del_same_b base n i v vs w hown hj hn).mono ?_
    rintro e w' ⟨rfl, rfl⟩
    exact ⟨v, rfl, by rw [List.take_append_drop, show i + (n - i) = n by omega]; exact hown, World.grownBy.refl _ _, rfl⟩
  · rcases own_rowAt hown with ⟨rfl, rfl, rfl⟩ | ⟨g, cap, cur, rfl, hR⟩
    · omega
    · exact del_some_b base g n cap i j cur vs w hR (by omega) hj hn h1

set_option maxHeartbeats 1000000 in
set_option maxRecDepth 100000 in
/-- slices.Clone of a row: nil stays nil; else a new row. -/
theorem clone_calls_b (base n : Nat) (v : Value) (vs : List Value) (w : World) (hown : w.ownsRow base 22 1 v n vs) (hn : n ≤ 1000000) (h1 : ∀ x ∈ vs, x.oneCell' = true) :
    Calls Try.prog 38 #[v] w fun e w' => ∃ v', e = .returned v' ∧ w'.ownsRow w.heap.size 22 1 v' n vs ∧ Below w.heap.size w w' := by
  have hu : ∀ (w : World) (a : Option Addr) (n c n' c' : Nat), (binOp .eql 69 (.slice a n c) (.slice none n' c')).run Try.prog w = .ok (.bool a.isNone) w := fun w a n c n' c' => Lib.run_eql_slice_nil w _ _ a n c n' c' Try.underlying69
  rcases own_rowAt hown with ⟨rfl, rfl, rfl⟩ | ⟨g, cap, cur, rfl, hR⟩
  · clear hown
    go_enter Try.func38, Try.ntmps38
    go_wp2
    go_ret
    exact ⟨_, rfl, World.ownsRow_nil _ _ _ _, Below.refl _ _⟩
  · obtain ⟨i0, hi0, hz0, hz1, hz2⟩ := info_parts infoE_b
    have HI := Aside0.mk hi0
    have HB := Aside0.mk hz2
    have HR := Aside0.mk hR
    have HO : Aside0 ((w.alloc (.cells #[] 22)).ownsRow w.heap.size 22 1 (.slice (some ⟨w.heap.size, 0, none⟩) 0 0) 0 []) := ⟨World.ownsRow_made w #[] 0 (Nat.le_refl _) (Nat.zero_le _) (by simp)⟩
    have hsrc : ∀ j x, vs[j]? = some x → (w.alloc (.cells #[] 22)).cell? ((⟨g, 0, none⟩ : Addr).add j) = some x := fun j x hj => by rw [add_plain]; exact Lib.cell?_alloc_some _ (hR.cell j x hj)
    have HS := Aside0.mk hsrc
    have hl := hR.len
    clear hown hR hi0 hz2 hsrc
    go_enter Try.func38, Try.ntmps38
    go_wp2_with (at_builtin; refine list_of rfl (fun K_ hK_ => ?_); refine wp_append_w _ _ 69 rfl w.heap.size 22 i0 (.slice none 0 0) Try.underlying69 HI.out hz0 hz1 rfl _ 0 _ rfl HO.out ⟨g, 0, none⟩ n cap vs rfl hl HS.out h1 (by omega) (by rw [HB.out]; omega) (by simp) ?_; intro v' w1 ho1 hg1 ha1; refine hK_ _ _ ?_; clear hK_)
    go_ret
    refine ⟨v', rfl, by simpa using ho1, ?_⟩
    exact pw_below_grown (below_alloc (Below.refl _ w) _) _ (by simp) hg1 (fun k hk => by cases hk; exact Nat.le_refl _)
theorem infoe_b : (Try.prog.info? 5).map (fun i => (i.zero, i.size, i.bytes)) = some (some (.int .u8 0), 1, 1) := by kernel_rfl
set_option maxHeartbeats 1000000 in
set_option maxRecDepth 100000 in
/-- slices.Clone of a slice of numbers that is not empty. -/
theorem cloneb_calls_b (A : Option Addr) (c : Nat) (xs : List Int) (w : World) (hr : Kd.C (Kd.int .u8) w A xs.length xs) (h0 : 0 < xs.length) (hb : xs.length * 1 ≤ 140737488355328) :
    Calls Try.prog 50 #[.slice A xs.length c] w fun e w' => ∃ v', e = .returned v' ∧ w'.ownsRow w.heap.size 5 1 v' xs.length (nums .u8 xs) ∧ Below w.heap.size w w' := by
  have hu : ∀ (w : World) (a : Option Addr) (n c n' c' : Nat), (binOp .eql 22 (.slice a n c) (.slice none n' c')).run Try.prog w = .ok (.bool a.isNone) w := fun w a n c n' c' => Lib.run_eql_slice_nil w _ _ a n c n' c' Try.underlying22
  obtain ⟨ad, rfl, -⟩ := Kd.at_int hr 0 (by omega) (by omega)
  obtain ⟨i0, hi0, hz0, hz1, hz2⟩ := info_parts infoe_b
  have HI := Aside0.mk hi0
  have HB := Aside0.mk hz2
  have HO : Aside0 ((w.alloc (.cells #[] 5)).ownsRow w.heap.size 5 1 (.slice (some ⟨w.heap.size, 0, none⟩) 0 0) 0 []) := ⟨World.ownsRow_made w #[] 0 (Nat.le_refl _) (Nat.zero_le _) (by simp)⟩
  have hsrc : ∀ j x, (nums .u8 xs)[j]? = some x → (w.alloc (.cells #[] 5)).cell? (ad.add j) = some x := fun j x hj => by
    have hjl : j < xs.length := by have := (List.getElem?_eq_some_iff.1 hj).1; rwa [nums_length] at this
    obtain ⟨ad', e_, hc⟩ := Kd.at_int hr (j : Int) (by omega) (by omega)
    injection e_ with e_; subst e_
    rw [Int.toNat_natCast] at hc
    refine Lib.cell?_alloc_some _ (hc.trans ?_)
    rw [← hj]; unfold nums rd
    rw [List.getElem?_map, List.getElem?_eq_getElem hjl, Int.toNat_natCast, List.getD_eq_getElem?_getD, List.getElem?_eq_getElem hjl]; rfl
  have HS := Aside0.mk hsrc
  have hm : maxLen = 9223372036854775807 := rfl
  have hl := Kd.C_max hr
  have H1 : Aside0 (∀ u ∈ nums .u8 xs, u.oneCell' = true) := ⟨fun u hu => by obtain ⟨_, _, rfl⟩ := List.mem_map.1 hu; rfl⟩
  clear hr hi0 hz2 hsrc hm
  go_enter Try.func50, Try.ntmps50
  go_wp2_with (at_builtin; refine list_of rfl (fun K_ hK_ => ?_); refine wp_append_w _ _ 22 rfl w.heap.size 5 i0 (.int .u8 0) Try.underlying22 HI.out hz0 hz1 rfl _ 0 _ rfl HO.out ad xs.length c (nums .u8 xs) rfl (nums_length _ _) HS.out H1.out (by omega) (by rw [HB.out]; omega) (by simp) ?_; intro v' w1 ho1 hg1 ha1; refine hK_ _ _ ?_; clear hK_)
  go_ret
  refine ⟨v', rfl, by simpa using ho1, ?_⟩
  exact pw_below_grown (below_alloc (Below.refl _ w) _) _ (by simp) hg1 (fun k hk => by cases hk; exact Nat.le_refl _)
end Go.Proofs.Ytfedlanbmibhkaa.P
/- A table of pieces: what lies in memory; what its methods do. -/
namespace Go.Proofs.Ytfedlanbmibhkaa.P
open Go.RowKit Go.Proofs.YtfedlanbmibhkaaW.PrintWords Go.Proofs.YtfedlanbmibhkaaW.PrintLast Go.Proofs.YtfedlanbmibhkaaW.PrintMore
set_option linter.unusedVariables false
set_option linter.unusedSimpArgs false
/-- a slice of numbers, told by its block -/
def Bl_b (w : World) (C : Nat → Prop) (v : Value) (p : List Int) : Prop :=
  ∃ g o c cs, v = .slice (some ⟨g, o, none⟩) p.length c ∧ C g ∧ w.heap[g]? = some (.cells cs 5 (0, 0)) ∧ p.length ≤ c ∧ c ≤ 9223372036854775807 ∧ ∀ j x, p[j]? = some x → cs[o + j]? = some (.int .u8 x)
/-- a table -/
structure Tab_b (B : Nat) (w : World) (t : Nat) (C : Nat → Prop) (v : Value) (ps : List (List Int)) : Prop where
  lo : B ≤ t
  box : w.heap[t]? = some (.cells #[.bool true, v] 71 (0, 0))
  row : ∃ vs : List Value, w.ownsRow B 22 1 v ps.length vs ∧ All2 (Bl_b w C) vs ps
  full : Full ps
theorem Bl_b.move {w w' : World} {C C' : Nat → Prop} {v : Value} {p : List Int} (h : Bl_b w C v p) (hC : ∀ g, C g → C' g) (hm : ∀ g, g < w.heap.size → C g → w'.heap[g]? = w.heap[g]?) : Bl_b w' C' v p := by
  obtain ⟨g, o, c, cs, e, hc, hb, h1, h2, h3⟩ := h
  exact ⟨g, o, c, cs, e, hC g hc, (hm g (blk_lt hb) hc).trans hb, h1, h2, h3⟩
theorem Bl_b.one {w : World} {C : Nat → Prop} {v : Value} {p : List Int} (h : Bl_b w C v p) : v.oneCell' = true := by
  obtain ⟨g, o, c, cs, rfl, _⟩ := h; rfl
theorem Bl_b.reads {w : World} {C : Nat → Prop} {v : Value} {p : List Int} (h : Bl_b w C v p) : ∃ A c, v = .slice A p.length c ∧ p.length ≤ c ∧ c ≤ 9223372036854775807 ∧ Kd.C (Kd.int .u8) w A p.length p := by
  obtain ⟨g, o, c, cs, rfl, hc, hb, h1, h2, h3⟩ := h
  refine ⟨_, c, rfl, h1, h2, rfl, by omega, fun hp => ⟨⟨g, o, none⟩, rfl, fun j x hx => ⟨[.int .u8 x], rfl, rfl, fun i u hu => ?_⟩⟩⟩
  cases i with
  | zero => cases hu; show w.cell? ((⟨g, o, none⟩ : Addr).add (j * 1 + 0)) = _; rw [Nat.mul_one, Nat.add_zero, add_at, blk_cell hb]; exact h3 j x hx
  | succ i => cases hu
theorem Tab_b.move {B : Nat} {w w' : World} {t : Nat} {C : Nat → Prop} {v : Value} {ps : List (List Int)} (h : Tab_b B w t C v ps) (hm : ∀ g, g < w.heap.size → g = t ∨ v.ownBlock = some g ∨ C g → w'.heap[g]? = w.heap[g]?) : Tab_b B w' t C v ps := by
  obtain ⟨vs, ho, hr⟩ := h.row
  refine ⟨h.lo, (hm t (blk_lt h.box) (.inl rfl)).trans h.box, ⟨vs, ?_, hr.imp fun u p hb => hb.move (fun _ a => a) (fun g hg hc => hm g hg (.inr (.inr hc)))⟩, h.full⟩
  rcases own_rowAt ho with ⟨rfl, h0, rfl⟩ | ⟨g, cap, cur, rfl, hR⟩
  · rw [h0]; exact World.ownsRow_nil _ _ _ _
  · exact (hR.move (hm g (blk_lt hR.blk) (.inr (.inl rfl)))).own
theorem Tab_b.below {B : Nat} {w w' : World} {t : Nat} {C : Nat → Prop} {v : Value} {ps : List (List Int)} (h : Tab_b B w t C v ps) (hb : Below w.heap.size w w') : Tab_b B w' t C v ps := h.move (fun g hg _ => hb.block g hg)
theorem Tab_b.cells {B : Nat} {w : World} {t : Nat} {C : Nat → Prop} {v : Value} {ps : List (List Int)} (h : Tab_b B w t C v ps) : w.cell? ⟨t, 0, none⟩ = some (.bool true) ∧ w.cell? ⟨t, 1, none⟩ = some v ∧ w.frozen? ⟨t, 1, none⟩ = false :=
  ⟨blk_cell h.box 0, blk_cell h.box 1, blk_frozen h.box 1⟩

set_option maxHeartbeats 1000000 in
theorem none_calls_b {B : Nat} {w : World} {t : Nat} {C : Nat → Prop} {v : Value} {ps : List (List Int)} (h : Tab_b B w t C v ps) : Calls Try.prog 37 #[.pointer (some ⟨t, 0, none⟩)] w fun e w' => e = .returned (.bool false) ∧ w = w' := by
  obtain ⟨h0, -, -⟩ := h.cells
  clear h
  go_enter Try.func37, Try.ntmps37
  go_wp2
  go_ret
  exact ⟨rfl, rfl⟩
--b
set_option maxHeartbeats 1000000 in
theorem pieces_calls_b {B : Nat} {w : World} {t : Nat} {C : Nat → Prop} {v : Value} {ps : List (List Int)} (h : Tab_b B w t C v ps) : Calls Try.prog 26 #[.pointer (some ⟨t, 0, none⟩)] w fun e w' => e = .returned (.int .i64 (ps.length : Int)) ∧ w = w' := by
  obtain ⟨-, h1, -⟩ := h.cells
  obtain ⟨vs, ho, hr⟩ := h.row
  obtain ⟨A, c, rfl⟩ := own_slice ho
  have H := Aside0.mk h
  clear h ho hr
  go_enter Try.func26, Try.ntmps26
  go_wp2_with (go_at_call 37; refine (none_calls_b H.out).mono ?_; rintro e w' ⟨rfl, rfl⟩)
  go_ret
  exact ⟨rfl, rfl⟩
--end
set_option maxHeartbeats 1000000 in
theorem len_calls_b {B : Nat} {w : World} {t : Nat} {C : Nat → Prop} {v : Value} {ps : List (List Int)} (h : Tab_b B w t C v ps) (hs : ps.flatten.length ≤ 4611686018427387904) (N : Nat) (hN : ps.flatten.length = N) : Calls Try.prog 25 #[.pointer (some ⟨t, 0, none⟩)] w fun e w' => e = .returned (.int .i64 (N : Int)) ∧ w = w' := by
  subst hN
  obtain ⟨-, h1, -⟩ := h.cells
  obtain ⟨vs, ho, hr⟩ := h.row
  obtain ⟨A, c, rfl⟩ := own_slice ho
  have H := Aside0.mk h
  have HR := Aside0.mk hr
  have HO := Aside0.mk ho
  have hm := full_le h.full
  have hm' : ps.length ≤ 9223372036854775807 := by omega
  clear h ho hr hm
  go_enter Try.func25, Try.ntmps25
  go_wp2_with (go_at_call 37; refine (none_calls_b H.out).mono ?_; rintro e w' ⟨rfl, rfl⟩)
  go_loop [3, 13] (fun m i => ∃ q : Nat, q ≤ ps.length ∧ i = .int .i64 q ∧ m = .int .i64 ((ps.take q).flatten.length : Int)) (fun _ i => ps.length - (intOf i).toNat)
  case atStart => exact ⟨0, Nat.zero_le _, rfl, by simp⟩
  case round =>
    obtain ⟨q, hq, rfl, rfl⟩ := hrel
    by_cases hlt : q < ps.length
    · obtain ⟨p, hp⟩ := getElem_lt hlt
      obtain ⟨u, hu⟩ := getElem_lt (show q < vs.length by have := HO.out.1; omega)
      obtain ⟨g, o, c', cs, rfl, -, -, -⟩ := HR.out.get q u p hu hp
      obtain ⟨g1, cap, cur, e1, hR⟩ : ∃ g1 cap cur, (Value.slice A ps.length c) = .slice (some ⟨g1, 0, none⟩) ps.length cap ∧ RowAt w B g1 ps.length cap 22 cur vs := by
        rcases own_rowAt HO.out with ⟨e, h0, -⟩ | h
        · omega
        · exact h
      injection e1 with e1 _ e3
      subst e1; subst e3
      have hcell := hR.cell q _ hu
      have hts := flat_take_succ hp
      have htl := flat_take_le ps (q + 1)
      generalize hM : (ps.take q).flatten.length = M at hts ⊢
      have HT := Aside0.mk hts
      have hb1 : (M : Int) + (p.length : Int) ≤ 9223372036854775807 := by omega
      clear hR hts hM hp hu htl
      go_wp2
      go_round
      case rel => exact ⟨q + 1, by omega, by go_num, by rw [HT.out]; go_num⟩
      case measure => simp [intOf]; omega
    · obtain rfl : q = ps.length := by omega
      rw [List.take_length] 
      go_wp2
      go_ret
      exact ⟨rfl, rfl⟩
/-- what a method turns: its box and its row of pieces -/
structure Eff_b (t : Nat) (own : Option Nat) (w w' : World) : Prop where
  os : w'.os = w.os
  tape : w'.tape = w.tape
  output : w'.output = w.output
  size : w.heap.size ≤ w'.heap.size
  blk : ∀ g, g < w.heap.size → g ≠ t → some g ≠ own → w'.heap[g]? = w.heap[g]?
theorem Eff_b.refl (t : Nat) (own : Option Nat) (w : World) : Eff_b t own w w := ⟨rfl, rfl, rfl, Nat.le_refl _, fun _ _ _ _ => rfl⟩
theorem Eff_b.trans {t : Nat} {own own1 : Option Nat} {w w1 w2 : World} (h : Eff_b t own w w1) (k : Eff_b t own1 w1 w2) (ho : own1 = own ∨ ∃ b, own1 = some b ∧ w.heap.size ≤ b) : Eff_b t own w w2 :=
  ⟨k.os.trans h.os, k.tape.trans h.tape, k.output.trans h.output, Nat.le_trans h.size k.size, fun g hg h1 h2 => (k.blk g (Nat.lt_of_lt_of_le hg h.size) h1 (by
    rcases ho with rfl | ⟨c, rfl, hc⟩
    · exact h2
    · intro e; injection e with e; omega)).trans (h.blk g hg h1 h2)⟩
theorem Eff_b.of_below {t : Nat} {own : Option Nat} {w w' : World} (h : Below w.heap.size w w') : Eff_b t own w w' := ⟨h.os, h.tape, h.output, h.size, fun g hg _ _ => h.block g hg⟩
theorem Eff_b.of_grown {t : Nat} {own : Option Nat} {w w' : World} (h : w.grownBy w' own) : Eff_b t own w w' := ⟨h.os, h.tape, h.output, h.size, fun g hg _ h2 => h.block g hg h2⟩
theorem Eff_b.set {t : Nat} {own : Option Nat} {w w' : World} (h : Eff_b t own w w') (o : Nat) (u : Value) : Eff_b t own w (w'.setCell ⟨t, o, none⟩ u) :=
  ⟨h.os, h.tape, h.output, by simpa [World.setCell] using h.size, fun g hg h1 h2 => (Below.heap_setCell w' ⟨t, o, none⟩ u g h1).trans (h.blk g hg h1 h2)⟩
theorem Eff_b.to_below {B t : Nat} {own : Option Nat} {w w' : World} (h : Eff_b t own w w') (ht : B ≤ t) (ho : ∀ b, own = some b → B ≤ b) {w0 : World} (hb : Below B w0 w) (hB : B ≤ w.heap.size) : Below B w0 w' :=
  ⟨h.os.trans hb.os, h.tape.trans hb.tape, h.output.trans hb.output, Nat.le_trans hb.size h.size, fun g hg => (h.blk g (by omega) (by omega) (fun e => by have := ho g e.symm; omega)).trans (hb.block g hg)⟩
theorem Tab_b.ownB {B : Nat} {w : World} {t : Nat} {C : Nat → Prop} {v : Value} {ps : List (List Int)} (h : Tab_b B w t C v ps) : ∀ b, v.ownBlock = some b → B ≤ b ∧ b < w.heap.size ∧ b ≠ t := fun b hb => by
  obtain ⟨vs, ho, -⟩ := h.row
  rcases own_rowAt ho with ⟨rfl, h0, rfl⟩ | ⟨g, cap, cur, rfl, hR⟩
  · cases hb
  · cases hb
    exact ⟨hR.lo, blk_lt hR.blk, blk_ne hR.blk h.box (by decide)⟩
theorem bl_made_b {w : World} {base : Nat} {A : Option Addr} {c : Nat} {xs : List Int} (h0 : 0 < xs.length) (ho : w.ownsRow base 5 1 (.slice A xs.length c) xs.length (nums .u8 xs)) {C : Nat → Prop} (hC : ∀ g, base ≤ g → g < w.heap.size → C g) : Bl_b w C (.slice A xs.length c) xs := by
  rcases own_rowAt ho with ⟨-, h, -⟩ | ⟨g, cap, cur, e, hR⟩
  · omega
  · injection e with e1 _ e3
    subst e1; subst e3
    refine ⟨g, 0, c, cur, rfl, hC g hR.lo (blk_lt hR.blk), hR.blk, hR.nc, hR.cm, fun j x hx => ?_⟩
    rw [Nat.zero_add, ← blk_cell hR.blk]
    exact hR.cell j _ (nums_get hx)
theorem put_close_b {B : Nat} {w : World} {t : Nat} {C : Nat → Prop} {v : Value} {ps : List (List Int)} (h : Tab_b B w t C v ps) {vs : List Value} (HO : w.ownsRow B 22 1 v ps.length vs) (HV : All2 (Bl_b w C) vs ps) (i : Nat) (hi : i ≤ ps.length) (xs : List Int) (h0 : 0 < xs.length)
    {w1 : World} {A1 : Option Addr} {c1 : Nat} (O1 : w1.ownsRow w.drew.heap.size 5 1 (.slice A1 xs.length c1) xs.length (nums .u8 xs)) (S1 : Below w.drew.heap.size w.drew w1)
    {w2 : World} {A2 : Option Addr} {c2 : Nat} {o : Obj} (O2 : w2.ownsRow B 22 1 (.slice A2 (ps.length + 1) c2) (ps.length + 1) (vs.take i ++ .slice A1 xs.length c1 :: vs.drop i)) (S2 : (w1.alloc o).grownBy w2 v.ownBlock) (N2 : (Value.slice A2 (ps.length + 1) c2).ownBlock = v.ownBlock ∨ ∃ b, (Value.slice A2 (ps.length + 1) c2).ownBlock = some b ∧ (w1.alloc o).heap.size ≤ b) :
    ∃ v', Tab_b B (w2.setCell ⟨t, 1, none⟩ (.slice A2 (ps.length + 1) c2)) t (fun g => C g ∨ w.heap.size ≤ g) v' (putS ps i xs) ∧ Eff_b t v.ownBlock w (w2.setCell ⟨t, 1, none⟩ (.slice A2 (ps.length + 1) c2)) ∧ (v'.ownBlock = v.ownBlock ∨ ∃ b, v'.ownBlock = some b ∧ w.heap.size ≤ b) := by
  have s1 : Below w.heap.size w w1 := ⟨S1.os, S1.tape, S1.output, S1.size, S1.block⟩
  have s2 : Below w.heap.size w (w1.alloc o) := below_alloc s1 o
  have hox : w.heap.size ≤ (w1.alloc o).heap.size := s2.size
  have hbox := h.box
  have ht := blk_lt hbox
  have hown : ∀ b, v.ownBlock = some b → b ≠ t := fun b hb => (h.ownB b hb).2.2
  have hb2 : w2.heap[t]? = some (.cells #[.bool true, v] 71 (0, 0)) := (S2.block t (Nat.lt_of_lt_of_le ht hox) (fun e => hown t e.symm rfl)).trans ((s2.block t ht).trans hbox)
  have eff : Eff_b t v.ownBlock w w2 := (Eff_b.of_below s2).trans (Eff_b.of_grown S2) (.inl rfl)
  have hb3 := blk_set hb2 1 (.slice A2 (ps.length + 1) c2)
  have hne := own_ne O2 hb2 (by decide)
  have O3 := own_setCell O2 (p := ⟨t, 1, none⟩) hne (.slice A2 (ps.length + 1) c2)
  have old : ∀ u p, Bl_b w C u p → Bl_b (w2.setCell ⟨t, 1, none⟩ (.slice A2 (ps.length + 1) c2)) (fun g => C g ∨ w.heap.size ≤ g) u p := by
    intro u p hb
    obtain ⟨g, o', c, cs, e, hc, hb, h1, h2, h3⟩ := hb
    have n1 : g ≠ t := blk_ne hb hbox (by decide)
    have n2 : some g ≠ v.ownBlock := by
      rcases own_rowAt HO with ⟨rfl, -, -⟩ | ⟨g2, cap, cur, rfl, hR⟩
      · simp [Value.ownBlock]
      · intro e; cases e; exact absurd rfl (blk_ne hb hR.blk (by decide))
    exact ⟨g, o', c, cs, e, .inl hc, ((eff.set 1 _).blk g (blk_lt hb) n1 n2).trans hb, h1, h2, h3⟩
  have hw1 : w1.heap.size ≤ (w1.alloc o).heap.size := by rw [World.size_alloc]; exact Nat.le_succ _
  have new : Bl_b (w2.setCell ⟨t, 1, none⟩ (.slice A2 (ps.length + 1) c2)) (fun g => C g ∨ w.heap.size ≤ g) (.slice A1 xs.length c1) xs := by
    refine (bl_made_b h0 O1 (C := fun g => w.heap.size ≤ g) (fun g hg _ => hg)).move (fun g hg => .inr hg) (fun g hg hc => ?_)
    have n1 : g ≠ t := by have : w.heap.size ≤ g := hc; omega
    refine (Below.heap_setCell w2 ⟨t, 1, none⟩ _ g n1).trans ((S2.block g (Nat.lt_of_lt_of_le hg hw1) (fun e => ?_)).trans (Below.heap_alloc w1 o g hg))
    have := (h.ownB g e.symm).2.1
    have : w.heap.size ≤ g := hc
    omega
  refine ⟨.slice A2 (ps.length + 1) c2, ⟨h.lo, hb3, ⟨vs.take i ++ .slice A1 xs.length c1 :: vs.drop i, ?_, ?_⟩, full_put h.full⟩, eff.set 1 _, ?_⟩
  · rw [putS_cons h0, show (ps.take i ++ xs :: ps.drop i).length = ps.length + 1 by rw [List.length_append, List.length_take, List.length_cons, List.length_drop]; omega]
    exact O3
  · rw [putS_cons h0]
    have H := HV.imp old
    exact (H.take i).append (.cons new (H.drop i))
  · rcases N2 with e | ⟨b, e, hb⟩
    · exact .inl e
    · exact .inr ⟨b, e, Nat.le_trans hox hb⟩

set_option maxHeartbeats 2000000 in
set_option maxRecDepth 100000 in
theorem put_some_b {B : Nat} {w : World} {t : Nat} {C : Nat → Prop} {v : Value} {ps : List (List Int)} (h : Tab_b B w t C v ps) (i : Nat) (hi : i ≤ ps.length) (hn : ps.length ≤ 1000000) (A : Option Addr) (c : Nat) (xs : List Int) (hr : Kd.C (Kd.int .u8) w A xs.length xs) (h0 : 0 < xs.length) (hx : xs.length * 1 ≤ 140737488355328) (hB : B ≤ w.heap.size) :
    Calls Try.prog 36 #[.pointer (some ⟨t, 0, none⟩), .int .i64 i, .slice A xs.length c] w fun e w' => e = .returned (.tuple #[]) ∧ ∃ v', Tab_b B w' t (fun g => C g ∨ w.heap.size ≤ g) v' (putS ps i xs) ∧ Eff_b t v.ownBlock w w' ∧ (v'.ownBlock = v.ownBlock ∨ ∃ b, v'.ownBlock = some b ∧ w.heap.size ≤ b) := by
  obtain ⟨-, hc1, hf1⟩ := h.cells
  obtain ⟨vs, ho, hrs⟩ := h.row
  have HT := Aside0.mk h
  have HS : Aside0 (w.cell? ⟨t, 1, none⟩ = some v ∧ w.frozen? ⟨t, 1, none⟩ = false) := ⟨⟨hc1, hf1⟩⟩
  have HO := Aside0.mk ho
  have HV := Aside0.mk hrs
  have HC := Aside0.mk hr
  have h1 : decide ((0 : Int) < (xs.length : Int)) = true := by simp; omega
  have HX : Aside0 (∀ x ∈ vs, x.oneCell' = true) := ⟨hrs.left fun _ _ hb => hb.one⟩
  clear h ho hrs hr hc1 hf1
  go_enter Try.func36, Try.ntmps36
  go_wp2
  obtain ⟨k0c, k0f⟩ := HS.out
  go_region_with ((first
      | (go_at_call 50; refine (cloneb_calls_b _ _ xs _ (Kd.C_drew HC.out) h0 hx).mono ?_; rintro e w1 ⟨u, rfl, ho1, hb1⟩; obtain ⟨A1, c1, rfl⟩ := own_slice ho1; have O1 := Aside0.mk ho1; have S1 := Aside0.mk hb1; have k1 := slot_grown (grown_of_below hb1 none) (by simp) HS.out; obtain ⟨k1c, k1f⟩ := k1; have k1b := slot_alloc (Obj.cells #[.slice A1 xs.length c1] 22) ⟨k1c, k1f⟩; obtain ⟨k1d, k1g⟩ := k1b; clear ho1 hb1)
      | (go_at_call 49; refine (insert_calls_b B ps.length i _ v vs (.slice A1 xs.length c1) _ (pw_own_below (pw_own_below HO.out.drew S1.out) (below_alloc (Below.refl _ w1) _)) hi hn (heap_alloc_new w1 _) (fun e_ => absurd (HT.out.ownB _ e_.symm).2.1 (Nat.not_lt.mpr S1.out.size)) HX.out rfl (Nat.le_trans hB (Nat.le_trans S1.out.size (by rw [World.size_alloc]; exact Nat.le_succ _)))).mono ?_; rintro e w2 ⟨v2, rfl, ho2, hg2, ha2⟩; obtain ⟨A2, c2, rfl⟩ := own_slice ho2; have O2 := Aside0.mk ho2; have S2 := Aside0.mk hg2; have N2 := Aside0.mk ha2; have k2 := slot_grown hg2 (fun e_ => (HT.out.ownB _ e_.symm).2.2 rfl) (slot_alloc (Obj.cells #[.slice A1 xs.length c1] 22) ⟨k1c, k1f⟩); obtain ⟨k2c, k2f⟩ := k2; clear ho2 hg2 ha2)))
  all_goals go_wp2
  all_goals go_end0
  all_goals exact ⟨rfl, put_close_b HT.out HO.out HV.out i hi xs h0 O1.out S1.out O2.out S2.out N2.out⟩
end Go.Proofs.Ytfedlanbmibhkaa.P
/- A table of pieces: New, Snap, cut, Replace. -/
namespace Go.Proofs.Ytfedlanbmibhkaa.P
open Go.RowKit Go.Proofs.YtfedlanbmibhkaaW.PrintWords Go.Proofs.YtfedlanbmibhkaaW.PrintLast Go.Proofs.YtfedlanbmibhkaaW.PrintMore
set_option linter.unusedVariables false
set_option linter.unusedSimpArgs false
theorem Tab_b.weaken {B : Nat} {w : World} {t : Nat} {C C' : Nat → Prop} {v : Value} {ps : List (List Int)} (h : Tab_b B w t C v ps) (hC : ∀ g, C g → C' g) : Tab_b B w t C' v ps := by
  obtain ⟨vs, ho, hr⟩ := h.row
  exact ⟨h.lo, h.box, ⟨vs, ho, hr.imp fun u p hb => hb.move hC fun _ _ _ => rfl⟩, h.full⟩
/-- what a method leaves -/
def Left_b (B : Nat) (t : Nat) (C : Nat → Prop) (v : Value) (ps : List (List Int)) (w w' : World) : Prop :=
  ∃ v', Tab_b B w' t C v' ps ∧ Eff_b t v.ownBlock w w' ∧ (v'.ownBlock = v.ownBlock ∨ ∃ b, v'.ownBlock = some b ∧ w.heap.size ≤ b)
theorem Left_b.trans {B t : Nat} {C C' : Nat → Prop} {v : Value} {ps ps' : List (List Int)} {w w1 w2 : World} (h : Left_b B t C v ps w w1) (k : ∀ v1, Tab_b B w1 t C v1 ps → Left_b B t C' v1 ps' w1 w2) : Left_b B t C' v ps' w w2 := by
  obtain ⟨v1, h1, h2, h3⟩ := h
  obtain ⟨v2, k1, k2, k3⟩ := k v1 h1
  refine ⟨v2, k1, h2.trans k2 h3, ?_⟩
  rcases k3 with e | ⟨b, e, hb⟩
  · rcases h3 with f | ⟨b, f, hb⟩
    · exact .inl (e.trans f)
    · exact .inr ⟨b, e.trans f, hb⟩
  · exact .inr ⟨b, e, Nat.le_trans h2.size hb⟩
set_option maxHeartbeats 1000000 in
theorem put_none_b {B : Nat} {w : World} {t : Nat} {C : Nat → Prop} {v : Value} {ps : List (List Int)} (h : Tab_b B w t C v ps) (i : Nat) (A : Option Addr) (c : Nat) :
    Calls Try.prog 36 #[.pointer (some ⟨t, 0, none⟩), .int .i64 i, .slice A 0 c] w fun e w' => e = .returned (.tuple #[]) ∧ w = w' := by
  clear h
  go_enter Try.func36, Try.ntmps36
  go_wp2
  go_end0
  exact ⟨rfl, rfl⟩
theorem put_calls_b {B : Nat} {w : World} {t : Nat} {C : Nat → Prop} {v : Value} {ps : List (List Int)} (h : Tab_b B w t C v ps) (i : Nat) (hi : i ≤ ps.length) (hn : ps.length ≤ 1000000) (A : Option Addr) (c : Nat) (xs : List Int) (hr : Kd.C (Kd.int .u8) w A xs.length xs) (hx : xs.length * 1 ≤ 140737488355328) (hB : B ≤ w.heap.size) :
    Calls Try.prog 36 #[.pointer (some ⟨t, 0, none⟩), .int .i64 i, .slice A xs.length c] w fun e w' => e = .returned (.tuple #[]) ∧ Left_b B t (fun g => C g ∨ w.heap.size ≤ g) v (putS ps i xs) w w' := by
  by_cases h0 : 0 < xs.length
  · exact put_some_b h i hi hn A c xs hr h0 hx hB
  · have e : xs = [] := List.eq_nil_of_length_eq_zero (by omega)
    subst e
    refine (put_none_b h i A c).mono ?_
    rintro e w' ⟨rfl, rfl⟩
    exact ⟨rfl, v, h.weaken fun _ => .inl, Eff_b.refl _ _ _, .inl rfl⟩
set_option maxHeartbeats 1000000 in
/-- New -/
theorem new_calls_b {B : Nat} {w : World} (A : Option Addr) (c : Nat) (xs : List Int) (hr : Kd.C (Kd.int .u8) w A xs.length xs) (hx : xs.length * 1 ≤ 140737488355328) (hB : B ≤ w.heap.size) :
    Calls Try.prog 13 #[.slice A xs.length c] w fun e w' => ∃ t v, e = .returned (.pointer (some ⟨t, 0, none⟩)) ∧ Tab_b B w' t (fun g => w.heap.size ≤ g) v (newS xs) ∧ Below w.heap.size w w' ∧ w.heap.size ≤ t ∧ ∀ b, v.ownBlock = some b → w.heap.size ≤ b := by
  have HC := Aside0.mk hr
  have HT : Aside0 (Tab_b B (w.alloc (.cells #[.bool true, .slice none 0 0] 71)) w.heap.size (fun _ => False) (.slice none 0 0) []) := ⟨⟨hB, heap_alloc_new w _, ⟨[], World.ownsRow_nil _ _ _ _, .nil⟩, full_nil⟩⟩
  clear hr
  go_enter Try.func13, Try.ntmps13
  go_wp2_with (go_at_call 36; refine (put_calls_b HT.out 0 (Nat.le_refl _) (by simp) A c xs (Kd.C_alloc HC.out _) hx (Nat.le_trans hB (by rw [World.size_alloc]; exact Nat.le_succ _))).mono ?_; rintro e w1 ⟨rfl, hl⟩; have HL := Aside0.mk hl; clear hl)
  go_ret
  obtain ⟨v', h1, h2, h3⟩ := HL.out
  rw [putS_new] at h1
  refine ⟨w.heap.size, v', rfl, h1.weaken fun g hg => ?_, ?_, Nat.le_refl _, fun b hb => ?_⟩
  · rcases hg with hg | hg
    · exact hg.elim
    · rw [World.size_alloc] at hg; omega
  · exact h2.to_below (Nat.le_refl _) (fun b e => by cases e) (below_alloc (Below.refl _ w) _) (by rw [World.size_alloc]; exact Nat.le_succ _)
  · rcases h3 with e | ⟨b', e, hb'⟩
    · rw [e] at hb; cases hb
    · rw [e] at hb; cases hb; rw [World.size_alloc] at hb'; omega
--b
set_option maxHeartbeats 1000000 in
/-- Snap -/
theorem snap_calls_b {B : Nat} {w : World} {t : Nat} {C : Nat → Prop} {v : Value} {ps : List (List Int)} (h : Tab_b B w t C v ps) (hn : ps.length ≤ 1000000) (hB : B ≤ w.heap.size) :
    Calls Try.prog 17 #[.pointer (some ⟨t, 0, none⟩)] w fun e w' => ∃ t' v', e = .returned (.pointer (some ⟨t', 0, none⟩)) ∧ Tab_b B w' t' C v' ps ∧ Below w.heap.size w w' ∧ w.heap.size ≤ t' ∧ ∀ b, v'.ownBlock = some b → w.heap.size ≤ b := by
  obtain ⟨-, h1, -⟩ := h.cells
  obtain ⟨vs, ho, hr⟩ := h.row
  have H := Aside0.mk h
  have HO := Aside0.mk ho
  have HR := Aside0.mk hr
  have HX : Aside0 (∀ x ∈ vs, x.oneCell' = true) := ⟨hr.left fun _ _ hb => hb.one⟩
  clear h ho hr
  go_enter Try.func17, Try.ntmps17
  go_wp2_with (first
    | (go_at_call 37; refine (none_calls_b H.out).mono ?_; rintro e w' ⟨rfl, rfl⟩)
    | (go_at_call 38; refine (clone_calls_b B ps.length v vs _ HO.out hn HX.out).mono ?_; rintro e w1 ⟨v1, rfl, ho1, hb1⟩; obtain ⟨A1, c1, rfl⟩ := own_slice ho1; have O1 := Aside0.mk ho1; have S1 := Aside0.mk hb1; clear ho1 hb1))
  go_ret
  have hsz := S1.out.size
  refine ⟨w1.heap.size, .slice A1 ps.length c1, rfl, ⟨Nat.le_trans hB hsz, heap_alloc_new w1 _, ⟨vs, own_lower (pw_own_below O1.out (below_alloc (Below.refl _ w1) _)) hB, ?_⟩, H.out.full⟩, below_alloc S1.out _, hsz, fun b hb => own_base O1.out b hb⟩
  exact HR.out.imp fun u p hb => hb.move (fun _ a => a) fun g hg _ => (below_alloc S1.out _).block g hg
--end
end Go.Proofs.Ytfedlanbmibhkaa.P
/- A table of pieces: cut. -/
namespace Go.Proofs.Ytfedlanbmibhkaa.P
open Go.RowKit Go.Proofs.YtfedlanbmibhkaaW.PrintWords Go.Proofs.YtfedlanbmibhkaaW.PrintLast Go.Proofs.YtfedlanbmibhkaaW.PrintMore
set_option linter.unusedVariables false
set_option linter.unusedSimpArgs false

theorem cut_close_b {B : Nat} {w : World} {t : Nat} {C : Nat → Prop} {v : Value} {ps : List (List Int)} (h : Tab_b B w t C v ps) {vs : List Value} (HO : w.ownsRow B 22 1 v ps.length vs) (HV : All2 (Bl_b w C) vs ps) (q : Nat) (p : List Int) (hp : ps[q]? = some p) (m : Nat) (h0 : m ≠ 0) (hm : m < p.length)
    {g o' c' : Nat} (hu : vs[q]? = some (.slice (some ⟨g, o', none⟩) p.length c'))
    {w2 : World} {A2 : Option Addr} {c2 : Nat} {o : Obj} (O2 : w2.ownsRow B 22 1 (.slice A2 (ps.length + 1) c2) (ps.length + 1) (vs.take q ++ [.slice (some ⟨g, o', none⟩) m m, .slice (some ⟨g, o' + m, none⟩) (p.length - m) (c' - m)] ++ vs.drop (q + 1))) (S2 : (w.alloc o).grownBy w2 v.ownBlock) (N2 : (Value.slice A2 (ps.length + 1) c2).ownBlock = v.ownBlock ∨ ∃ b, (Value.slice A2 (ps.length + 1) c2).ownBlock = some b ∧ (w.alloc o).heap.size ≤ b) :
    Left_b B t C v (ps.take q ++ [p.take m, p.drop m] ++ ps.drop (q + 1)) w (w2.setCell ⟨t, 1, none⟩ (.slice A2 (ps.length + 1) c2)) := by
  have hq : q < ps.length := (List.getElem?_eq_some_iff.1 hp).1
  have s2 : Below w.heap.size w (w.alloc o) := below_alloc (Below.refl _ w) o
  have hox : w.heap.size ≤ (w.alloc o).heap.size := s2.size
  have hbox := h.box
  have ht := blk_lt hbox
  have hown : ∀ b, v.ownBlock = some b → b ≠ t := fun b hb => (h.ownB b hb).2.2
  have hb2 : w2.heap[t]? = some (.cells #[.bool true, v] 71 (0, 0)) := (S2.block t (Nat.lt_of_lt_of_le ht hox) (fun e => hown t e.symm rfl)).trans ((s2.block t ht).trans hbox)
  have eff : Eff_b t v.ownBlock w w2 := (Eff_b.of_below s2).trans (Eff_b.of_grown S2) (.inl rfl)
  have hb3 := blk_set hb2 1 (.slice A2 (ps.length + 1) c2)
  have hne := own_ne O2 hb2 (by decide)
  have O3 := own_setCell O2 (p := ⟨t, 1, none⟩) hne (.slice A2 (ps.length + 1) c2)
  have old : ∀ u p, Bl_b w C u p → Bl_b (w2.setCell ⟨t, 1, none⟩ (.slice A2 (ps.length + 1) c2)) C u p := by
    intro u p hb
    obtain ⟨g, o', c, cs, e, hc, hb, h1, h2, h3⟩ := hb
    have n1 : g ≠ t := blk_ne hb hbox (by decide)
    have n2 : some g ≠ v.ownBlock := by
      rcases own_rowAt HO with ⟨rfl, -, -⟩ | ⟨g2, cap, cur, rfl, hR⟩
      · simp [Value.ownBlock]
      · intro e; cases e; exact absurd rfl (blk_ne hb hR.blk (by decide))
    exact ⟨g, o', c, cs, e, hc, ((eff.set 1 _).blk g (blk_lt hb) n1 n2).trans hb, h1, h2, h3⟩
  have HN := HV.imp old
  obtain ⟨g', o1, c1, cs, e, hc, hb, h1, h2, h3⟩ := HN.get q _ p hu hp
  injection e with e1 _ e3
  injection e1 with e1
  injection e1 with ea eb
  subst ea; subst eb; subst e3
  have b1 : Bl_b (w2.setCell ⟨t, 1, none⟩ (.slice A2 (ps.length + 1) c2)) C (.slice (some ⟨g, o', none⟩) m m) (p.take m) := by
    have hl : (p.take m).length = m := by rw [List.length_take]; omega
    refine ⟨g, o', m, cs, by rw [hl], hc, hb, by omega, by omega, fun j x hx => h3 j x ?_⟩
    rw [List.getElem?_take] at hx
    split at hx
    · exact hx
    · cases hx
  have b2 : Bl_b (w2.setCell ⟨t, 1, none⟩ (.slice A2 (ps.length + 1) c2)) C (.slice (some ⟨g, o' + m, none⟩) (p.length - m) (c' - m)) (p.drop m) := by
    refine ⟨g, o' + m, c' - m, cs, by rw [List.length_drop], hc, hb, by rw [List.length_drop]; omega, by omega, fun j x hx => ?_⟩
    rw [Nat.add_assoc]
    exact h3 (m + j) x (by rwa [List.getElem?_drop] at hx)
  refine ⟨.slice A2 (ps.length + 1) c2, ⟨h.lo, hb3, ⟨_, by
      rw [show (ps.take q ++ [p.take m, p.drop m] ++ ps.drop (q + 1)).length = ps.length + 1 by simp only [List.length_append, List.length_take, List.length_cons, List.length_nil, List.length_drop]; omega]
      exact O3, ((HN.take q).append (.cons b1 (.cons b2 .nil))).append (HN.drop (q + 1))⟩, ?_⟩, eff.set 1 _, ?_⟩
  · have hf := h.full
    refine full_append.mpr ⟨full_append.mpr ⟨fun x hx => hf x (List.mem_of_mem_take hx), full_cons.mpr ⟨?_, full_cons.mpr ⟨?_, full_nil⟩⟩⟩, fun x hx => hf x (List.mem_of_mem_drop hx)⟩
    · intro e; have := congrArg List.length e; rw [List.length_take] at this; simp only [List.length_nil] at this; omega
    · intro e; have := congrArg List.length e; rw [List.length_drop] at this; simp only [List.length_nil] at this; omega
  · rcases N2 with e | ⟨b, e, hb⟩
    · exact .inl e
    · exact .inr ⟨b, e, Nat.le_trans hox hb⟩

set_option maxHeartbeats 4000000 in
set_option maxRecDepth 100000 in
theorem cut_calls_b {B : Nat} {w : World} {t : Nat} {C : Nat → Prop} {v : Value} {ps : List (List Int)} (h : Tab_b B w t C v ps) (k : Nat) (hk : k ≤ ps.flatten.length) (hs : ps.flatten.length ≤ 4611686018427387904) (hn : ps.length ≤ 1000000) (hB : B ≤ w.heap.size) :
    Calls Try.prog 39 #[.pointer (some ⟨t, 0, none⟩), .int .i64 k] w fun e w' => e = .returned (.int .i64 ((cutS ps k).2 : Int)) ∧ Left_b B t C v (cutS ps k).1 w w' := by
  obtain ⟨-, hc1, hf1⟩ := h.cells
  obtain ⟨vs, ho, hr⟩ := h.row
  obtain ⟨A, c, rfl⟩ := own_slice ho
  have H := Aside0.mk h
  have HR := Aside0.mk hr
  have HO := Aside0.mk ho
  have HX : Aside0 (∀ x ∈ vs, x.oneCell' = true) := ⟨hr.left fun _ _ hb => hb.one⟩
  have HK := Aside0.mk hk
  have HSZ := Aside0.mk hs
  clear h ho hr hk hs
  go_enter Try.func39, Try.ntmps39
  go_wp2
  go_loop [1, 12] (fun a i => ∃ (q m : Nat), q ≤ ps.length ∧ i = .int .i64 q ∧ a = .int .i64 (m : Int) ∧ Aside0 (m + (ps.take q).flatten.length = k ∧ cutS ps k = (ps.take q ++ (cutS (ps.drop q) m).1, q + (cutS (ps.drop q) m).2))) (fun _ i => ps.length - (intOf i).toNat)
  case atStart => exact ⟨0, k, Nat.zero_le _, rfl, rfl, ⟨by simp, by simp⟩⟩
  case round =>
    obtain ⟨q, m, hq, rfl, rfl, hI⟩ := hrel
    have HM : Aside0 (m ≤ k) := ⟨by have := hI.out.1; omega⟩
    by_cases hlt : q < ps.length
    · obtain ⟨p, hp⟩ := getElem_lt hlt
      obtain ⟨u, hu⟩ := getElem_lt (show q < vs.length by have := HO.out.1; omega)
      have HU := Aside0.mk (HR.out.get q u p hu hp)
      have HPp := Aside0.mk hp
      have HUu := Aside0.mk hu
      obtain ⟨g, o, c', cs, rfl, hCg, hbk, hpc, hcm, hcs⟩ := HR.out.get q u p hu hp
      obtain ⟨g1, cap, cur, e1, hR⟩ : ∃ g1 cap cur, (Value.slice A ps.length c) = .slice (some ⟨g1, 0, none⟩) ps.length cap ∧ RowAt w B g1 ps.length cap 22 cur vs := by
        rcases own_rowAt HO.out with ⟨e, h0, -⟩ | h
        · omega
        · exact h
      injection e1 with e1 _ e3
      subst e1; subst e3
      have hcell := hR.cell q _ hu
      have hpl : p.length ≤ 4611686018427387904 := by
        have h1 := flat_take_succ hp
        have h2 := flat_take_le ps (q + 1)
        have := HSZ.out
        omega
      have hmk : m ≤ 4611686018427387904 := by have := HM.out; have := HK.out; have := HSZ.out; omega
      clear hR hp hu hCg hbk hcs
      by_cases hm0 : m = 0
      · subst hm0
        have e : cutS ps k = (ps, q) := by
          rw [hI.out.2]
          have h0 : cutS (ps.drop q) 0 = (ps.drop q, 0) := by cases ps.drop q <;> simp [cutS]
          rw [h0]; simp
        have HE := Aside0.mk e
        clear e
        go_wp2
        go_ret
        rw [HE.out]
        exact ⟨rfl, _, H.out, Eff_b.refl _ _ _, .inl rfl⟩
      · have hm1 : ((m : Int) == 0) = false := by simp; omega
        by_cases hmp : m < p.length
        · have hm2 : decide ((m : Int) < (p.length : Int)) = true := by simp; omega
          have hm3 : (m : Int) ≤ (p.length : Int) := by omega
          have hm4 : ¬ (c' = m) := by omega
          have hm5 : m ≤ c' := by omega
          go_wp2
          have hw1 : IntKind.i64.wrap ((q : Int) + 1) = (q : Int) + 1 := by rw [IntKind.wrap_i64]; omega
          obtain ⟨kac, kaf⟩ := slot_alloc (W := w) (Obj.cells #[.slice (some ⟨g, o, none⟩) m m, .slice (some ⟨g, o + m, none⟩) (p.length - m) (c' - m)] 22) ⟨hc1, hf1⟩
          go_region_with ((first
            | (go_at_call 51; refine (repl_calls_b B ps.length q w.heap.size _ vs (.slice (some ⟨g, o, none⟩) m m) (.slice (some ⟨g, o + m, none⟩) (p.length - m) (c' - m)) _ (pw_own_below HO.out (below_alloc (Below.refl _ w) _)).drew hlt hn (heap_alloc_new w _) (fun e_ => absurd (H.out.ownB _ e_.symm).2.1 (Nat.lt_irrefl _)) HX.out rfl rfl (Nat.le_trans hB (by rw [World.size_drew, World.size_alloc]; exact Nat.le_succ _))).mono ?_; rintro e w2 ⟨v2, rfl, ho2, hg2, ha2⟩; obtain ⟨A2, c2, rfl⟩ := own_slice ho2; have O2 := Aside0.mk ho2; have S2 := Aside0.mk hg2; have N2 := Aside0.mk ha2; have k2 := slot_grown hg2 (fun e_ => (H.out.ownB _ e_.symm).2.2 rfl) (slot_alloc (W := w) (Obj.cells #[.slice (some ⟨g, o, none⟩) m m, .slice (some ⟨g, o + m, none⟩) (p.length - m) (c' - m)] 22) ⟨hc1, hf1⟩); obtain ⟨k2c, k2f⟩ := k2; clear ho2 hg2 ha2)))
          all_goals go_wp2
          all_goals go_ret
          all_goals refine ⟨?_, ?_⟩
          all_goals first
            | (rw [hI.out.2, drop_get HPp.out]; simp only [cutS, if_neg hm0, if_pos hmp]; go_num)
            | (rw [hI.out.2, drop_get HPp.out]; simp only [cutS, if_neg hm0, if_pos hmp]; have hcl := cut_close_b H.out HO.out HR.out q p HPp.out m hm0 hmp HUu.out O2.out (grown_drew S2.out) N2.out; rw [List.append_assoc] at hcl; exact hcl)
        · have hm2 : decide ((m : Int) < (p.length : Int)) = false := by simp; omega
          have hm3 : (0 : Int) ≤ (m : Int) - (p.length : Int) := by omega
          go_wp2
          go_round
          case rel =>
            refine ⟨q + 1, m - p.length, by omega, by go_num, ret_num (by omega), ?_, ?_⟩
            · rw [flat_take_succ HPp.out]; have := hI.out.1; omega
            · rw [hI.out.2, drop_get HPp.out, take_get HPp.out]
              simp only [cutS, if_neg hm0, if_neg hmp, List.append_assoc, List.singleton_append, Prod.mk.injEq, true_and]
              omega
          case measure => simp [intOf]; omega
    · obtain rfl : q = ps.length := by omega
      have e : cutS ps k = (ps, ps.length) := by rw [hI.out.2]; simp [cutS]
      have HE := Aside0.mk e
      clear e
      go_wp2
      go_ret
      rw [HE.out]
      exact ⟨rfl, _, H.out, Eff_b.refl _ _ _, .inl rfl⟩
end Go.Proofs.Ytfedlanbmibhkaa.P
/- A table of pieces: Replace. -/
namespace Go.Proofs.Ytfedlanbmibhkaa.P
open Go.RowKit Go.Proofs.YtfedlanbmibhkaaW.PrintWords Go.Proofs.YtfedlanbmibhkaaW.PrintLast Go.Proofs.YtfedlanbmibhkaaW.PrintMore
set_option linter.unusedVariables false
set_option linter.unusedSimpArgs false
theorem del_close_b {B : Nat} {w : World} {t : Nat} {C : Nat → Prop} {v : Value} {ps : List (List Int)} (h : Tab_b B w t C v ps) {vs : List Value} (HO : w.ownsRow B 22 1 v ps.length vs) (HV : All2 (Bl_b w C) vs ps) (i j : Nat) (hij : i ≤ j) (hj : j ≤ ps.length)
    {w2 : World} {v2 : Value} (O2 : w2.ownsRow B 22 1 v2 (i + (ps.length - j)) (vs.take i ++ vs.drop j)) (S2 : w.grownBy w2 v.ownBlock) (N2 : v2.ownBlock = v.ownBlock) :
    Left_b B t C v (ps.take i ++ ps.drop j) w (w2.setCell ⟨t, 1, none⟩ v2) := by
  have hbox := h.box
  have ht := blk_lt hbox
  have hown : ∀ b, v.ownBlock = some b → b ≠ t := fun b hb => (h.ownB b hb).2.2
  have hb2 : w2.heap[t]? = some (.cells #[.bool true, v] 71 (0, 0)) := (S2.block t ht (fun e => hown t e.symm rfl)).trans hbox
  have eff : Eff_b t v.ownBlock w w2 := Eff_b.of_grown S2
  have hb3 := blk_set hb2 1 v2
  have hne := own_ne O2 hb2 (by decide)
  have O3 := own_setCell O2 (p := ⟨t, 1, none⟩) hne v2
  have old : ∀ u p, Bl_b w C u p → Bl_b (w2.setCell ⟨t, 1, none⟩ v2) C u p := by
    intro u p hb
    obtain ⟨g, o', c, cs, e, hc, hb, h1, h2, h3⟩ := hb
    have n1 : g ≠ t := blk_ne hb hbox (by decide)
    have n2 : some g ≠ v.ownBlock := by
      rcases own_rowAt HO with ⟨rfl, -, -⟩ | ⟨g2, cap, cur, rfl, hR⟩
      · simp [Value.ownBlock]
      · intro e; cases e; exact absurd rfl (blk_ne hb hR.blk (by decide))
    exact ⟨g, o', c, cs, e, hc, ((eff.set 1 _).blk g (blk_lt hb) n1 n2).trans hb, h1, h2, h3⟩
  have HN := HV.imp old
  refine ⟨v2, ⟨h.lo, hb3, ⟨_, by
      rw [show (ps.take i ++ ps.drop j).length = i + (ps.length - j) by simp only [List.length_append, List.length_take, List.length_drop]; omega]
      exact O3, (HN.take i).append (HN.drop j)⟩, ?_⟩, eff.set 1 _, .inl N2⟩
  have hf := h.full
  exact full_append.mpr ⟨fun x hx => hf x (List.mem_of_mem_take hx), fun x hx => hf x (List.mem_of_mem_drop hx)⟩

theorem C_mv_b {k : IntKind} {w w' : World} {A : Option Addr} {n : Nat} {xs : List Int} (h : Kd.C (Kd.int k) w A n xs) (hm : 0 < n → ∀ ad, A = some ad → ad.block < w.heap.size → w'.heap[ad.block]? = w.heap[ad.block]?) : Kd.C (Kd.int k) w' A n xs := by
  by_cases h0 : 0 < n
  · exact C_move h (hm h0)
  · exact ⟨h.1, h.2.1, fun hp => absurd hp h0⟩
set_option maxHeartbeats 4000000 in
set_option maxRecDepth 100000 in
theorem replace_calls_b {B : Nat} {w : World} {t : Nat} {C : Nat → Prop} {v : Value} {ps : List (List Int)} (h : Tab_b B w t C v ps) (f k : Nat) (hfk : f ≤ k) (hk : k ≤ ps.flatten.length) (hs : ps.flatten.length ≤ 4611686018427387904) (hn : ps.length ≤ 900000)
    (A : Option Addr) (c : Nat) (xs : List Int) (hr : Kd.C (Kd.int .u8) w A xs.length xs) (hx : xs.length * 1 ≤ 140737488355328) (hA : 0 < xs.length → ∀ ad, A = some ad → ad.block ≠ t ∧ some ad.block ≠ v.ownBlock) (hB : B ≤ w.heap.size) :
    Calls Try.prog 19 #[.pointer (some ⟨t, 0, none⟩), .int .i64 f, .int .i64 k, .slice A xs.length c] w fun e w' => e = .returned (.int .i64 0) ∧ Left_b B t (fun g => C g ∨ w.heap.size ≤ g) v (replS ps f k xs) w w' := by
  have HT := Aside0.mk h
  have HC := Aside0.mk hr
  obtain ⟨q1, q2, q3, q4⟩ := cutS_facts ps f (by omega) h.full
  obtain ⟨r1, r2, r3, r4⟩ := cutS_facts (cutS ps f).1 k (by rw [q1]; exact hk) q2
  have r5 := cutS_mono ps f k hfk hk h.full
  have hlt1 : decide ((f : Int) < 0) = false := by simp
  have hlt2 : decide (k < f) = false := decide_eq_false (by omega)
  obtain ⟨N, hN⟩ : ∃ N, ps.flatten.length = N := ⟨_, rfl⟩
  have hlt3 : decide (N < k) = false := decide_eq_false (by omega)
  have HN := Aside0.mk hN
  have HS := Aside0.mk hs
  have HK := Aside0.mk hk
  have HQ : Aside0 ((cutS ps f).1.flatten.length = ps.flatten.length ∧ (cutS ps f).1.length ≤ ps.length + 1 ∧ (cutS (cutS ps f).1 k).1.length ≤ ps.length + 2 ∧ (cutS ps f).2 ≤ (cutS (cutS ps f).1 k).2 ∧ (cutS (cutS ps f).1 k).2 ≤ (cutS (cutS ps f).1 k).1.length) := ⟨⟨by rw [q1], q3, by omega, r5, r4⟩⟩
  clear h hr q1 q2 q3 q4 r1 r2 r3 r4 r5 hN hs hk
  go_enter Try.func19, Try.ntmps19
  go_wp2_with (first
    | (go_at_call 37; (with_reducible refine (none_calls_b HT.out).mono ?_); rintro e w' ⟨rfl, rfl⟩)
    | (go_at_call 25; (with_reducible refine (len_calls_b HT.out HS.out N HN.out).mono ?_); rintro e w' ⟨rfl, rfl⟩)
    | (go_at_call 39; (with_reducible refine (cut_calls_b HT.out f (by have := HK.out; omega) HS.out (by omega) hB).mono ?_); rintro e w1 ⟨rfl, v1, T1_, E1_, N1_⟩; have T1 := Aside0.mk T1_; have E1 := Aside0.mk E1_; have N1 := Aside0.mk N1_; clear T1_ E1_ N1_)
    | (go_at_call 39; (with_reducible refine (cut_calls_b T1.out k (by rw [HQ.out.1]; exact HK.out) (by rw [HQ.out.1]; exact HS.out) (by have := HQ.out; omega) (Nat.le_trans hB E1.out.size)).mono ?_); rintro e w2 ⟨rfl, v2, T2_, E2_, N2_⟩; have T2 := Aside0.mk T2_; have E2 := Aside0.mk E2_; have N2 := Aside0.mk N2_; obtain ⟨vs2, ho2, hr2⟩ := T2_.row; have O2 := Aside0.mk ho2; have R2 := Aside0.mk hr2; have X2 : Aside0 (∀ x ∈ vs2, x.oneCell' = true) := ⟨hr2.left fun _ _ hb => hb.one⟩; obtain ⟨-, k2, f2⟩ := T2_.cells; clear T2_ E2_ N2_ ho2 hr2)
    | (go_at_call 40; (with_reducible refine (del_calls_b B _ (cutS ps f).2 (cutS (cutS ps f).1 k).2 v2 vs2 _ O2.out HQ.out.2.2.2.1 HQ.out.2.2.2.2 (by have := HQ.out; omega) X2.out).mono ?_); rintro e w3 ⟨v3, rfl, ho3, hg3, ha3⟩; obtain ⟨A3, c3, rfl⟩ := own_slice ho3; have O3 := Aside0.mk ho3; have S3 := Aside0.mk hg3; have N3 := Aside0.mk ha3; have kk := slot_grown hg3 (fun e_ => (T2.out.ownB _ e_.symm).2.2 rfl) ⟨k2, f2⟩; obtain ⟨k3, f3⟩ := kk; have D3 := Aside0.mk (del_close_b T2.out O2.out R2.out _ _ HQ.out.2.2.2.1 HQ.out.2.2.2.2 ho3 hg3 ha3); clear ho3 hg3 ha3; obtain ⟨v4, T4_, E4_, N4_⟩ := D3.out; have T4 := Aside0.mk T4_; have N21 := Aside0.mk (own_chain N2.out N1.out E1.out.size); have E4 := Aside0.mk ((E1.out.trans E2.out N1.out).trans E4_ N21.out); have N4 := Aside0.mk (own_chain N4_ N21.out (Nat.le_trans E1.out.size E2.out.size)); clear T4_ E4_ N4_)
    | (go_at_call 36; (with_reducible refine (put_calls_b T4.out (cutS ps f).2 (by have := HQ.out; rw [List.length_append, List.length_take, List.length_drop]; omega) (by have := HQ.out; rw [List.length_append, List.length_take, List.length_drop]; omega) A c xs (C_mv_b HC.out (fun h0_ ad e_ h_ => E4.out.blk _ h_ (hA h0_ ad e_).1 (hA h0_ ad e_).2)) hx (Nat.le_trans hB E4.out.size)).mono ?_); rintro e w5 ⟨rfl, L5_⟩; have L5 := Aside0.mk L5_; clear L5_))
  go_ret
  refine ⟨rfl, ?_⟩
  obtain ⟨v5, T5, E5, N5⟩ := L5.out
  refine ⟨v5, T5.weaken fun g hg => hg.imp id fun hg => Nat.le_trans E4.out.size hg, E4.out.trans E5 N4.out, own_chain N5 N4.out E4.out.size⟩

set_option maxHeartbeats 4000000 in
set_option maxRecDepth 100000 in
theorem replace_no_b {B : Nat} {w : World} {t : Nat} {C : Nat → Prop} {v : Value} {ps : List (List Int)} (h : Tab_b B w t C v ps) (f k : Int) (hbad : ¬ (0 ≤ f ∧ f ≤ k ∧ k ≤ (ps.flatten.length : Int))) (hs : ps.flatten.length ≤ 4611686018427387904)
    (A : Option Addr) (n c : Nat) :
    Calls Try.prog 19 #[.pointer (some ⟨t, 0, none⟩), .int .i64 f, .int .i64 k, .slice A n c] w fun e w' => e = .returned (.int .i64 9) ∧ w = w' := by
  have HT := Aside0.mk h
  have HS := Aside0.mk hs
  obtain ⟨N, hN⟩ : ∃ N, ps.flatten.length = N := ⟨_, rfl⟩
  rw [hN] at hbad
  have HN := Aside0.mk hN
  clear h hs hN
  by_cases h1 : f < 0
  · have e1 : decide (f < 0) = true := decide_eq_true h1
    clear hbad
    go_enter Try.func19, Try.ntmps19
    go_wp2_with (first
      | (go_at_call 37; (with_reducible refine (none_calls_b HT.out).mono ?_); rintro e w' ⟨rfl, rfl⟩)
      | (go_at_call 25; (with_reducible refine (len_calls_b HT.out HS.out N HN.out).mono ?_); rintro e w' ⟨rfl, rfl⟩))
    all_goals (go_ret; exact ⟨rfl, rfl⟩)
  · have e1 : decide (f < 0) = false := decide_eq_false h1
    by_cases h2 : k < f
    · have e2 : decide (k < f) = true := decide_eq_true h2
      clear hbad
      go_enter Try.func19, Try.ntmps19
      go_wp2_with (first
        | (go_at_call 37; (with_reducible refine (none_calls_b HT.out).mono ?_); rintro e w' ⟨rfl, rfl⟩)
        | (go_at_call 25; (with_reducible refine (len_calls_b HT.out HS.out N HN.out).mono ?_); rintro e w' ⟨rfl, rfl⟩))
      all_goals (go_ret; exact ⟨rfl, rfl⟩)
    · have e2 : decide (k < f) = false := decide_eq_false h2
      have e3 : decide ((N : Int) < k) = true := decide_eq_true (by omega)
      clear hbad
      go_enter Try.func19, Try.ntmps19
      go_wp2_with (first
        | (go_at_call 37; (with_reducible refine (none_calls_b HT.out).mono ?_); rintro e w' ⟨rfl, rfl⟩)
        | (go_at_call 25; (with_reducible refine (len_calls_b HT.out HS.out N HN.out).mono ?_); rintro e w' ⟨rfl, rfl⟩))
      all_goals (go_ret; exact ⟨rfl, rfl⟩)
end Go.Proofs.Ytfedlanbmibhkaa.P
/- A table of pieces: the range over its elements. -/
namespace Go.Proofs.Ytfedlanbmibhkaa.P
open Go.RowKit Go.Shelf Go.Proofs.YtfedlanbmibhkaaW.PrintWords Go.Proofs.YtfedlanbmibhkaaW.PrintLast Go.Proofs.YtfedlanbmibhkaaW.PrintMore
set_option linter.unusedVariables false
set_option linter.unusedSimpArgs false
attribute [local go_sem] Oper.semAt_some
set_option maxRecDepth 100000 in
set_option maxHeartbeats 4000000 in
theorem all1_in_b {B : Nat} {w : World} {t : Nat} {C : Nat → Prop} {v : Value} {ps : List (List Int)} (h : Tab_b B w t C v ps) (hs : ps.flatten.length ≤ 4611686018427387904) (b : Nat) (hb : w.cell? ⟨b, 0, none⟩ = some (.pointer (some ⟨t, 0, none⟩))) (l : Nat) (J Jx : List Int → World → Prop) (W : World) (hW : Below w.heap.size w W)
    (hY : ∀ pre x W1, J pre W1 → pre.length < ps.flatten.length → YieldAt Fence.wide 2 Try.prog l #[.int .u8 x] W1 fun e W' => (e = .returned (.bool true) ∧ J (pre ++ [x]) W' ∧ Keep (Foot w C v) W1 W') ∨ (e = .returned (.bool false) ∧ Jx (pre ++ [x]) W')) (h0 : J [] W) :
    CallsIn Fence.wide 3 Try.prog 48 #[.func (.yield l) #[] #[], .pointer (some ⟨b, 0, none⟩)] W fun e W' => (∃ v, e = .returned v) ∧ ((∃ xs, xs = ps.flatten ∧ J xs W') ∨ (∃ pre, pre <+: ps.flatten ∧ Jx pre W')) := by
  have H := Aside0.mk (h.below hW)
  obtain ⟨-, hc1, -⟩ := H.out.cells
  have hb' := (hW.cell (p := ⟨b, 0, none⟩) (World.block_lt_of_cell? w _ hb)).trans hb
  obtain ⟨vs, ho, hr⟩ := h.row
  obtain ⟨A, c, rfl⟩ := own_slice ho
  have HO := Aside0.mk ho
  have HR := Aside0.mk hr
  have HS := Aside0.mk hs
  have hm := full_le h.full
  have HW := Aside0.mk hW
  have HY := Aside0.mk hY
  have HJ0 := Aside0.mk h0
  have hml : ps.length ≤ 4611686018427387904 := Nat.le_trans hm hs
  clear h ho hr hb hs hW hY h0 hm
  refine callsIn_of_wp Try.func48 rfl trivial ?_ rfl
  simp only [Try.ntmps48, List.size_toArray, List.length_cons, List.length_nil, Nat.reduceAdd, Nat.reduceSub, Array.replicate_succ, Array.replicate_zero, List.push_toArray, List.append_toArray, List.nil_append, List.cons_append]
  gi_wp2_with (refine ⟨trivial, ?_⟩; gi_at_call 37; refine (callsIn_wide.2 (none_calls_b H.out)).mono ?_; rintro e w' ⟨rfl, rfl⟩)
  gi_loopw [14] (fun i wr => ∃ q : Nat, q ≤ ps.length ∧ i = .int .i64 q ∧ Aside0 (J ((ps.take q).flatten) wr) ∧ Aside0 (Keep (Foot w C (.slice A ps.length c)) W wr)) (fun i _ => ps.length - (intOf i).toNat)
  case atStart => exact ⟨0, Nat.zero_le _, rfl, ⟨by simpa using HJ0.out⟩, ⟨Keep.refl _ _⟩⟩
  case round =>
    obtain ⟨q, hq, rfl, HJ, HK⟩ := hrel
    by_cases hlt : q < ps.length
    · obtain ⟨p, hp⟩ := getElem_lt hlt
      obtain ⟨u, hu⟩ := getElem_lt (show q < vs.length by have := HO.out.1; omega)
      obtain ⟨g, o, c', cs, rfl, hCg, hbk, hpc, hcm, hcs⟩ := HR.out.get q u p hu hp
      obtain ⟨g1, cap, cur, e1, hR⟩ : ∃ g1 cap cur, (Value.slice A ps.length c) = .slice (some ⟨g1, 0, none⟩) ps.length cap ∧ RowAt w B g1 ps.length cap 22 cur vs := by
        rcases own_rowAt HO.out with ⟨e, h0, -⟩ | h
        · omega
        · exact h
      injection e1 with e1 _ e3
      subst e1; subst e3
      have HP := Aside0.mk hp
      have hkr : wr.heap[g1]? = w.heap[g1]? := (HK.out g1 ⟨blk_lt hR.blk, .inl rfl⟩).trans (HW.out.block g1 (blk_lt hR.blk))
      have hcell := (hR.move hkr).cell q _ hu
      have hkg : ∀ X, Keep (Foot w C (.slice (some ⟨g1, 0, none⟩) ps.length c)) W X → X.heap[g]? = some (.cells cs 5 (0, 0)) := fun X hX => (hX g ⟨blk_lt hbk, .inr hCg⟩).trans ((HW.out.block g (blk_lt hbk)).trans hbk)
      have HG := Aside0.mk hkg
      have HCS := Aside0.mk hcs
      clear hR hp hu hCg hbk hcs hkr hkg
      gi_wp2
      gi_loopw [20] (fun i wx => ∃ j : Nat, j ≤ p.length ∧ i = .int .i64 j ∧ Aside0 (J ((ps.take q).flatten ++ p.take j) wx) ∧ Aside0 (Keep (Foot w C (.slice (some ⟨g1, 0, none⟩) ps.length c)) W wx)) (fun i _ => p.length - (intOf i).toNat)
      case atStart => exact ⟨0, Nat.zero_le _, rfl, ⟨by simpa using HJ.out⟩, HK⟩
      case round =>
        obtain ⟨j, hj, rfl, HJx, HKx⟩ := hrel
        by_cases hltj : j < p.length
        · obtain ⟨x, hx⟩ := getElem_lt hltj
          have hcx : wr.cell? ⟨g, o + j, none⟩ = some (.int .u8 x) := by rw [blk_cell (HG.out _ HKx.out)]; exact HCS.out j x hx
          have hlen : ((ps.take q).flatten ++ p.take j).length < ps.flatten.length := by
            have h1 := flat_take_succ HP.out
            have h2 := flat_take_le ps (q + 1)
            rw [List.length_append, List.length_take]
            omega
          have HX := Aside0.mk hx
          obtain ⟨fn, tmps, assign, body, hy, hR⟩ := HY.out _ x _ HJx.out hlen
          clear hlen hx
          gi_wp2
          refine hR.mono ?_
          rintro e W3 (⟨rfl, hJ3, hk3⟩ | ⟨rfl, hJx3⟩)
          · have HJ3 := Aside0.mk hJ3
            have HK3 := Aside0.mk (HKx.out.trans hk3)
            clear hJ3 hk3
            gi_wp2
            go_roundw
            case rel => exact ⟨j + 1, by omega, by go_num, ⟨by rw [← flat_get HP.out HX.out]; exact HJ3.out⟩, HK3⟩
            case measure => simp [intOf]; omega
          · have HJ3 := Aside0.mk hJx3
            clear hJx3
            gi_wp2
            refine bodyPost_ret (results_none rfl _ _ _) rfl ?_
            exact ⟨⟨_, rfl⟩, .inr ⟨_, flat_prefix HP.out HX.out, HJ3.out⟩⟩
        · obtain rfl : j = p.length := by omega
          gi_wp2
          exact ⟨⟨q + 1, by omega, by go_num, ⟨by rw [take_get HP.out, List.flatten_append, List.flatten_singleton]; have := HJx.out; rwa [List.take_length] at this⟩, HKx⟩, by simp [intOf]; omega⟩
    · obtain rfl : q = ps.length := by omega
      gi_wp2
      go_end0
      exact ⟨⟨_, rfl⟩, .inl ⟨_, rfl, by have := HJ.out; rwa [List.take_length] at this⟩⟩
/-- the range over a table: what it asks and tells -/
theorem all_stops_b {B : Nat} {w : World} {t : Nat} {C : Nat → Prop} {v : Value} {ps : List (List Int)} (h : Tab_b B w t C v ps) (hs : ps.flatten.length ≤ 4611686018427387904) (b : Nat) (hb : w.cell? ⟨b, 0, none⟩ = some (.pointer (some ⟨t, 0, none⟩))) :
    SeqStopsK Fence.wide 3 Try.prog 48 #[.pointer (some ⟨b, 0, none⟩)] (fun x : Int => #[Value.int .u8 x]) (Keep (Foot w C v)) (fun xs => xs = ps.flatten) (fun pre => pre <+: ps.flatten) ps.flatten.length w :=
  fun l J Jx W hW _ _ hY h0 => all1_in_b h hs b hb l J Jx W hW hY h0
set_option maxHeartbeats 1000000 in
theorem all_calls_b (t : Nat) (w : World) : Calls Try.prog 35 #[.pointer (some ⟨t, 0, none⟩)] w fun e w' => e = .returned (.func (.func 48) #[] #[.pointer (some ⟨w.heap.size, 0, none⟩)]) ∧ w' = w.alloc (.cells #[.pointer (some ⟨t, 0, none⟩)] 25) := by
  go_enter Try.func35, Try.ntmps35
  go_wp2
  go_ret
  exact ⟨rfl, rfl⟩
end Go.Proofs.Ytfedlanbmibhkaa.P
/- A table of pieces: Slice. -/
namespace Go.Proofs.Ytfedlanbmibhkaa.P
open Go.RowKit Go.Shelf Go.Proofs.YtfedlanbmibhkaaW.PrintWords Go.Proofs.YtfedlanbmibhkaaW.PrintLast Go.Proofs.YtfedlanbmibhkaaW.PrintMore
set_option linter.unusedVariables false
set_option linter.unusedSimpArgs false
attribute [local go_sem] Oper.semAt_some wide_fn
/-- what holds between two rounds of Slice's loop -/
structure SI_b (w : World) (f k : Nat) (pre : List Int) (W : World) : Prop where
  bf : Boxed W w.heap.size 3 (.int .i64 f)
  bk : Boxed W (w.heap.size + 1) 3 (.int .i64 k)
  bo : ∃ v', Boxed W (w.heap.size + 1 + 1) 22 v' ∧ W.ownsRow (w.heap.size + 5) 5 1 v' (pre.drop f).length (nums .u8 (pre.drop f))
  ba : Boxed W (w.heap.size + 1 + 1 + 1) 3 (.int .i64 pre.length)
  le : pre.length ≤ k
  sz : w.heap.size + 5 ≤ W.heap.size
  be : Below w.heap.size w W
theorem SI_b.kept {w : World} {f k : Nat} {pre : List Int} {W W' : World} (h : SI_b w f k pre W) {B : Nat} {row : Option Nat} (hB : w.heap.size ≤ B) (hg : W.grownBy W' row) (hr : ∀ r, row = some r → B ≤ r ∧ ∃ o : Obj, W.heap[r]? = some o ∧ o.isCells = false) : SI_b w f k pre W' := by
  have kb : ∀ {b : Nat} {t : TypeId} {v : Value}, Boxed W b t v → Boxed W' b t v := fun hb => hb.kept hg fun e => by
    obtain ⟨_, o, ho, hc⟩ := hr _ e.symm
    rw [show W.heap[_]? = _ from hb] at ho; cases ho; cases hc
  obtain ⟨v', h1, h2⟩ := h.bo
  refine ⟨kb h.bf, kb h.bk, ⟨v', kb h1, h2.kept hg ?_⟩, kb h.ba, h.le, Nat.le_trans h.sz hg.size, h.be.grown hg h.be.size fun j e => Nat.le_trans hB (hr j e).1⟩
  rcases own_rowAt h2 with ⟨rfl, -, -⟩ | ⟨g, cap, cur, rfl, hR⟩
  · exact .inl rfl
  · refine .inr fun e => ?_
    obtain ⟨_, o, ho, hc⟩ := hr g e.symm
    rw [hR.blk] at ho; cases ho; cases hc
theorem nums_snoc (k : IntKind) (xs : List Int) (x : Int) : nums k (xs ++ [x]) = nums k xs ++ [.int k x] := by unfold nums; simp
/-- at++ -/
theorem SI_b.step {w : World} {f k : Nat} {pre : List Int} {W : World} (h : SI_b w f k pre W) (x : Int) (hf : pre.length < f) (hk : pre.length < k) : SI_b w f k (pre ++ [x]) (W.setCell ⟨w.heap.size + 1 + 1 + 1, 0, none⟩ (.int .i64 ((pre.length : Int) + 1))) := by
  have hg := grownBy_setCell' W (w.heap.size + 1 + 1 + 1) (.int .i64 ((pre.length : Int) + 1))
  obtain ⟨v', h1, h2⟩ := h.bo
  refine ⟨h.bf.kept hg (by intro e_; injection e_ with e_; omega), h.bk.kept hg (by intro e_; injection e_ with e_; omega), ⟨v', h1.kept hg (by intro e_; injection e_ with e_; omega), ?_⟩, ?_, by simp; omega, by simpa [World.setCell] using h.sz, h.be.setCell (p := ⟨w.heap.size + 1 + 1 + 1, 0, none⟩) (by show w.heap.size ≤ w.heap.size + 1 + 1 + 1; omega) _⟩
  · have e1 : (pre ++ [x]).drop f = [] := List.drop_eq_nil_of_le (by simp; omega)
    have e2 : pre.drop f = [] := List.drop_eq_nil_of_le (by omega)
    rw [e1]; rw [e2] at h2
    refine h2.kept hg ?_
    by_cases e : v'.ownBlock = none
    · exact .inl e
    · refine .inr fun e' => ?_
      have := own_base h2 _ e'
      omega
  · have := h.ba.set (.int .i64 ((pre.length : Int) + 1))
    simpa using this
/-- out = append(out, x); at++ -/
theorem SI_b.app {w : World} {f k : Nat} {pre : List Int} {W : World} (h : SI_b w f k pre W) (x : Int) (hf : f ≤ pre.length) (hk : pre.length < k) {v' v1 : Value} (h1 : Boxed W (w.heap.size + 1 + 1) 22 v') (h2 : W.ownsRow (w.heap.size + 5) 5 1 v' (pre.drop f).length (nums .u8 (pre.drop f)))
    {w1 : World} {o : Obj} (k1 : w1.ownsRow (w.heap.size + 5) 5 1 v1 ((pre.drop f).length + 1) (nums .u8 (pre.drop f) ++ [.int .u8 x])) (k2 : (W.alloc o).grownBy w1 v'.ownBlock) :
    SI_b w f k (pre ++ [x]) ((w1.setCell ⟨w.heap.size + 1 + 1, 0, none⟩ v1).setCell ⟨w.heap.size + 1 + 1 + 1, 0, none⟩ (.int .i64 ((pre.length : Int) + 1))) := by
  have hne : ∀ b, b < w.heap.size + 5 → some b ≠ v'.ownBlock := fun b hb e => by have := own_base h2 _ e.symm; omega
  have hne1 : ∀ b, b < w.heap.size + 5 → v1.ownBlock ≠ some b := fun b hb e => by have := own_base k1 _ e; omega
  have g1 := grownBy_setCell' w1 (w.heap.size + 1 + 1) v1
  have g2 := grownBy_setCell' (w1.setCell ⟨w.heap.size + 1 + 1, 0, none⟩ v1) (w.heap.size + 1 + 1 + 1) (.int .i64 ((pre.length : Int) + 1))
  have kb : ∀ {b : Nat} {t : TypeId} {u : Value}, b < w.heap.size + 5 → Boxed W b t u → Boxed w1 b t u := fun hb hx => (hx.alloc o).kept k2 (hne _ hb)
  have hsz : w.heap.size + 5 ≤ w1.heap.size := Nat.le_trans h.sz (Nat.le_trans (by rw [World.size_alloc]; exact Nat.le_succ _) k2.size)
  refine ⟨((kb (by omega) h.bf).kept g1 (by intro e_; injection e_ with e_; omega)).kept g2 (by intro e_; injection e_ with e_; omega), ((kb (by omega) h.bk).kept g1 (by intro e_; injection e_ with e_; omega)).kept g2 (by intro e_; injection e_ with e_; omega), ⟨v1, ((kb (by omega) h1).set v1).kept g2 (by intro e_; injection e_ with e_; omega), ?_⟩, ?_, by simp; omega, by simpa [World.setCell] using hsz, ?_⟩
  · have e1 : (pre ++ [x]).drop f = pre.drop f ++ [x] := List.drop_append_of_le_length hf
    rw [e1, nums_snoc, List.length_append]
    refine (k1.kept g1 (.inr (hne1 _ (by omega)))).kept g2 (.inr (hne1 _ (by omega)))
  · have := ((((kb (by omega) h.ba).kept g1 (by intro e_; injection e_ with e_; omega)))).set (.int .i64 ((pre.length : Int) + 1))
    simpa using this
  · refine (((h.be.alloc h.be.size o).grown k2 (by rw [World.size_alloc]; exact Nat.le_trans h.be.size (Nat.le_succ _)) fun j e => ?_).setCell (p := ⟨w.heap.size + 1 + 1, 0, none⟩) (by show w.heap.size ≤ w.heap.size + 1 + 1; omega) _).setCell (p := ⟨w.heap.size + 1 + 1 + 1, 0, none⟩) (by show w.heap.size ≤ w.heap.size + 1 + 1 + 1; omega) _
    have := own_base h2 _ e; omega
theorem Tab_b.tight {B : Nat} {w : World} {t : Nat} {C : Nat → Prop} {v : Value} {ps : List (List Int)} (h : Tab_b B w t C v ps) : Tab_b B w t (fun g => C g ∧ g < w.heap.size) v ps := by
  obtain ⟨vs, ho, hr⟩ := h.row
  refine ⟨h.lo, h.box, ⟨vs, ho, hr.imp fun u p hb => ?_⟩, h.full⟩
  obtain ⟨g, o, c, cs, e, hc, hb, h1, h2, h3⟩ := hb
  exact ⟨g, o, c, cs, e, ⟨hc, blk_lt hb⟩, hb, h1, h2, h3⟩
/-- the world in which the loop begins -/
theorem SI_b.start (w : World) (f k q t : Nat) : SI_b w f k [] (((((((w.alloc (.cells #[.int .i64 f] 3)).alloc (.cells #[.int .i64 k] 3)).drewN q).alloc (.cells #[.slice none 0 0] 22)).alloc (.cells #[.int .i64 0] 3)).alloc (.cells #[.pointer (some ⟨t, 0, none⟩)] 25))) := by
  have b1 := Boxed.new w 3 (.int .i64 f)
  have b2 := Boxed.new (w.alloc (.cells #[.int .i64 f] 3)) 3 (.int .i64 k)
  have b3 := Boxed.new (((w.alloc (.cells #[.int .i64 f] 3)).alloc (.cells #[.int .i64 k] 3)).drewN q) 22 (.slice none 0 0)
  have b4 := Boxed.new ((((w.alloc (.cells #[.int .i64 f] 3)).alloc (.cells #[.int .i64 k] 3)).drewN q).alloc (.cells #[.slice none 0 0] 22)) 3 (.int .i64 0)
  have d1 : ∀ {b : Nat} {t : TypeId} {u : Value}, Boxed ((w.alloc (.cells #[.int .i64 f] 3)).alloc (.cells #[.int .i64 k] 3)) b t u → Boxed (((w.alloc (.cells #[.int .i64 f] 3)).alloc (.cells #[.int .i64 k] 3)).drewN q) b t u := fun h => h
  have s0 : (((w.alloc (.cells #[.int .i64 f] 3)).alloc (.cells #[.int .i64 k] 3)).drewN q).heap.size = w.heap.size + 1 + 1 := by
    show ((w.alloc (.cells #[.int .i64 f] 3)).alloc (.cells #[.int .i64 k] 3)).heap.size = _
    rw [World.size_alloc, World.size_alloc]
  rw [World.size_alloc] at b2 b4
  rw [s0] at b3 b4
  refine ⟨(((d1 (b1.alloc _)).alloc _).alloc _).alloc _, (((d1 b2).alloc _).alloc _).alloc _, ⟨_, (b3.alloc _).alloc _, by rw [List.drop_nil]; exact World.ownsRow_nil _ _ _ _⟩, b4.alloc _, by simp, ?_, ?_⟩
  · rw [World.size_alloc, World.size_alloc, World.size_alloc, s0]; exact Nat.le_refl _
  · exact below_alloc (below_alloc (below_alloc (pw_below_drewN (below_alloc (below_alloc (Below.refl _ w) _) _) _) _) _) _

theorem start_box_b (w : World) (f k : Int) (q t : Nat) : (((((((w.alloc (.cells #[.int .i64 f] 3)).alloc (.cells #[.int .i64 k] 3)).drewN q).alloc (.cells #[.slice none 0 0] 22)).alloc (.cells #[.int .i64 0] 3)).alloc (.cells #[.pointer (some ⟨t, 0, none⟩)] 25))).cell? ⟨w.heap.size + 1 + 1 + 1 + 1, 0, none⟩ = some (.pointer (some ⟨t, 0, none⟩)) := by
  have h := (Boxed.new (((((w.alloc (.cells #[.int .i64 f] 3)).alloc (.cells #[.int .i64 k] 3)).drewN q).alloc (.cells #[.slice none 0 0] 22)).alloc (.cells #[.int .i64 0] 3)) 25 (.pointer (some ⟨t, 0, none⟩))).cell
  rw [World.size_alloc, World.size_alloc] at h
  have s0 : (((w.alloc (.cells #[.int .i64 f] 3)).alloc (.cells #[.int .i64 k] 3)).drewN q).heap.size = w.heap.size + 1 + 1 := by
    show ((w.alloc (.cells #[.int .i64 f] 3)).alloc (.cells #[.int .i64 k] 3)).heap.size = _
    rw [World.size_alloc, World.size_alloc]
  rw [s0] at h
  exact h

set_option maxRecDepth 100000 in
set_option maxHeartbeats 4000000 in
theorem slice_calls_b {B : Nat} {w : World} {t : Nat} {C : Nat → Prop} {v : Value} {ps : List (List Int)} (h : Tab_b B w t C v ps) (f k : Nat) (hfk : f ≤ k) (hk : k ≤ ps.flatten.length) (hs : ps.flatten.length * 1 ≤ 140737488355328) :
    Calls Try.prog 22 #[.pointer (some ⟨t, 0, none⟩), .int .i64 f, .int .i64 k] w fun e w' => ∃ v', e = .returned (.tuple #[v', .int .i64 0]) ∧ w'.ownsRow w.heap.size 5 1 v' ((ps.flatten.take k).drop f).length (nums .u8 ((ps.flatten.take k).drop f)) ∧ Below w.heap.size w w' := by
  have hs' : ps.flatten.length ≤ 4611686018427387904 := by omega
  have HT := Aside0.mk h.tight
  have HS := Aside0.mk hs'
  have HSB := Aside0.mk hs
  have HK := Aside0.mk hk
  obtain ⟨N, hN⟩ : ∃ N, ps.flatten.length = N := ⟨_, rfl⟩
  have hlt1 : decide ((f : Int) < 0) = false := by simp
  have hlt2 : decide (k < f) = false := decide_eq_false (by omega)
  have hlt3 : decide (N < k) = false := decide_eq_false (by omega)
  have HN := Aside0.mk hN
  obtain ⟨i0, hi0, hz0, hz1, hz2⟩ := info_parts infoe_b
  have HI := Aside0.mk hi0
  have HB := Aside0.mk hz2
  clear h hs hs' hk hN hi0 hz2
  refine (callsIn_wide (n := 4)).1 ?_
  refine callsIn_of_wp_marks Try.func22 rfl trivial ?_ rfl
  simp only [Try.ntmps22, List.size_toArray, List.length_cons, List.length_nil, Nat.reduceAdd, Nat.reduceSub, Array.replicate_succ, Array.replicate_zero, List.push_toArray, List.append_toArray, List.nil_append, List.cons_append]
  gi_wp2_with (gi_at_call 37; refine (callsIn_wide.2 (none_calls_b (HT.out.below (below_alloc (below_alloc (Below.refl _ w) _) _)))).mono ?_; rintro e w' ⟨rfl, rfl⟩)
  gi_big_quiet_th ((gi_at_call 25; exact CallsIn.quiet_of_same (callsIn_wide.2 ((len_calls_b (HT.out.below (pw_below_drewN (below_alloc (below_alloc (Below.refl _ w) _) _) _)) HS.out N HN.out).mono fun e w' hh => ⟨hh.1, hh.2.symm⟩))))
  gi_wp2_with (gi_at_call 35; refine (callsIn_wide.2 (all_calls_b t _)).mono ?_; rintro e w' ⟨rfl, rfl⟩)
  have hSI := SI_b.start w f k nq t
  have hbx := start_box_b w f k nq t
  generalize ((((((w.alloc (.cells #[.int .i64 f] 3)).alloc (.cells #[.int .i64 k] 3)).drewN nq).alloc (.cells #[.slice none 0 0] 22)).alloc (.cells #[.int .i64 0] 3)).alloc (.cells #[.pointer (some ⟨t, 0, none⟩)] 25)) = W0 at hSI hbx ⊢
  have HTW := HT.out.below hSI.be
  have hFoot : ∀ g, Foot W0 (fun g => C g ∧ g < w.heap.size) v g → g < w.heap.size := fun g hg => by
    rcases hg.2 with e | e
    · exact (HT.out.ownB g e).2.1
    · exact e.2
  have hbW : w.heap.size ≤ W0.heap.size := hSI.be.size
  have hkeep : ∀ {W W' : World}, Below w.heap.size w W → Below w.heap.size w W' → Keep (Foot W0 (fun g => C g ∧ g < w.heap.size) v) W W' := fun h1 h2 g hg => (h2.block g (hFoot g hg)).trans (h1.block g (hFoot g hg)).symm
  refine wpIn_rangeFunc_ownG rfl (by decide) (gf := 48) (lb := #[.pointer (some ⟨w.heap.size + 1 + 1 + 1 + 1, 0, none⟩)]) rfl trivial (enters_of Try.func48 (by kernel_rfl) rfl)
    (all_stops_b HTW HS.out _ hbx) Keep.trans (fun W l o o' hl _ _ _ g hg => World.putObj_heap_other (by have := hFoot g hg; omega)) (Below.refl _ _) (fun _ => rfl)
    (fun pre W => SI_b w f k pre W) (fun c pre W => c = .exit 1 ∧ ∃ pre0 x, pre = pre0 ++ [x] ∧ k ≤ pre0.length ∧ SI_b w f k pre0 W)
    (fun s W W' row hs hg hr => hs.kept hbW hg hr) (fun c s W W' row hs hg hr => ⟨hs.1, by obtain ⟨p0, x, e, hk, h⟩ := hs.2; exact ⟨p0, x, e, hk, h.kept hbW hg hr⟩⟩) hSI
    (fun x : Int => { tmps := #[.pointer (some ⟨t, 0, none⟩), .int .i64 f, .int .i64 k, undef, .pointer (some ⟨w.heap.size, 0, none⟩), .pointer (some ⟨w.heap.size + 1, 0, none⟩), .slice none 0 0, .int .i64 0, .pointer (some ⟨w.heap.size + 1 + 1, 0, none⟩), .pointer (some ⟨w.heap.size + 1 + 1 + 1, 0, none⟩), .int .u8 x, .bool false, .pointer (some ⟨t, 0, none⟩), .bool false, .bool false, .int .i64 f, .bool false, .bool false, .int .i64 k, .int .i64 f, .bool false, .bool false, .bool false, .int .i64 k, .pointer (some ⟨t, 0, none⟩), .int .i64 N, .bool false, .bool false, .pointer (some ⟨t, 0, none⟩), .func (.func 48) #[] #[.pointer (some ⟨w.heap.size + 1 + 1 + 1 + 1, 0, none⟩)], .int .u8 x, undef, undef, undef, undef, undef, undef, undef, undef, undef, undef, undef, undef, undef], defers := [] }) ?assign ?body ?done ?stop
  case assign =>
    intro l x W K hK
    gi_wp2
    exact hK
  case body =>
    rintro l pre x W hI hlen
    obtain ⟨v', h1, h2⟩ := hI.bo
    have hcf := hI.bf.cell
    have hck := hI.bk.cell
    have hca := hI.ba.cell
    have hfa := hI.ba.frozen
    have HIi := Aside0.mk hI
    have hpl : pre.length ≤ 4611686018427387904 := by have := HS.out; omega
    have HL := Aside0.mk hlen
    by_cases e : pre.length = k
    · have t1 : decide (k ≤ pre.length) = true := decide_eq_true (by omega)
      have HE := Aside0.mk e
      clear hI h1 h2 hlen e
      gi_wp2
      exact ⟨KeepsFrom.refl _ _, rfl, pre, x, rfl, by rw [HE.out]; exact Nat.le_refl _, HIi.out⟩
    · have hlt : pre.length < k := by have := hI.le; omega
      have t1 : decide (k ≤ pre.length) = false := decide_eq_false (by omega)
      by_cases ef : f ≤ pre.length
      · have t2 : decide (f ≤ pre.length) = true := decide_eq_true ef
        have hco := h1.cell
        have hfo := h1.frozen
        have H1 := Aside0.mk h1
        obtain ⟨m, hm⟩ : ∃ m, (pre.drop f).length = m := ⟨_, rfl⟩
        have HM := Aside0.mk hm
        have hml : m ≤ pre.length := by rw [← hm, List.length_drop]; omega
        rw [hm] at h2
        have H2 := Aside0.mk h2
        obtain ⟨A1, c1, rfl⟩ := own_slice h2
        have HLt := Aside0.mk hlt
        have HEf := Aside0.mk ef
        clear hI h1 h2 hlen e ef hlt hm
        gi_wp2_with (gi_at_builtin; refine wpListIn_append_own _ rfl _ _ 22 rfl (w.heap.size + 5) 5 i0 (.int .u8 0) 1 1 Try.underlying22 HI.out hz0 hz1 HB.out rfl (by decide) _ _ _ rfl (H2.out.alloc _) ⟨W.heap.size, 0, none⟩ 1 1 [.int .u8 x] rfl rfl (cell_one_new _ _ _) (by simp [Value.oneCell']) (by unfold maxLen; omega) (by have := HL.out; have := HSB.out; omega) (by rw [World.size_alloc]; exact Nat.le_trans HIi.out.sz (Nat.le_succ _)) ?_; intro v1 w1 hown1 hgrow1 _; obtain ⟨g1, cap1, rfl⟩ := ownsRow_succ hown1; have K1 := Aside0.mk hown1; have K2 := Aside0.mk hgrow1; have kb1 := (H1.out.alloc (Obj.cells #[.int .u8 x] 5)).kept hgrow1 (fun e_ => by have := own_base H2.out _ e_.symm; omega); have kc1 := kb1.cell; have kf1 := kb1.frozen; have kb2 := (HIi.out.ba.alloc (Obj.cells #[.int .u8 x] 5)).kept hgrow1 (fun e_ => by have := own_base H2.out _ e_.symm; omega); have kc2 := kb2.cell; have kf2 := kb2.frozen; clear hown1 hgrow1 kb1 kb2)
        have hs := SI_b.app HIi.out x HEf.out HLt.out H1.out (by rw [HM.out]; exact H2.out) (by rw [HM.out]; exact K1.out) K2.out
        refine ⟨(((KeepsOthers.alloc W _).trans (KeepsOthers.of_grownBy K2.out fun j o ej hj => ?_)).trans ((KeepsOthers.setCell _ _ _).trans (KeepsOthers.setCell _ _ _))).from _, hkeep HIi.out.be hs.be, hs⟩
        rcases own_rowAt (H2.out.alloc (Obj.cells #[.int .u8 x] 5)) with ⟨e_, -, -⟩ | ⟨g2, cap2, cur2, e_, hR⟩
        · rw [e_] at ej; cases ej
        · rw [e_] at ej; cases ej; rw [hR.blk] at hj; cases hj; rfl
      · have t2 : decide (f ≤ pre.length) = false := decide_eq_false ef
        have HLt := Aside0.mk hlt
        have HEf := Aside0.mk ef
        clear hI h1 h2 hlen e ef hlt
        gi_wp2
        have hs := HIi.out.step x (by have := HEf.out; omega) HLt.out
        exact ⟨(KeepsOthers.setCell _ _ _).from _, hkeep HIi.out.be hs.be, hs⟩
  case done =>
    rintro D ys W hD rfl hI hK
    obtain ⟨v', h1, h2⟩ := hI.bo
    have hc := h1.cell
    have hl := hI.le
    have hbe := hI.be
    have e1 : (ps.flatten.take k).drop f = ps.flatten.drop f := by rw [List.take_of_length_le hl]
    have E1 := Aside0.mk e1
    obtain ⟨m, hm⟩ : ∃ m, (ps.flatten.drop f).length = m := ⟨_, rfl⟩
    have HM := Aside0.mk hm
    rw [hm] at h2
    obtain ⟨A1, c1, rfl⟩ := own_slice h2
    have H2 := Aside0.mk h2
    clear hI h1 h2 hl hm e1
    gi_wp2
    refine ⟨by simp, .inl ⟨_, _, rfl, run_takeDeferred hK, ?_⟩⟩
    exact ⟨_, results_tmp2 rfl _ _ _, ⟨_, rfl, by rw [E1.out, HM.out]; exact ownsRow_putObj (own_lower H2.out (by omega)) _ hK rfl, hbe.trans (belowK_b (w := W0) hbW W D _ _ hD hK rfl rfl)⟩⟩
  case stop =>
    rintro D c pre W hD hpre ⟨rfl, pre0, x, rfl, hk, hI⟩ hK
    obtain ⟨v', h1, h2⟩ := hI.bo
    have hc := h1.cell
    have hl := hI.le
    have hbe := hI.be
    have e1 : (ps.flatten.take k).drop f = pre0.drop f := by
      obtain ⟨r, hr⟩ := hpre
      rw [← hr, List.append_assoc, List.take_append_of_le_length (by omega), List.take_of_length_le hl]
    have E1 := Aside0.mk e1
    obtain ⟨m, hm⟩ : ∃ m, (pre0.drop f).length = m := ⟨_, rfl⟩
    have HM := Aside0.mk hm
    rw [hm] at h2
    obtain ⟨A1, c1, rfl⟩ := own_slice h2
    have H2 := Aside0.mk h2
    clear hI h1 h2 hl hm e1 hk
    gi_wp2
    refine ⟨by simp, .inl ⟨_, _, rfl, run_takeDeferred hK, ?_⟩⟩
    exact ⟨_, results_tmp2 rfl _ _ _, ⟨_, rfl, by rw [E1.out, HM.out]; exact ownsRow_putObj (own_lower H2.out (by omega)) _ hK rfl, hbe.trans (belowK_b (w := W0) hbW W D _ _ hD hK rfl rfl)⟩⟩

set_option maxRecDepth 100000 in
set_option maxHeartbeats 4000000 in
theorem slice_no_b {B : Nat} {w : World} {t : Nat} {C : Nat → Prop} {v : Value} {ps : List (List Int)} (h : Tab_b B w t C v ps) (f k : Int) (hbad : ¬ (0 ≤ f ∧ f ≤ k ∧ k ≤ (ps.flatten.length : Int))) (hs : ps.flatten.length ≤ 4611686018427387904) :
    Calls Try.prog 22 #[.pointer (some ⟨t, 0, none⟩), .int .i64 f, .int .i64 k] w fun e w' => e = .returned (.tuple #[.slice none 0 0, .int .i64 9]) ∧ Below w.heap.size w w' := by
  have HT := Aside0.mk h
  have HS := Aside0.mk hs
  obtain ⟨N, hN⟩ : ∃ N, ps.flatten.length = N := ⟨_, rfl⟩
  rw [hN] at hbad
  have HN := Aside0.mk hN
  clear h hs hN
  by_cases h1 : f < 0
  · have e1 : decide (f < 0) = true := decide_eq_true h1
    clear hbad
    go_enter Try.func22, Try.ntmps22
    go_wp2_with (go_at_call 37; refine (none_calls_b (HT.out.below (below_alloc (below_alloc (Below.refl _ w) _) _))).mono ?_; rintro e w' ⟨rfl, rfl⟩)
    go_quiet ((go_at_call 25; exact Calls.quiet_of_same ((len_calls_b (HT.out.below (pw_below_drewN (below_alloc (below_alloc (Below.refl _ w) _) _) _)) HS.out N HN.out).mono fun e w' hh => ⟨hh.1, hh.2.symm⟩)))
    go_wp2
    go_ret2
    exact ⟨rfl, pw_below_drewN (below_alloc (below_alloc (Below.refl _ w) _) _) _⟩
  · have e1 : decide (f < 0) = false := decide_eq_false h1
    by_cases h2 : k < f
    · have e2 : decide (k < f) = true := decide_eq_true h2
      clear hbad
      go_enter Try.func22, Try.ntmps22
      go_wp2_with (go_at_call 37; refine (none_calls_b (HT.out.below (below_alloc (below_alloc (Below.refl _ w) _) _))).mono ?_; rintro e w' ⟨rfl, rfl⟩)
      go_quiet ((go_at_call 25; exact Calls.quiet_of_same ((len_calls_b (HT.out.below (pw_below_drewN (below_alloc (below_alloc (Below.refl _ w) _) _) _)) HS.out N HN.out).mono fun e w' hh => ⟨hh.1, hh.2.symm⟩)))
      go_wp2
      go_ret2
      exact ⟨rfl, pw_below_drewN (below_alloc (below_alloc (Below.refl _ w) _) _) _⟩
    · have e2 : decide (k < f) = false := decide_eq_false h2
      have e3 : decide ((N : Int) < k) = true := decide_eq_true (by omega)
      clear hbad
      go_enter Try.func22, Try.ntmps22
      go_wp2_with (go_at_call 37; refine (none_calls_b (HT.out.below (below_alloc (below_alloc (Below.refl _ w) _) _))).mono ?_; rintro e w' ⟨rfl, rfl⟩)
      go_quiet ((go_at_call 25; exact Calls.quiet_of_same ((len_calls_b (HT.out.below (pw_below_drewN (below_alloc (below_alloc (Below.refl _ w) _) _) _)) HS.out N HN.out).mono fun e w' hh => ⟨hh.1, hh.2.symm⟩)))
      go_wp2
      go_ret2
      exact ⟨rfl, pw_below_drewN (below_alloc (below_alloc (Below.refl _ w) _) _) _⟩
end Go.Proofs.Ytfedlanbmibhkaa.P
