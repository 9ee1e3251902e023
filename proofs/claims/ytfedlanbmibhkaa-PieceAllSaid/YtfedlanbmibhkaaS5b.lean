/- slices.Delete in a row of slices; slices.Clone of such a row, and of a slice of numbers. -/
import Derived.Test.YtfedlanbmibhkaaS4b
namespace Go.Proofs.Ytfedlanbmibhkaa.P
open Go.RowKit Go.Proofs.YtfedlanbmibhkaaW.PrintWords Go.Proofs.YtfedlanbmibhkaaW.PrintLast Go.Proofs.YtfedlanbmibhkaaW.PrintMore
set_option linter.unusedVariables false
set_option linter.unusedSimpArgs false

set_option maxHeartbeats 2000000 in
set_option maxRecDepth 100000 in
theorem del_some_b (base g n cap i j : Nat) (cur : Array Value) (vs : List Value) (w : World) (hR : RowAt w base g n cap 22 cur vs) (hij : i < j) (hj : j ≤ n) (hn : n ≤ 1000000) (h1 : ∀ x ∈ vs, x.oneCell' = true) :
    Calls Try.prog 40 #[.slice (some ⟨g, 0, none⟩) n cap, .int .i64 i, .int .i64 j] w fun e w' => ∃ v', e = .returned v' ∧ w'.ownsRow base 22 1 v' (i + (n - j)) (vs.take i ++ vs.drop j) ∧ w.grownBy w' (some g) ∧ v'.ownBlock = some g := by
  obtain ⟨i0, hi0, hz0, hz1, hz2⟩ := info_parts infoE_b
  have HI := Aside0.mk hi0
  have HR := Aside0.mk hR
  have H1 := Aside0.mk h1
  have hnc := hR.nc
  have hcm := hR.cm
  obtain ⟨ad, had, hsrc⟩ : ∃ ad : Addr, (if cap = j then some (⟨g, 0, none⟩ : Addr) else some ⟨g, j, none⟩) = some ad ∧ ∀ q x, (vs.drop j)[q]? = some x → w.cell? (ad.add q) = some x := by
    by_cases h : cap = j
    · refine ⟨⟨g, 0, none⟩, by simp [h], fun q x hq => ?_⟩
      rw [List.drop_eq_nil_of_le (by have := hR.len; omega)] at hq
      cases hq
    · refine ⟨⟨g, j, none⟩, by simp [h], fun q x hq => ?_⟩
      rw [add_at]; exact hR.cell (j + q) x (by rwa [List.getElem?_drop] at hq)
  have HS := Aside0.mk hsrc
  have hne : ((i : Int) == (j : Int)) = false := by simp; omega
  have e1 : (i : Int) ≤ (j : Int) := by omega
  have e2 : (j : Int) ≤ (n : Int) := by omega
  have e3 : (i : Int) ≤ (n : Int) := by omega
  have e4 : i ≤ cap := by omega
  have e5 : j ≤ cap := by omega
  have HN : Aside0 (i < j ∧ j ≤ n ∧ n ≤ 1000000) := ⟨⟨hij, hj, hn⟩⟩
  clear hR h1 hsrc hi0 hz2
  go_enter Try.func40, Try.ntmps40
  go_wp2_with fail
  go_region_law ((refine step_of rfl ?_; refine wp_append_in (.tmp 22) (.tmp 25) 69 rfl 22 i0 Try.underlying69 HI.out hz1 g i cap cur (by simp [Act.eval, Act.put]) ad (n - j) (cap - j) (by simp [Act.eval, Act.put]) (vs.drop j) (by have := HN.out; rw [List.length_drop, HR.out.len]) HR.out.blk HS.out (by have := HN.out; omega) (by have := HN.out; have := HR.out.cs; omega) (fun x hx => H1.out x (List.mem_of_mem_drop hx)) ?_; intro w1 cur1 hb1_ hs1_ ht1_ hg1_; have B1 := Aside0.mk hb1_; have C1 := Aside0.mk hs1_; have T1 := Aside0.mk ht1_; have S1 := Aside0.mk (grown_drew hg1_); clear hb1_ hs1_ ht1_ hg1_))
  clear had
  have f1 : i + (n - j) ≤ n := by have := HN.out; omega
  have f2 : i + (n - j) ≤ cap := by have := HN.out; omega
  have f3 : ¬ (cap = i + (n - j)) := by have := HN.out; omega
  have f4 : i + (n - j) < n := by have := HN.out; omega
  go_wp2_with ((with_reducible refine gate_builtin (b := .clear) (xs := #[.tmp 31]) (ts := #[69]) rfl ?_); refine list_of rfl (fun K_ hK_ => ?_); refine wp_clear_w (.tmp 31) 69 rfl 22 (.slice none 0 0) Try.underlying69 zeroE_b rfl rfl g (i + (n - j)) (n - (i + (n - j))) (cap - (i + (n - j))) cur1 rfl (by have := HN.out; omega) B1.out (by have := HN.out; have := C1.out; have := HR.out.cs; omega) ?_; intro w2 cur2 hb2_ hs2_ ht2_ hg2_; have B2 := Aside0.mk hb2_; have C2 := Aside0.mk hs2_; have T2 := Aside0.mk ht2_; have S2 := Aside0.mk hg2_; clear hb2_ hs2_ ht2_ hg2_; refine hK_ _ _ ?_; clear hK_)
  go_ret
  refine ⟨_, rfl, RowAt.own (cur := cur2) ⟨HR.out.lo, B2.out, f2, hcm, by rw [C2.out, C1.out, HR.out.cs], ?_, ?_⟩, grown_trans S1.out S2.out (.inl rfl), rfl⟩
  · have := HN.out
    have hl1 : (cur.toList.take i ++ vs.drop j).length = i + (n - j) := by rw [List.length_append, List.length_take, List.length_drop, HR.out.len, Array.length_toList, HR.out.cs]; omega
    have h1 : cur1.toList.take (i + (n - j)) = vs.take i ++ vs.drop j := by
      rw [T1.out, ← hl1, List.take_left, ← HR.out.tk, List.take_take, Nat.min_eq_left (by omega)]
    have hl2 : (cur1.toList.take (i + (n - j))).length = i + (n - j) := by rw [List.length_take, Array.length_toList, C1.out, HR.out.cs]; omega
    rw [T2.out, List.append_assoc, List.take_append_of_le_length (by omega), List.take_take, Nat.min_self, h1]
  · have := HN.out
    rw [List.length_append, List.length_take, List.length_drop, HR.out.len]; omega
theorem del_same_b (base n i : Nat) (v : Value) (vs : List Value) (w : World) (hown : w.ownsRow base 22 1 v n vs) (hi : i ≤ n) (hn : n ≤ 1000000) :
    Calls Try.prog 40 #[v, .int .i64 i, .int .i64 i] w fun e w' => e = .returned v ∧ w' = w := by
  have e1 : (i : Int) ≤ (n : Int) := by omega
  rcases own_rowAt hown with ⟨rfl, rfl, rfl⟩ | ⟨g, cap, cur, rfl, hR⟩
  · obtain rfl : i = 0 := by omega
    clear hown
    go_enter Try.func40, Try.ntmps40
    go_wp2
    go_ret
    exact ⟨rfl, rfl⟩
  · have hnc := hR.nc
    have hcm := hR.cm
    have e2 : i ≤ cap := by omega
    clear hown hR
    go_enter Try.func40, Try.ntmps40
    go_wp2
    all_goals (go_ret; exact ⟨rfl, rfl⟩)
theorem del_calls_b (base n i j : Nat) (v : Value) (vs : List Value) (w : World) (hown : w.ownsRow base 22 1 v n vs) (hij : i ≤ j) (hj : j ≤ n) (hn : n ≤ 1000000) (h1 : ∀ x ∈ vs, x.oneCell' = true) :
    Calls Try.prog 40 #[v, .int .i64 i, .int .i64 j] w fun e w' => ∃ v', e = .returned v' ∧ w'.ownsRow base 22 1 v' (i + (n - j)) (vs.take i ++ vs.drop j) ∧ w.grownBy w' v.ownBlock ∧ v'.ownBlock = v.ownBlock := by
  by_cases h : i = j
  · subst h
    refine (del_same_b base n i v vs w hown hj hn).mono ?_
    rintro e w' ⟨rfl, rfl⟩
    exact ⟨v, rfl, by rw [List.take_append_drop, show i + (n - i) = n by omega]; exact hown, World.grownBy.refl _ _, rfl⟩
  · rcases own_rowAt hown with ⟨rfl, rfl, rfl⟩ | ⟨g, cap, cur, rfl, hR⟩
    · omega
    · exact del_some_b base g n cap i j cur vs w hR (by omega) hj hn h1

set_option maxHeartbeats 1000000 in
set_option maxRecDepth 100000 in
/-- slices.Clone of a row: nil stays nil; else a new row. -/
theorem clone_calls_b (base n : Nat) (v : Value) (vs : List Value) (w : World) (hown : w.ownsRow base 22 1 v n vs) (hn : n ≤ 1000000) (h1 : ∀ x ∈ vs, x.oneCell' = true) :
    Calls Try.prog 38 #[v] w fun e w' => ∃ v', e = .returned v' ∧ w'.ownsRow w.heap.size 22 1 v' n vs ∧ Below w.heap.size w w' := by
  have hu : ∀ (w : World) (a : Option Addr) (n c n' c' : Nat), (binOp .eql 69 (.slice a n c) (.slice none n' c')).run Try.prog w = .ok (.bool a.isNone) w := fun w a n c n' c' => Lib.run_eql_slice_nil w _ _ a n c n' c' Try.underlying69
  rcases own_rowAt hown with ⟨rfl, rfl, rfl⟩ | ⟨g, cap, cur, rfl, hR⟩
  · clear hown
    go_enter Try.func38, Try.ntmps38
    go_wp2
    go_ret
    exact ⟨_, rfl, World.ownsRow_nil _ _ _ _, Below.refl _ _⟩
  · obtain ⟨i0, hi0, hz0, hz1, hz2⟩ := info_parts infoE_b
    have HI := Aside0.mk hi0
    have HB := Aside0.mk hz2
    have HR := Aside0.mk hR
    have HO : Aside0 ((w.alloc (.cells #[] 22)).ownsRow w.heap.size 22 1 (.slice (some ⟨w.heap.size, 0, none⟩) 0 0) 0 []) := ⟨World.ownsRow_made w #[] 0 (Nat.le_refl _) (Nat.zero_le _) (by simp)⟩
    have hsrc : ∀ j x, vs[j]? = some x → (w.alloc (.cells #[] 22)).cell? ((⟨g, 0, none⟩ : Addr).add j) = some x := fun j x hj => by rw [add_plain]; exact Lib.cell?_alloc_some _ (hR.cell j x hj)
    have HS := Aside0.mk hsrc
    have hl := hR.len
    clear hown hR hi0 hz2 hsrc
    go_enter Try.func38, Try.ntmps38
    go_wp2_with (at_builtin; refine list_of rfl (fun K_ hK_ => ?_); refine wp_append_w _ _ 69 rfl w.heap.size 22 i0 (.slice none 0 0) Try.underlying69 HI.out hz0 hz1 rfl _ 0 _ rfl HO.out ⟨g, 0, none⟩ n cap vs rfl hl HS.out h1 (by omega) (by rw [HB.out]; omega) (by simp) ?_; intro v' w1 ho1 hg1 ha1; refine hK_ _ _ ?_; clear hK_)
    go_ret
    refine ⟨v', rfl, by simpa using ho1, ?_⟩
    exact pw_below_grown (below_alloc (Below.refl _ w) _) _ (by simp) hg1 (fun k hk => by cases hk; exact Nat.le_refl _)
theorem infoe_b : (Try.prog.info? 5).map (fun i => (i.zero, i.size, i.bytes)) = some (some (.int .u8 0), 1, 1) := by kernel_rfl
set_option maxHeartbeats 1000000 in
set_option maxRecDepth 100000 in
/-- slices.Clone of a slice of numbers that is not empty. -/
theorem cloneb_calls_b (A : Option Addr) (c : Nat) (xs : List Int) (w : World) (hr : Kd.C (Kd.int .u8) w A xs.length xs) (h0 : 0 < xs.length) (hb : xs.length * 1 ≤ 140737488355328) :
    Calls Try.prog 50 #[.slice A xs.length c] w fun e w' => ∃ v', e = .returned v' ∧ w'.ownsRow w.heap.size 5 1 v' xs.length (nums .u8 xs) ∧ Below w.heap.size w w' := by
  have hu : ∀ (w : World) (a : Option Addr) (n c n' c' : Nat), (binOp .eql 22 (.slice a n c) (.slice none n' c')).run Try.prog w = .ok (.bool a.isNone) w := fun w a n c n' c' => Lib.run_eql_slice_nil w _ _ a n c n' c' Try.underlying22
  obtain ⟨ad, rfl, -⟩ := Kd.at_int hr 0 (by omega) (by omega)
  obtain ⟨i0, hi0, hz0, hz1, hz2⟩ := info_parts infoe_b
  have HI := Aside0.mk hi0
  have HB := Aside0.mk hz2
  have HO : Aside0 ((w.alloc (.cells #[] 5)).ownsRow w.heap.size 5 1 (.slice (some ⟨w.heap.size, 0, none⟩) 0 0) 0 []) := ⟨World.ownsRow_made w #[] 0 (Nat.le_refl _) (Nat.zero_le _) (by simp)⟩
  have hsrc : ∀ j x, (nums .u8 xs)[j]? = some x → (w.alloc (.cells #[] 5)).cell? (ad.add j) = some x := fun j x hj => by
    have hjl : j < xs.length := by have := (List.getElem?_eq_some_iff.1 hj).1; rwa [nums_length] at this
    obtain ⟨ad', e_, hc⟩ := Kd.at_int hr (j : Int) (by omega) (by omega)
    injection e_ with e_; subst e_
    rw [Int.toNat_natCast] at hc
    refine Lib.cell?_alloc_some _ (hc.trans ?_)
    rw [← hj]; unfold nums rd
    rw [List.getElem?_map, List.getElem?_eq_getElem hjl, Int.toNat_natCast, List.getD_eq_getElem?_getD, List.getElem?_eq_getElem hjl]; rfl
  have HS := Aside0.mk hsrc
  have hm : maxLen = 9223372036854775807 := rfl
  have hl := Kd.C_max hr
  have H1 : Aside0 (∀ u ∈ nums .u8 xs, u.oneCell' = true) := ⟨fun u hu => by obtain ⟨_, _, rfl⟩ := List.mem_map.1 hu; rfl⟩
  clear hr hi0 hz2 hsrc hm
  go_enter Try.func50, Try.ntmps50
  go_wp2_with (at_builtin; refine list_of rfl (fun K_ hK_ => ?_); refine wp_append_w _ _ 22 rfl w.heap.size 5 i0 (.int .u8 0) Try.underlying22 HI.out hz0 hz1 rfl _ 0 _ rfl HO.out ad xs.length c (nums .u8 xs) rfl (nums_length _ _) HS.out H1.out (by omega) (by rw [HB.out]; omega) (by simp) ?_; intro v' w1 ho1 hg1 ha1; refine hK_ _ _ ?_; clear hK_)
  go_ret
  refine ⟨v', rfl, by simpa using ho1, ?_⟩
  exact pw_below_grown (below_alloc (Below.refl _ w) _) _ (by simp) hg1 (fun k hk => by cases hk; exact Nat.le_refl _)
end Go.Proofs.Ytfedlanbmibhkaa.P
