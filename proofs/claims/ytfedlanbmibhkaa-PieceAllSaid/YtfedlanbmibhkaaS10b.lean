/- A table of pieces: the range over its elements. -/
import Derived.Test.YtfedlanbmibhkaaS9b
import Derived.RangeFuncNested
import Derived.RangeFuncBound
import Derived.RangeFuncCalls
import Derived.RangeFuncLeaves
import Derived.Shelf.Abstract
import Derived.Shelf.RegionOpen
import Derived.OwnWalkIn
import Derived.TacticsInMore
import Derived.LoopNIn
import Derived.LoopIn
namespace Go.Proofs.Ytfedlanbmibhkaa.P
open Go.RowKit Go.Shelf Go.Proofs.YtfedlanbmibhkaaW.PrintWords Go.Proofs.YtfedlanbmibhkaaW.PrintLast Go.Proofs.YtfedlanbmibhkaaW.PrintMore
set_option linter.unusedVariables false
set_option linter.unusedSimpArgs false
attribute [local go_sem] Oper.semAt_some
set_option maxRecDepth 100000 in
set_option maxHeartbeats 4000000 in
theorem all1_in_b {B : Nat} {w : World} {t : Nat} {C : Nat → Prop} {v : Value} {ps : List (List Int)} (h : Tab_b B w t C v ps) (hs : ps.flatten.length ≤ 4611686018427387904) (b : Nat) (hb : w.cell? ⟨b, 0, none⟩ = some (.pointer (some ⟨t, 0, none⟩))) (l : Nat) (J Jx : List Int → World → Prop) (W : World) (hW : Below w.heap.size w W)
    (hY : ∀ pre x W1, J pre W1 → pre.length < ps.flatten.length → YieldAt Fence.wide 2 Try.prog l #[.int .u8 x] W1 fun e W' => (e = .returned (.bool true) ∧ J (pre ++ [x]) W' ∧ Keep (Foot w C v) W1 W') ∨ (e = .returned (.bool false) ∧ Jx (pre ++ [x]) W')) (h0 : J [] W) :
    CallsIn Fence.wide 3 Try.prog 48 #[.func (.yield l) #[] #[], .pointer (some ⟨b, 0, none⟩)] W fun e W' => (∃ v, e = .returned v) ∧ ((∃ xs, xs = ps.flatten ∧ J xs W') ∨ (∃ pre, pre <+: ps.flatten ∧ Jx pre W')) := by
  have H := Aside0.mk (h.below hW)
  obtain ⟨-, hc1, -⟩ := H.out.cells
  have hb' := (hW.cell (p := ⟨b, 0, none⟩) (World.block_lt_of_cell? w _ hb)).trans hb
  obtain ⟨vs, ho, hr⟩ := h.row
  obtain ⟨A, c, rfl⟩ := own_slice ho
  have HO := Aside0.mk ho
  have HR := Aside0.mk hr
  have HS := Aside0.mk hs
  have hm := full_le h.full
  have HW := Aside0.mk hW
  have HY := Aside0.mk hY
  have HJ0 := Aside0.mk h0
  have hml : ps.length ≤ 4611686018427387904 := Nat.le_trans hm hs
  clear h ho hr hb hs hW hY h0 hm
  refine callsIn_of_wp Try.func48 rfl trivial ?_ rfl
  simp only [Try.ntmps48, List.size_toArray, List.length_cons, List.length_nil, Nat.reduceAdd, Nat.reduceSub, Array.replicate_succ, Array.replicate_zero, List.push_toArray, List.append_toArray, List.nil_append, List.cons_append]
  gi_wp2_with (refine ⟨trivial, ?_⟩; gi_at_call 37; refine (callsIn_wide.2 (none_calls_b H.out)).mono ?_; rintro e w' ⟨rfl, rfl⟩)
  gi_loopw [14] (fun i wr => ∃ q : Nat, q ≤ ps.length ∧ i = .int .i64 q ∧ Aside0 (J ((ps.take q).flatten) wr) ∧ Aside0 (Keep (Foot w C (.slice A ps.length c)) W wr)) (fun i _ => ps.length - (intOf i).toNat)
  case atStart => exact ⟨0, Nat.zero_le _, rfl, ⟨by simpa using HJ0.out⟩, ⟨Keep.refl _ _⟩⟩
  case round =>
    obtain ⟨q, hq, rfl, HJ, HK⟩ := hrel
    by_cases hlt : q < ps.length
    · obtain ⟨p, hp⟩ := getElem_lt hlt
      obtain ⟨u, hu⟩ := getElem_lt (show q < vs.length by have := HO.out.1; omega)
      obtain ⟨g, o, c', cs, rfl, hCg, hbk, hpc, hcm, hcs⟩ := HR.out.get q u p hu hp
      obtain ⟨g1, cap, cur, e1, hR⟩ : ∃ g1 cap cur, (Value.slice A ps.length c) = .slice (some ⟨g1, 0, none⟩) ps.length cap ∧ RowAt w B g1 ps.length cap 22 cur vs := by
        rcases own_rowAt HO.out with ⟨e, h0, -⟩ | h
        · omega
        · exact h
      injection e1 with e1 _ e3
      subst e1; subst e3
      have HP := Aside0.mk hp
      have hkr : wr.heap[g1]? = w.heap[g1]? := (HK.out g1 ⟨blk_lt hR.blk, .inl rfl⟩).trans (HW.out.block g1 (blk_lt hR.blk))
      have hcell := (hR.move hkr).cell q _ hu
      have hkg : ∀ X, Keep (Foot w C (.slice (some ⟨g1, 0, none⟩) ps.length c)) W X → X.heap[g]? = some (.cells cs 5 (0, 0)) := fun X hX => (hX g ⟨blk_lt hbk, .inr hCg⟩).trans ((HW.out.block g (blk_lt hbk)).trans hbk)
      have HG := Aside0.mk hkg
      have HCS := Aside0.mk hcs
      clear hR hp hu hCg hbk hcs hkr hkg
      gi_wp2
      gi_loopw [20] (fun i wx => ∃ j : Nat, j ≤ p.length ∧ i = .int .i64 j ∧ Aside0 (J ((ps.take q).flatten ++ p.take j) wx) ∧ Aside0 (Keep (Foot w C (.slice (some ⟨g1, 0, none⟩) ps.length c)) W wx)) (fun i _ => p.length - (intOf i).toNat)
      case atStart => exact ⟨0, Nat.zero_le _, rfl, ⟨by simpa using HJ.out⟩, HK⟩
      case round =>
        obtain ⟨j, hj, rfl, HJx, HKx⟩ := hrel
        by_cases hltj : j < p.length
        · obtain ⟨x, hx⟩ := getElem_lt hltj
          have hcx : wr.cell? ⟨g, o + j, none⟩ = some (.int .u8 x) := by rw [blk_cell (HG.out _ HKx.out)]; exact HCS.out j x hx
          have hlen : ((ps.take q).flatten ++ p.take j).length < ps.flatten.length := by
            have h1 := flat_take_succ HP.out
            have h2 := flat_take_le ps (q + 1)
            rw [List.length_append, List.length_take]
            omega
          have HX := Aside0.mk hx
          obtain ⟨fn, tmps, assign, body, hy, hR⟩ := HY.out _ x _ HJx.out hlen
          clear hlen hx
          gi_wp2
          refine hR.mono ?_
          rintro e W3 (⟨rfl, hJ3, hk3⟩ | ⟨rfl, hJx3⟩)
          · have HJ3 := Aside0.mk hJ3
            have HK3 := Aside0.mk (HKx.out.trans hk3)
            clear hJ3 hk3
            gi_wp2
            go_roundw
            case rel => exact ⟨j + 1, by omega, by go_num, ⟨by rw [← flat_get HP.out HX.out]; exact HJ3.out⟩, HK3⟩
            case measure => simp [intOf]; omega
          · have HJ3 := Aside0.mk hJx3
            clear hJx3
            gi_wp2
            refine bodyPost_ret (results_none rfl _ _ _) rfl ?_
            exact ⟨⟨_, rfl⟩, .inr ⟨_, flat_prefix HP.out HX.out, HJ3.out⟩⟩
        · obtain rfl : j = p.length := by omega
          gi_wp2
          exact ⟨⟨q + 1, by omega, by go_num, ⟨by rw [take_get HP.out, List.flatten_append, List.flatten_singleton]; have := HJx.out; rwa [List.take_length] at this⟩, HKx⟩, by simp [intOf]; omega⟩
    · obtain rfl : q = ps.length := by omega
      gi_wp2
      go_end0
      exact ⟨⟨_, rfl⟩, .inl ⟨_, rfl, by have := HJ.out; rwa [List.take_length] at this⟩⟩
/-- the range over a table: what it asks and tells -/
theorem all_stops_b {B : Nat} {w : World} {t : Nat} {C : Nat → Prop} {v : Value} {ps : List (List Int)} (h : Tab_b B w t C v ps) (hs : ps.flatten.length ≤ 4611686018427387904) (b : Nat) (hb : w.cell? ⟨b, 0, none⟩ = some (.pointer (some ⟨t, 0, none⟩))) :
    SeqStopsK Fence.wide 3 Try.prog 48 #[.pointer (some ⟨b, 0, none⟩)] (fun x : Int => #[Value.int .u8 x]) (Keep (Foot w C v)) (fun xs => xs = ps.flatten) (fun pre => pre <+: ps.flatten) ps.flatten.length w :=
  fun l J Jx W hW _ _ hY h0 => all1_in_b h hs b hb l J Jx W hW hY h0
set_option maxHeartbeats 1000000 in
theorem all_calls_b (t : Nat) (w : World) : Calls Try.prog 35 #[.pointer (some ⟨t, 0, none⟩)] w fun e w' => e = .returned (.func (.func 48) #[] #[.pointer (some ⟨w.heap.size, 0, none⟩)]) ∧ w' = w.alloc (.cells #[.pointer (some ⟨t, 0, none⟩)] 25) := by
  go_enter Try.func35, Try.ntmps35
  go_wp2
  go_ret
  exact ⟨rfl, rfl⟩
end Go.Proofs.Ytfedlanbmibhkaa.P
