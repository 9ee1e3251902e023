/- The range over the bodies that bytes begin with: what it asks and tells. -/
import Derived.Test.YthkmacgjekienaaDoorF3
import Derived.Test.YthkmacgjekienaaDoorR
import Derived.RangeFuncBound
import Derived.RangeFuncCalls
import Derived.RangeFuncLeaves
import Derived.Shelf.Abstract
import Derived.Shelf.RegionOpen
import Derived.OwnWalkIn
import Derived.TacticsInMore
import Derived.LoopNIn
import Derived.LoopIn
namespace Go.Proofs.YthkmacgjekienaaDoor.P
attribute [-simp] List.length_drop List.length_take ByteArray.size_append
open Go.RowKit Go.Shelf Go.Proofs.YthkmacgjekienaaDoor.Pure Go.Proofs.YthkmacgjekienaaDoorW.PrintWords Go.Proofs.YthkmacgjekienaaDoorW.PrintLast Go.Proofs.YthkmacgjekienaaDoorW.PrintMore
set_option linter.unusedVariables false
set_option linter.unusedSimpArgs false
attribute [local go_sem] Oper.semAt_some
theorem take_one {α : Type} : ∀ (a : List α) (x : α) (r : List α) (n : Nat), a.length = n → (a ++ x :: r).take (n + 1) = a ++ [x]
  | [], x, r, n, h => by subst h; simp
  | y :: a, x, r, n, h => by
    subst h
    have := take_one a x r a.length rfl
    rw [List.length_cons, List.cons_append, List.take_succ_cons, this]; rfl
/-- what a round keeps: all below lo; the bytes' own block -/
def Kpp (w0 : World) (g : Nat) (W W' : World) : Prop := Below w0.heap.size W W' ∧ (g < W.heap.size → W'.heap[g]? = W.heap[g]?)
theorem Kpp.trans {w0 : World} {g : Nat} {A B C : World} (h : Kpp w0 g A B) (k : Kpp w0 g B C) : Kpp w0 g A C :=
  ⟨h.1.trans k.1, fun hg => (k.2 (Nat.lt_of_lt_of_le hg h.1.size)).trans (h.2 hg)⟩
theorem Kpp.refl (w0 : World) (g : Nat) (A : World) (h : w0.heap.size ≤ A.heap.size) : Kpp w0 g A A := ⟨Below.refl _ _, fun _ => rfl⟩
theorem Kpp.of_below {w0 : World} {g : Nat} {A B : World} (h0 : w0.heap.size ≤ A.heap.size) (h : Below A.heap.size A B) : Kpp w0 g A B := ⟨h.mono h0, fun hg => h.block g hg⟩
/-- what a round is told of its body -/
def Hx (lo : Nat) (bs : List (List Int)) (m : Nat) (pre : List (Value × List Int)) (x : Value × List Int) (W : World) : Prop :=
  Kd.R (Kd.int .u8) 5 W lo (fun k => m ≤ k) x.1 x.2 ∧ bs[pre.length]? = some x.2 ∧ pre.map (·.2) = bs.take pre.length
set_option maxRecDepth 100000 in
set_option maxHeartbeats 4000000 in
theorem all1_in {w0 w : World} {g : Nat} {A : Option Addr} {n c : Nat} {l0 : List Int} (hv : Vw g w A n c l0) (hg : g < w.heap.size) (hb : Byt l0) (hn : n ≤ 140737488351232) (hT : TAB w0) (hB : Below w0.heap.size w0 w) (b : Nat) (hbx : w.cell? ⟨b, 0, none⟩ = some (.slice A n c))
    (l : Nat) (J : Nat → List (Value × List Int) → World → Prop) (Jx : List (Value × List Int) → World → Prop) (W : World) (hW : Below w.heap.size w W) (hJ : ∀ m, AbidesFrom W.heap.size (J m))
    (hY : ∀ pre x m W1, J m pre W1 → Hx w.heap.size (bodT l0).1 m pre x W1 → YieldAt Fence.wide 2 Tryd.prog l #[x.1] W1 fun e W' => (e = .returned (.bool true) ∧ J W'.heap.size (pre ++ [x]) W' ∧ Kpp w0 g W1 W') ∨ (e = .returned (.bool false) ∧ Jx (pre ++ [x]) W')) (h0 : J W.heap.size [] W) :
    CallsIn Fence.wide 3 Tryd.prog 34 #[.func (.yield l) #[] #[], .pointer (some ⟨b, 0, none⟩)] W fun e W' => (∃ v, e = .returned v) ∧ ((∃ xs m, xs.map (·.2) = (bodT l0).1 ∧ J m xs W') ∨ (∃ pre, (∃ k, pre.map (·.2) = (bodT l0).1.take k) ∧ Jx pre W')) := by
  have hbx' := (hW.cell (p := ⟨b, 0, none⟩) (World.block_lt_of_cell? w _ hbx)).trans hbx
  have HV := Aside0.mk (hv.move fun h => hW.block g h)
  have HG := Aside0.mk (Nat.lt_of_lt_of_le hg hW.size)
  have HB := Aside0.mk (hB.trans (hW.mono hB.size))
  have HT := Aside0.mk hT
  have HBy := Aside0.mk hb
  have HN := Aside0.mk hn
  have HY := Aside0.mk hY
  have HJ := Aside0.mk hJ
  have HJ0 := Aside0.mk h0
  have HWW := Aside0.mk hW
  clear hv hg hB hT hb hn hY hJ h0 hbx hW
  refine callsIn_of_wp Tryd.func34 rfl trivial ?_ rfl
  simp only [Tryd.ntmps34, List.size_toArray, List.length_cons, List.length_nil, Nat.reduceAdd, Nat.reduceSub, Array.replicate_succ, Array.replicate_zero, List.push_toArray, List.append_toArray, List.nil_append, List.cons_append]
  gi_wp2
  gi_loopw [3] (fun i wr => ∃ A' c' l' pre m, i = .slice A' l'.length c' ∧ Aside0 (Vw g wr A' l'.length c' l') ∧ Aside0 (g < wr.heap.size) ∧ Aside0 (pre.map (·.2) ++ (bodT l').1 = (bodT l0).1) ∧ Aside0 (Byt l') ∧ Aside0 (l'.length ≤ 140737488351232) ∧ Aside0 (J m pre wr) ∧ Aside0 (m ≤ wr.heap.size) ∧ Aside0 (w.heap.size ≤ m) ∧ Aside0 (Below w0.heap.size w0 wr)) (fun i _ => match i with | .slice _ n _ => n | _ => 0)
  case atStart =>
    have hl := HV.out.len
    exact ⟨A, c, l0, [], W.heap.size, by rw [hl], by rw [hl]; exact HV, HG, ⟨rfl⟩, HBy, ⟨by rw [hl]; exact HN.out⟩, HJ0, ⟨Nat.le_refl _⟩, ⟨HWW.out.size⟩, HB⟩
  case round =>
    obtain ⟨A', c', l', pre, m, rfl, HV', HG', HP', HBy', HN', HJ', HM', HMw', HB'⟩ := hrel
    by_cases ho : ok1 l'
    · have hC := first_ok HV'.out HBy'.out HN'.out (HT.out.below HB'.out) ho
      have HC := Aside0.mk hC
      have HO := Aside0.mk ho
      have hlt := rest1_lt ho
      have hbl : (body1 l').length ≤ 140737488351232 := by have := HN'.out; unfold body1; rw [List.length_drop, List.length_take]; omega
      have HBL := Aside0.mk hbl
      have e0 : ((0 : Int) != 0) = false := rfl
      clear hC ho hbl
      gi_wp2_with (first
        | (refine ⟨trivial, ?_⟩; gi_at_call 30; (with_reducible refine (callsIn_wide.2 HC.out).mono ?_); rintro e w' ⟨hb1, A1, c1, A2, c2, rfl, hv1, hv2⟩; have HB1 := Aside0.mk hb1; have HV1 := Aside0.mk (hv1.move fun h => hb1.block g h); have HV2 := Aside0.mk (hv2.move fun h => hb1.block g h); clear hb1 hv1 hv2)
        | (refine ⟨trivial, ?_⟩; gi_at_call 31; (with_reducible refine (callsIn_wide.2 (clone_calls A1 c1 _ (body1 l') _ rfl HV1.out.C HV1.out.cap HBL.out)).mono ?_); rintro e w2 ⟨v, rfl, hr2, hb2⟩; have HR2 := Aside0.mk hr2; have HB2 := Aside0.mk hb2; clear hr2 hb2))
      have hall : Below wr.heap.size wr w2 := below_step HB1.out HB2.out
      have hb' := HO.out
      have hbod := HP'.out
      rw [bodT_ok HO.out] at hbod
      have hj := HJ.out m _ _ _ _ HJ'.out (grown_of_below hall none) (by simp)
      have hx : Hx w.heap.size (bodT l0).1 m pre (v, body1 l') w2 := by
        refine ⟨Kd.R_mono (Kd.R_lower HR2.out (Nat.le_trans HMw'.out (Nat.le_trans HM'.out HB1.out.size))) (fun k hk => Nat.le_trans (Nat.le_trans HM'.out HB1.out.size) hk), ?_, ?_⟩
        · rw [← hbod]; simp
        · rw [← hbod]; simp
      obtain ⟨fn, tmps, assign, body, hy, hR⟩ := HY.out pre (v, body1 l') m w2 hj hx
      have HR' := Aside0.mk hR
      have HBOD := Aside0.mk hbod
      have HALL := Aside0.mk hall
      have hgl : g < w2.heap.size := Nat.lt_of_lt_of_le HG'.out hall.size
      have HGL := Aside0.mk hgl
      have HVE := Aside0.mk (HV2.out.move fun h => HB2.out.block g h)
      clear hR hbod hb' hj hx hall hgl
      gi_wp2
      refine HR'.out.mono ?_
      rintro e W3 (⟨rfl, hJ3, hk3⟩ | ⟨rfl, hJx3⟩)
      · have HJ3 := Aside0.mk hJ3
        have HK3 := Aside0.mk hk3
        clear hJ3 hk3
        gi_wp2
        go_roundw
        case rel =>
          refine ⟨A2, c2, rest1 l', pre ++ [(v, body1 l')], W3.heap.size, rfl, ⟨HVE.out.move fun h => HK3.out.2 h⟩, ⟨Nat.lt_of_lt_of_le HGL.out HK3.out.1.size⟩, ⟨?_⟩, ⟨HBy'.out.rest1⟩, ⟨by have := HN'.out; omega⟩, HJ3, ⟨Nat.le_refl _⟩, ⟨?_⟩, ⟨?_⟩⟩
          · rw [← HBOD.out]; simp
          · exact Nat.le_trans HMw'.out (Nat.le_trans HM'.out (Nat.le_trans HALL.out.size HK3.out.1.size))
          · exact (HB'.out.trans (HALL.out.mono HB'.out.size)).trans HK3.out.1
        case measure => exact hlt
      · have HJ3 := Aside0.mk hJx3
        clear hJx3
        gi_wp2
        refine bodyPost_ret (results_none rfl _ _ _) rfl ?_
        exact ⟨⟨_, rfl⟩, .inr ⟨_, ⟨pre.length + 1, by rw [← HBOD.out, take_one _ _ _ _ (List.length_map _), List.map_append]; rfl⟩, HJ3.out⟩⟩
    · have hC := first_no A' c' l'.length l' wr rfl HV'.out.C HV'.out.cap HBy'.out HN'.out (HT.out.below HB'.out) ho
      have hne : (err1 l' != 0) = true := by
        rcases no1_form HBy'.out HN'.out ho with ⟨h1, h2, h3⟩ | ⟨_, _, _, h2, _⟩
        · rw [h2]; simpa using h1
        · rw [h2]; rfl
      have HC := Aside0.mk hC
      have HO := Aside0.mk ho
      have fw : Fence.wide.fn 31 := trivial
      have fn0 : ∀ f : FuncId, none = some f → Fence.wide.fn f := fun _ _ => trivial
      clear hC ho
      gi_wp2_with (first | (refine ⟨trivial, ?_⟩; gi_at_call 30; (with_reducible refine (callsIn_wide.2 HC.out).mono ?_); rintro e w' ⟨rfl, hb1⟩) | (with_reducible refine And.intro fw ?_) | (with_reducible refine And.intro fn0 ?_))
      refine bodyPost_ret (results_none rfl _ _ _) rfl ?_
      refine ⟨⟨_, rfl⟩, .inl ⟨pre, m, ?_, HJ.out m _ _ _ _ HJ'.out (grown_of_below hb1 none) (by simp)⟩⟩
      have := HP'.out
      rw [bodT_no HO.out] at this
      simpa using this
end Go.Proofs.YthkmacgjekienaaDoor.P
