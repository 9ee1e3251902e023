import Derived.Test.YtfpmompdgmklmaaDoorP0
import Derived.Test.YtfpmompdgmklmaaDoorV1
import Derived.Test.YtfpmompdgmklmaaDoorV0
namespace Go.Proofs.YtfpmompdgmklmaaDoor.P
attribute [-simp] List.length_drop List.length_take ByteArray.size_append
open Go.RowKit Go.Proofs.YtfpmompdgmklmaaDoorW.PrintWords Go.Proofs.YtfpmompdgmklmaaDoorW.PrintLast Go.Proofs.YtfpmompdgmklmaaDoorW.PrintMore
attribute [local go_sem] max2_int min2_int max_two min_two max_three min_three max_four min_four   -- for this text's walks alone
set_option linter.unusedVariables false
set_option linter.unusedSimpArgs false
/-! ### value_mayBe1: function 47 -/
def value_mayBe1.f (z1_ : Int) (z5_ : Bool) (z3_ : ByteArray) (z0_ : List (S25)) (z2_ : List ByteArray) : Option (Bool) := (value_mayBe.f z1_ z5_ z3_ z0_ z2_).bind fun t102 => (some (!t102))
set_option maxHeartbeats 8000000 in
set_option maxRecDepth 100000 in
theorem value_mayBe1.calls (z1_ : Int) (z5_ : Bool) (z3_ : ByteArray) (zj_ : Option Addr) (z9_ : Nat) (z0_ : List (S25)) (zz_ : Option Addr) (zq_ : Nat) (z2_ : List ByteArray) (r : Bool) (w : World) (jk_ : Kd.C k25 w zj_ z0_.length z0_) (jv_ : z0_.length ≤ z9_) (jx_ : Kd.C Kd.string w zz_ z2_.length z2_) (jy_ : z2_.length ≤ zq_) (hM : MayF z1_ z5_ z3_ z0_ z2_) (h : value_mayBe1.f z1_ z5_ z3_ z0_ z2_ = some r) :
  Calls Tryd.prog 47 #[.agg #[.int .i64 z1_, .bool z5_, .string z3_, .slice zj_ z0_.length z9_, .slice zz_ z2_.length zq_]] w fun e w' => e = .returned (.bool r) ∧ Below w.heap.size w w' := by
 have kP_ := Tryd.underlying25
 have x3_ := q0_.mk jk_
 have k4_ := q0_.mk jv_
 clear jk_ jv_
 have xX_ := q0_.mk jx_
 have xr_ := q0_.mk jy_
 clear jx_ jy_
 have HB := q0_.mk (Below.refl w.heap.size w)
 have H : ((value_mayBe.f z1_ z5_ z3_ z0_ z2_).bind fun t102 => (some (!t102))) = some r := h
 clear h
 replace H := Option.bind_eq_some_iff.mp H
 obtain ⟨t102, A20, H⟩ := H
 replace H : (some (!t102)) = some r := H
 have A2 := q0_.mk A20
 clear A20
 obtain rfl := Option.some.inj H
 go_enter Tryd.func47, Tryd.ntmps47
 go_wp2_with (first | ((with_reducible refine qZ_ (N := 1) rfl ?_); refine qJ_ ?hg (N := 1) ?hd (cs := #[.int .i64 z1_, .bool z5_, .string z3_, .slice zj_ z0_.length z9_, .slice zz_ z2_.length zq_]) (t := 25) ?hr ?_; (case hd => rfl); (case hg => rfl); (case hr => first | (go_simp; done) | (go_simp; rfl)); intro kb_ hg w3 hbox hb; have n0_ := q0_.mk (q4_ (by repeat (first | (with_reducible first | exact HB.out | apply q6_ | apply q5_ | apply q7_) | exact HB.out)) hb); have n1_ := q0_.mk (hbox); have n2_ := q0_.mk ((by rw [hg]; exact (qw_ (by repeat (first | (with_reducible first | exact HB.out | apply q6_ | apply q5_ | apply q7_) | exact HB.out))) : w.heap.size ≤ kb_)); have n3_ := q0_.mk ((by rw [hg]; exact (qw_ (by repeat (first | (with_reducible first | exact HB.out | apply q6_ | apply q5_ | apply q7_) | exact HB.out))) : w.heap.size ≤ kb_)); clear HB; have HB := n0_; have xx_ := n1_; have GW101 := n2_; have ZB_ := n3_; clear n0_ n1_ n2_ n3_; clear hb hbox hg; have hcz4_0 : w3.cell? ⟨kb_, 0, none⟩ = some (.int .i64 z1_) := (q1_ xx_.out 0).trans rfl; have hcz4_1 : w3.cell? ⟨kb_, 1, none⟩ = some (.bool z5_) := (q1_ xx_.out 1).trans rfl; have hcz4_2 : w3.cell? ⟨kb_, 2, none⟩ = some (.string z3_) := (q1_ xx_.out 2).trans rfl; have hcz4_3 : w3.cell? ⟨kb_, 3, none⟩ = some (.slice zj_ z0_.length z9_) := (q1_ xx_.out 3).trans rfl; have hcz4_4 : w3.cell? ⟨kb_, 4, none⟩ = some (.slice zz_ z2_.length zq_) := (q1_ xx_.out 4).trans rfl; have hfz4_0 := q3_ xx_.out 0; have hfz4_1 := q3_ xx_.out 1; have hfz4_2 := q3_ xx_.out 2; have hfz4_3 := q3_ xx_.out 3; have hfz4_4 := q3_ xx_.out 4) | ((with_reducible refine qh_ (f := 37) rfl ?_); refine goesL_ (some 4) rfl rfl Tryd.func37 (by kernel_rfl) rfl #[.agg #[.int .i64 z1_, .bool z5_, .string z3_, .slice zj_ z0_.length z9_, .slice zz_ z2_.length zq_]] rfl (by (try simp only [List.map_toArray, List.map_cons, List.map_nil]); first | done | rfl | (simp only [List.length_drop, List.length_take]; rfl)) ?_; (with_reducible refine (hM _ _ _ _ t102 _ ?zQ_ ?zZ_ ?zY_ ?zK_ A2.out).mono ?_); (case zQ_ => repeat (first | exact (Kd.qD_ x3_.out HB.out) | (with_reducible refine Kd.qP_ ?_ _) | (with_reducible refine Kd.qr_ ?_ _) | (with_reducible refine Kd.qR_ ?_))); (case zZ_ => exact k4_.out); (case zY_ => repeat (first | exact (Kd.qD_ xX_.out HB.out) | (with_reducible refine Kd.qP_ ?_ _) | (with_reducible refine Kd.qr_ ?_ _) | (with_reducible refine Kd.qR_ ?_))); (case zK_ => exact xr_.out); rintro e w5 ⟨rfl, hb⟩; refine ⟨_, rfl, ?_⟩; have n0_ := q0_.mk (q2_ (g := kb_) (o := .cells #[.int .i64 z1_, .bool z5_, .string z3_, .slice zj_ z0_.length z9_, .slice zz_ z2_.length zq_] 25 (0, 0)) (by (with_reducible repeat (first | refine q9_ ?_ _ | refine qz_ ?_ | refine q8_ ?_ _)); exact xx_.out) hb); have n1_ := q0_.mk (q4_ (by repeat (first | (with_reducible first | exact HB.out | apply q6_ | apply q5_ | apply q7_ | refine qq_ ?_ ZB_.out) | exact HB.out)) hb); clear xx_; clear HB; have xx_ := n0_; have HB := n1_; clear n0_ n1_; (try clear hb); (try clear hb2); (try clear hk); (try clear hi)))
 go_ret
 exact ⟨by first | rfl | (simp [qk_, qy_] <;> rfl) | (simp [qk_, qy_] <;> decide +kernel) | (simp [*, qk_, qy_] <;> rfl), by repeat (first | (with_reducible first | exact HB.out | apply q6_ | apply q5_ | apply q7_ | refine qq_ ?_ ZB_.out) | exact HB.out)⟩
/-! ### api_Value_49: function 49 -/
def api_Value_49.l0 : Nat → List (S25) → Int → Int → Option (Int)
 | 0, _, _, _ => none
 | k + 1, x0, x7, x8 => if x8 < x7 then (if 0 ≤ x8 then (if x8 < (x0.length : Int) then ((value_mayBe1.f ((qj_ x0 x8).f0) ((qj_ x0 x8).f1) ((qj_ x0 x8).f2) ((qj_ x0 x8).f3) ((qj_ x0 x8).f4)).bind fun ZS_ => (if ZS_ = true then (some x8) else (api_Value_49.l0 k x0 x7 (wrap64 (x8 + 1))))) else (none)) else (none)) else (some (-1))
def api_Value_49.f (k : Nat) (l0 : List (S25)) : Option (Int) := api_Value_49.l0 k l0 (l0.length : Int) 0
theorem api_Value_49.mono_l : ∀ k, (∀ y0 y1 y2, LeO (api_Value_49.l0 k y0 y1 y2) (api_Value_49.l0 (k + 1) y0 y1 y2))
 | 0 => fun _ _ _ r h => by simp [api_Value_49.l0] at h
 | k + 1 => by
  have ih0 := api_Value_49.mono_l k
  ·
   intro y0 y1 y2
   unfold api_Value_49.l0
   repeat' first
   | (with_reducible exact ih0 _ _ _)
   | (with_reducible exact LeO.refl _)
   | (with_reducible exact LeO.none _)
   | (with_reducible refine LeO.ite ?_ ?_)
   | (with_reducible refine LeO.bind ?_ (fun _ => ?_))
   | exact ih0 _ _ _
   | exact LeO.none _
   | refine LeO.ite ?_ ?_
   | refine LeO.bind ?_ (fun _ => ?_)
theorem api_Value_49.mono : ∀ a0 k, LeO (api_Value_49.f k a0) (api_Value_49.f (k + 1) a0) := by
 intro a0 k
 have ih0 := api_Value_49.mono_l k
 unfold api_Value_49.f
 repeat' first
   | (with_reducible exact ih0 _ _ _)
   | (with_reducible exact LeO.refl _)
   | (with_reducible exact LeO.none _)
   | (with_reducible refine LeO.ite ?_ ?_)
   | (with_reducible refine LeO.bind ?_ (fun _ => ?_))
   | exact ih0 _ _ _
   | exact LeO.none _
   | refine LeO.ite ?_ ?_
   | refine LeO.bind ?_ (fun _ => ?_)
set_option maxHeartbeats 8000000 in
set_option maxRecDepth 100000 in
theorem api_Value_49.calls (k : Nat) (A0 : Option Addr) (c0 : Nat) (l0 : List (S25)) (r : Int) (w : World) (hr0 : Kd.C k25 w A0 l0.length l0) (hc0 : l0.length ≤ c0) (hM : ∀ x ∈ l0, MayF x.f0 x.f1 x.f2 x.f3 x.f4) (h : api_Value_49.f k l0 = some r) :
  Calls Tryd.prog 49 #[.slice A0 l0.length c0, .func (.func 47) #[] #[]] w fun e w' => e = .returned (.int .i64 r) ∧ Below w.heap.size w w' := by
 have kP_ := Tryd.underlying25
 have HR0 := q0_.mk hr0
 have HC0 := q0_.mk hc0
 clear hr0 hc0
 have HB := q0_.mk (Below.refl w.heap.size w)
 have H : (api_Value_49.l0 k l0 (l0.length : Int) 0) = some r := h
 clear h
 have H' := q0_.mk H
 clear H
 go_enter Tryd.func49, Tryd.ntmps49
 go_wp2
 go_loopg [8] k (fun kq v8 w' => ∃ (y4_ : Int), v8 = .int .i64 y4_ ∧ q0_ (api_Value_49.l0 kq l0 (l0.length : Int) y4_ = some r) ∧ q0_ (kq ≤ k) ∧ q0_ (Below w.heap.size w w'))
 case atStart => exact ⟨(0), (by first | rfl | (simp; done) | (simp [*]; done)), H', ⟨Nat.le_refl _⟩, ⟨by repeat (first | (with_reducible first | exact HB.out | apply q6_ | apply q5_ | apply q7_) | exact HB.out)⟩⟩
 case round =>
  clear H'
  obtain ⟨y4_, rfl, HA, HK1, HB⟩ := hrel
  cases gk with
  | zero => exact absurd HA.out (by simp [api_Value_49.l0])
  | succ k1 =>
   have H := HA.out
   clear HA
   simp only [api_Value_49.l0] at H
   by_cases c2 : y4_ < (l0.length : Int)
   ·
    rw [if_pos c2] at H
    have c2b0 : decide (y4_ < (l0.length : Int)) = true := decide_eq_true c2
    clear c2
    by_cases c3 : 0 ≤ y4_
    ·
     rw [if_pos c3] at H
     have Z5_ : decide (0 ≤ y4_) = true := decide_eq_true c3
     clear c3
     by_cases c4 : y4_ < (l0.length : Int)
     ·
      rw [if_pos c4] at H
      have Z2_ : decide (y4_ < (l0.length : Int)) = true := decide_eq_true c4
      clear c4
      replace H := Option.bind_eq_some_iff.mp H
      obtain ⟨ZS_, A50, H⟩ := H
      replace H : (if ZS_ = true then (some y4_) else (api_Value_49.l0 k1 l0 (l0.length : Int) (wrap64 (y4_ + 1)))) = some r := H
      have A5 := q0_.mk A50
      clear A50
      by_cases c6 : ZS_ = true
      ·
       subst c6
       have H1 : (some y4_) = some r := by rw [if_pos rfl] at H; exact H
       clear H
       have H := H1
       clear H1
       obtain rfl := Option.some.inj H
       have pj_ : 0 ≤ (y4_ : Int) := of_decide_eq_true (by first | (with_reducible assumption) | assumption)
       have pq_ : y4_ < (l0.length : Int) := of_decide_eq_true (by first | (with_reducible assumption) | assumption)
       obtain ⟨ad103, DK_, D1_, DX_, D0_, e103, Qf_, QH_, Qh_, QG_, Qg_, JX_, JP_, JJ_, Jp_⟩ := at_T25 HR0.out y4_ pj_ pq_
       cases e103
       replace Qf_ := (HB.out.cell (World.block_lt_of_cell? w _ Qf_)).trans Qf_
       replace QH_ := (HB.out.cell (World.block_lt_of_cell? w _ QH_)).trans QH_
       replace Qh_ := (HB.out.cell (World.block_lt_of_cell? w _ Qh_)).trans Qh_
       replace QG_ := (HB.out.cell (World.block_lt_of_cell? w _ QG_)).trans QG_
       replace Qg_ := (HB.out.cell (World.block_lt_of_cell? w _ Qg_)).trans Qg_
       have Fh_ := q0_.mk JP_
       have b4_ := q0_.mk JX_
       clear JP_ JX_
       have FG_ := q0_.mk Jp_
       have b3_ := q0_.mk JJ_
       clear Jp_ JJ_
       replace pj_ := eq_true pj_
       replace pq_ := eq_true pq_
       go_wp2_with (first | ((with_reducible refine qZ_ (N := 16) rfl ?_); refine goesD_ (some 16) rfl rfl 11 Tryd.func47 (by kernel_rfl) rfl #[.agg #[.int .i64 ((qj_ l0 y4_).f0), .bool ((qj_ l0 y4_).f1), .string ((qj_ l0 y4_).f2), .slice DK_ ((qj_ l0 y4_).f3).length D1_, .slice DX_ ((qj_ l0 y4_).f4).length D0_]] rfl rfl (by (try simp only [List.map_toArray, List.map_cons, List.map_nil]); first | done | rfl | (simp only [List.length_drop, List.length_take]; rfl)) ?_; (with_reducible refine (value_mayBe1.calls ((qj_ l0 y4_).f0) ((qj_ l0 y4_).f1) ((qj_ l0 y4_).f2) _ _ ((qj_ l0 y4_).f3) _ _ ((qj_ l0 y4_).f4) true _ ?zQ_ ?zZ_ ?zY_ ?zK_ (hM _ (mem_T25 (of_eq_true pj_) (of_eq_true pq_))) A5.out).mono ?_); (case zQ_ => repeat (first | exact (Kd.qD_ Fh_.out HB.out) | (with_reducible refine Kd.qP_ ?_ _) | (with_reducible refine Kd.qr_ ?_ _) | (with_reducible refine Kd.qR_ ?_))); (case zZ_ => exact b4_.out); (case zY_ => repeat (first | exact (Kd.qD_ FG_.out HB.out) | (with_reducible refine Kd.qP_ ?_ _) | (with_reducible refine Kd.qr_ ?_ _) | (with_reducible refine Kd.qR_ ?_))); (case zK_ => exact b3_.out); rintro e w7 ⟨rfl, hb⟩; refine ⟨_, rfl, ?_⟩; have n0_ := q0_.mk (q4_ (by repeat (first | (with_reducible first | exact HB.out | apply q6_ | apply q5_ | apply q7_) | exact HB.out)) hb); clear HB; have HB := n0_; clear n0_; (try clear hb); (try clear hb2); (try clear hk); (try clear hi)))
       go_ret
       exact ⟨by first | rfl | (simp [qk_, qy_] <;> rfl) | (simp [qk_, qy_] <;> decide +kernel) | (simp [*, qk_, qy_] <;> rfl), by repeat (first | (with_reducible first | exact HB.out | apply q6_ | apply q5_ | apply q7_) | exact HB.out)⟩
      ·
       replace c6 := Bool.eq_false_iff.mpr c6
       subst c6
       have H1 : (api_Value_49.l0 k1 l0 (l0.length : Int) (wrap64 (y4_ + 1))) = some r := by rw [if_neg (show ¬ (false = true) by decide)] at H; exact H
       clear H
       have H := H1
       clear H1
       have H' := q0_.mk H
       clear H
       have pj_ : 0 ≤ (y4_ : Int) := of_decide_eq_true (by first | (with_reducible assumption) | assumption)
       have pq_ : y4_ < (l0.length : Int) := of_decide_eq_true (by first | (with_reducible assumption) | assumption)
       obtain ⟨ad103, DK_, D1_, DX_, D0_, e103, Qf_, QH_, Qh_, QG_, Qg_, JX_, JP_, JJ_, Jp_⟩ := at_T25 HR0.out y4_ pj_ pq_
       cases e103
       replace Qf_ := (HB.out.cell (World.block_lt_of_cell? w _ Qf_)).trans Qf_
       replace QH_ := (HB.out.cell (World.block_lt_of_cell? w _ QH_)).trans QH_
       replace Qh_ := (HB.out.cell (World.block_lt_of_cell? w _ Qh_)).trans Qh_
       replace QG_ := (HB.out.cell (World.block_lt_of_cell? w _ QG_)).trans QG_
       replace Qg_ := (HB.out.cell (World.block_lt_of_cell? w _ Qg_)).trans Qg_
       have Fh_ := q0_.mk JP_
       have b4_ := q0_.mk JX_
       clear JP_ JX_
       have FG_ := q0_.mk Jp_
       have b3_ := q0_.mk JJ_
       clear Jp_ JJ_
       replace pj_ := eq_true pj_
       replace pq_ := eq_true pq_
       go_wp2_with (first | ((with_reducible refine qZ_ (N := 16) rfl ?_); refine goesD_ (some 16) rfl rfl 11 Tryd.func47 (by kernel_rfl) rfl #[.agg #[.int .i64 ((qj_ l0 y4_).f0), .bool ((qj_ l0 y4_).f1), .string ((qj_ l0 y4_).f2), .slice DK_ ((qj_ l0 y4_).f3).length D1_, .slice DX_ ((qj_ l0 y4_).f4).length D0_]] rfl rfl (by (try simp only [List.map_toArray, List.map_cons, List.map_nil]); first | done | rfl | (simp only [List.length_drop, List.length_take]; rfl)) ?_; (with_reducible refine (value_mayBe1.calls ((qj_ l0 y4_).f0) ((qj_ l0 y4_).f1) ((qj_ l0 y4_).f2) _ _ ((qj_ l0 y4_).f3) _ _ ((qj_ l0 y4_).f4) false _ ?zQ_ ?zZ_ ?zY_ ?zK_ (hM _ (mem_T25 (of_eq_true pj_) (of_eq_true pq_))) A5.out).mono ?_); (case zQ_ => repeat (first | exact (Kd.qD_ Fh_.out HB.out) | (with_reducible refine Kd.qP_ ?_ _) | (with_reducible refine Kd.qr_ ?_ _) | (with_reducible refine Kd.qR_ ?_))); (case zZ_ => exact b4_.out); (case zY_ => repeat (first | exact (Kd.qD_ FG_.out HB.out) | (with_reducible refine Kd.qP_ ?_ _) | (with_reducible refine Kd.qr_ ?_ _) | (with_reducible refine Kd.qR_ ?_))); (case zK_ => exact b3_.out); rintro e w8 ⟨rfl, hb⟩; refine ⟨_, rfl, ?_⟩; have n0_ := q0_.mk (q4_ (by repeat (first | (with_reducible first | exact HB.out | apply q6_ | apply q5_ | apply q7_) | exact HB.out)) hb); clear HB; have HB := n0_; clear n0_; (try clear hb); (try clear hb2); (try clear hk); (try clear hi)))
       go_roundg k1
       case measure => have := HK1.out; omega
       case rel => exact ⟨(wrap64 (y4_ + 1)), (by first | rfl | (simp; done) | (simp [*]; done)), H', ⟨by have := HK1.out; omega⟩, ⟨by repeat (first | (with_reducible first | exact HB.out | apply q6_ | apply q5_ | apply q7_) | exact HB.out)⟩⟩
     ·
      rw [if_neg c4] at H
      exact absurd H (by simp)
    ·
     rw [if_neg c3] at H
     exact absurd H (by simp)
   ·
    rw [if_neg c2] at H
    have c2b0 : decide (y4_ < (l0.length : Int)) = false := decide_eq_false c2
    clear c2
    obtain rfl := Option.some.inj H
    go_wp2
    go_ret
    exact ⟨by first | rfl | (simp [qk_, qy_] <;> rfl) | (simp [qk_, qy_] <;> decide +kernel) | (simp [*, qk_, qy_] <;> rfl), by repeat (first | (with_reducible first | exact HB.out | apply q6_ | apply q5_ | apply q7_) | exact HB.out)⟩
/-! ### api_Value_46: function 46 -/
def api_Value_46.f (k : Nat) (l0 : List (S25)) : Option (Bool) := (api_Value_49.f k l0).bind fun bX_ => (some (decide (bX_ ≥ 0)))
theorem api_Value_46.mono : ∀ a0 k, LeO (api_Value_46.f k a0) (api_Value_46.f (k + 1) a0) := by
 intro a0 k
 unfold api_Value_46.f
 repeat' first
   | (with_reducible exact api_Value_49.mono _ _)
   | (with_reducible exact LeO.refl _)
   | (with_reducible exact LeO.none _)
   | (with_reducible refine LeO.ite ?_ ?_)
   | (with_reducible refine LeO.bind ?_ (fun _ => ?_))
   | exact api_Value_49.mono _ _
   | exact LeO.none _
   | refine LeO.ite ?_ ?_
   | refine LeO.bind ?_ (fun _ => ?_)
set_option maxHeartbeats 8000000 in
set_option maxRecDepth 100000 in
theorem api_Value_46.calls (k : Nat) (A0 : Option Addr) (c0 : Nat) (l0 : List (S25)) (r : Bool) (w : World) (hr0 : Kd.C k25 w A0 l0.length l0) (hc0 : l0.length ≤ c0) (hM : ∀ x ∈ l0, MayF x.f0 x.f1 x.f2 x.f3 x.f4) (h : api_Value_46.f k l0 = some r) :
  Calls Tryd.prog 46 #[.slice A0 l0.length c0, .func (.func 47) #[] #[]] w fun e w' => e = .returned (.bool r) ∧ Below w.heap.size w w' := by
 have HR0 := q0_.mk hr0
 have HC0 := q0_.mk hc0
 clear hr0 hc0
 have HB := q0_.mk (Below.refl w.heap.size w)
 have H : ((api_Value_49.f k l0).bind fun bX_ => (some (decide (bX_ ≥ 0)))) = some r := h
 clear h
 replace H := Option.bind_eq_some_iff.mp H
 obtain ⟨bX_, A20, H⟩ := H
 replace H : (some (decide (bX_ ≥ 0))) = some r := H
 have A2 := q0_.mk A20
 clear A20
 obtain rfl := Option.some.inj H
 go_enter Tryd.func46, Tryd.ntmps46
 go_wp2_with (first | ((with_reducible refine qh_ (f := 49) rfl ?_); refine goesL_ (some 7) rfl rfl Tryd.func49 (by kernel_rfl) rfl #[.slice A0 l0.length c0, .func (.func 47) #[] #[]] rfl (by (try simp only [List.map_toArray, List.map_cons, List.map_nil]); first | done | rfl | (simp only [List.length_drop, List.length_take]; rfl)) ?_; (with_reducible refine (api_Value_49.calls k _ _ l0 bX_ _ ?zQ_ ?zZ_ hM A2.out).mono ?_); (case zQ_ => repeat (first | exact HR0.out | (with_reducible refine Kd.qP_ ?_ _) | (with_reducible refine Kd.qr_ ?_ _) | (with_reducible refine Kd.qR_ ?_))); (case zZ_ => exact HC0.out); rintro e w3 ⟨rfl, hb⟩; refine ⟨_, rfl, ?_⟩; have n0_ := q0_.mk (q4_ (by repeat (first | (with_reducible first | exact HB.out | apply q6_ | apply q5_ | apply q7_) | exact HB.out)) hb); clear HB; have HB := n0_; clear n0_; (try clear hb); (try clear hb2); (try clear hk); (try clear hi)))
 go_ret
 exact ⟨by first | rfl | (simp [qk_, qy_] <;> rfl) | (simp [qk_, qy_] <;> decide +kernel) | (simp [*, qk_, qy_] <;> rfl), by repeat (first | (with_reducible first | exact HB.out | apply q6_ | apply q5_ | apply q7_) | exact HB.out)⟩
/-! ### api_Value_43: function 43 -/
def api_Value_43.l0 : Nat → List (S25) → List (S25) → Int → Int → Option (Bool)
 | 0, _, _, _, _ => none
 | k + 1, x1, x15, x16, x17 => if x17 < x16 then (if 0 ≤ x17 then (if x17 < (x15.length : Int) then (if x17 < (x1.length : Int) then ((value_Equal.f ((qj_ x15 x17).f0) ((qj_ x15 x17).f1) ((qj_ x15 x17).f2) ((qj_ x15 x17).f3) ((qj_ x15 x17).f4) ((qj_ x1 x17).f0) ((qj_ x1 x17).f1) ((qj_ x1 x17).f2) ((qj_ x1 x17).f3) ((qj_ x1 x17).f4)).bind fun t110 => (if t110 = true then (api_Value_43.l0 k x1 x15 x16 (wrap64 (x17 + 1))) else (some false))) else (none)) else (none)) else (none)) else (some true)
def api_Value_43.f (k : Nat) (l0 : List (S25)) (l1 : List (S25)) : Option (Bool) := if (l0.length : Int) = (l1.length : Int) then (api_Value_43.l0 k l1 l0 (l0.length : Int) 0) else (some false)
theorem api_Value_43.mono_l : ∀ k, (∀ y0 y1 y2 y3, LeO (api_Value_43.l0 k y0 y1 y2 y3) (api_Value_43.l0 (k + 1) y0 y1 y2 y3))
 | 0 => fun _ _ _ _ r h => by simp [api_Value_43.l0] at h
 | k + 1 => by
  have ih0 := api_Value_43.mono_l k
  ·
   intro y0 y1 y2 y3
   unfold api_Value_43.l0
   repeat' first
   | (with_reducible exact ih0 _ _ _ _)
   | (with_reducible exact LeO.refl _)
   | (with_reducible exact LeO.none _)
   | (with_reducible refine LeO.ite ?_ ?_)
   | (with_reducible refine LeO.bind ?_ (fun _ => ?_))
   | exact ih0 _ _ _ _
   | exact LeO.none _
   | refine LeO.ite ?_ ?_
   | refine LeO.bind ?_ (fun _ => ?_)
theorem api_Value_43.mono : ∀ a0 a1 k, LeO (api_Value_43.f k a0 a1) (api_Value_43.f (k + 1) a0 a1) := by
 intro a0 a1 k
 have ih0 := api_Value_43.mono_l k
 unfold api_Value_43.f
 repeat' first
   | (with_reducible exact ih0 _ _ _ _)
   | (with_reducible exact LeO.refl _)
   | (with_reducible exact LeO.none _)
   | (with_reducible refine LeO.ite ?_ ?_)
   | (with_reducible refine LeO.bind ?_ (fun _ => ?_))
   | exact ih0 _ _ _ _
   | exact LeO.none _
   | refine LeO.ite ?_ ?_
   | refine LeO.bind ?_ (fun _ => ?_)
set_option maxHeartbeats 8000000 in
set_option maxRecDepth 100000 in
theorem api_Value_43.calls (k : Nat) (A0 : Option Addr) (c0 : Nat) (l0 : List (S25)) (A1 : Option Addr) (c1 : Nat) (l1 : List (S25)) (r : Bool) (w : World) (hr0 : Kd.C k25 w A0 l0.length l0) (hc0 : l0.length ≤ c0) (hr1 : Kd.C k25 w A1 l1.length l1) (hc1 : l1.length ≤ c1) (hE : ∀ x ∈ l0, EqF x.f0 x.f1 x.f2 x.f3 x.f4) (h : api_Value_43.f k l0 l1 = some r) :
  Calls Tryd.prog 43 #[.slice A0 l0.length c0, .slice A1 l1.length c1, .func (.func 22) #[] #[]] w fun e w' => e = .returned (.bool r) ∧ Below w.heap.size w w' := by
 have kP_ := Tryd.underlying25
 have HR0 := q0_.mk hr0
 have HC0 := q0_.mk hc0
 clear hr0 hc0
 have HR1 := q0_.mk hr1
 have HC1 := q0_.mk hc1
 clear hr1 hc1
 have HB := q0_.mk (Below.refl w.heap.size w)
 have H : (if (l0.length : Int) = (l1.length : Int) then (api_Value_43.l0 k l1 l0 (l0.length : Int) 0) else (some false)) = some r := h
 clear h
 by_cases c3 : (l0.length : Int) = (l1.length : Int)
 ·
  rw [if_pos c3] at H
  have Z5_ : ((l0.length : Int) == (l1.length : Int)) = true := beq_iff_eq.mpr c3
  have Kg_ : ((l0.length : Int) != (l1.length : Int)) = false := bne_eq_false_iff_eq.mpr c3
  have bF_ : (l0.length == l1.length) = true := by first | simpa using c3 | (simp at c3 ⊢; omega)
  clear c3
  have H' := q0_.mk H
  clear H
  go_enter Tryd.func43, Tryd.ntmps43
  go_wp2
  go_loopg [17] k (fun kq v17 w' => ∃ (z4_ : Int), v17 = .int .i64 z4_ ∧ q0_ (api_Value_43.l0 kq l1 l0 (l0.length : Int) z4_ = some r) ∧ q0_ (kq ≤ k) ∧ q0_ (Below w.heap.size w w'))
  case atStart => exact ⟨(0), (by first | rfl | (simp; done) | (simp [*]; done)), H', ⟨Nat.le_refl _⟩, ⟨by repeat (first | (with_reducible first | exact HB.out | apply q6_ | apply q5_ | apply q7_) | exact HB.out)⟩⟩
  case round =>
   clear H'
   try clear c1
   try clear p2
   try clear c3
   try clear Z5_
   try clear Kg_
   try clear bF_
   obtain ⟨z4_, rfl, HA, HK1, HB⟩ := hrel
   cases gk with
   | zero => exact absurd HA.out (by simp [api_Value_43.l0])
   | succ k1 =>
    have H := HA.out
    clear HA
    simp only [api_Value_43.l0] at H
    by_cases c4 : z4_ < (l0.length : Int)
    ·
     rw [if_pos c4] at H
     have Z2_ : decide (z4_ < (l0.length : Int)) = true := decide_eq_true c4
     clear c4
     by_cases c5 : 0 ≤ z4_
     ·
      rw [if_pos c5] at H
      have bK_ : decide (0 ≤ z4_) = true := decide_eq_true c5
      clear c5
      by_cases c6 : z4_ < (l0.length : Int)
      ·
       rw [if_pos c6] at H
       have Fy_ : decide (z4_ < (l0.length : Int)) = true := decide_eq_true c6
       clear c6
       by_cases c7 : z4_ < (l1.length : Int)
       ·
        rw [if_pos c7] at H
        have py_ : decide (z4_ < (l1.length : Int)) = true := decide_eq_true c7
        clear c7
        replace H := Option.bind_eq_some_iff.mp H
        obtain ⟨t110, A80, H⟩ := H
        replace H : (if t110 = true then (api_Value_43.l0 k1 l1 l0 (l0.length : Int) (wrap64 (z4_ + 1))) else (some false)) = some r := H
        have A8 := q0_.mk A80
        clear A80
        by_cases c9 : t110 = true
        ·
         subst c9
         have H1 : (api_Value_43.l0 k1 l1 l0 (l0.length : Int) (wrap64 (z4_ + 1))) = some r := by rw [if_pos rfl] at H; exact H
         clear H
         have H := H1
         clear H1
         have H' := q0_.mk H
         clear H
         have pz_ : 0 ≤ (z4_ : Int) := of_decide_eq_true (by first | (with_reducible assumption) | assumption)
         have p9_ : z4_ < (l0.length : Int) := of_decide_eq_true (by first | (with_reducible assumption) | assumption)
         obtain ⟨ad106, jZ_, jQ_, xk_, xj_, e106, QW_, QV_, QY_, QK_, QX_, JZ_, JD_, JQ_, Jd_⟩ := at_T25 HR0.out z4_ pz_ p9_
         cases e106
         replace QW_ := (HB.out.cell (World.block_lt_of_cell? w _ QW_)).trans QW_
         replace QV_ := (HB.out.cell (World.block_lt_of_cell? w _ QV_)).trans QV_
         replace QY_ := (HB.out.cell (World.block_lt_of_cell? w _ QY_)).trans QY_
         replace QK_ := (HB.out.cell (World.block_lt_of_cell? w _ QK_)).trans QK_
         replace QX_ := (HB.out.cell (World.block_lt_of_cell? w _ QX_)).trans QX_
         have Fg_ := q0_.mk JD_
         have b2_ := q0_.mk JZ_
         clear JD_ JZ_
         have FW_ := q0_.mk Jd_
         have b1_ := q0_.mk JQ_
         clear Jd_ JQ_
         replace pz_ := eq_true pz_
         replace p9_ := eq_true p9_
         go_wp2_with (first | ((with_reducible refine qZ_ (N := 8) rfl ?_); refine qJ_ ?hg (N := 8) ?hd (cs := #[.int .i64 0, .bool false, .string (⟨#[]⟩ : ByteArray), .slice none 0 0, .slice none 0 0]) (t := 25) ?hr ?_; (case hd => rfl); (case hg => rfl); (case hr => first | (go_simp; done) | (go_simp; rfl)); intro z8_ hg w10 hbox hb; have n0_ := q0_.mk (q4_ (by repeat (first | (with_reducible first | exact HB.out | apply q6_ | apply q5_ | apply q7_) | exact HB.out)) hb); have n1_ := q0_.mk (hbox); have n2_ := q0_.mk ((by rw [hg]; exact (qw_ (by repeat (first | (with_reducible first | exact HB.out | apply q6_ | apply q5_ | apply q7_) | exact HB.out))) : w.heap.size ≤ z8_)); have n3_ := q0_.mk ((by rw [hg]; exact (qw_ (by repeat (first | (with_reducible first | exact HB.out | apply q6_ | apply q5_ | apply q7_) | exact HB.out))) : w.heap.size ≤ z8_)); clear HB; have HB := n0_; have zk_ := n1_; have wW_ := n2_; have xK_ := n3_; clear n0_ n1_ n2_ n3_; clear hb hbox hg; have v9_ : w10.cell? ⟨z8_, 0, none⟩ = some (.int .i64 0) := (q1_ zk_.out 0).trans rfl; have v8_ : w10.cell? ⟨z8_, 1, none⟩ = some (.bool false) := (q1_ zk_.out 1).trans rfl; have v7_ : w10.cell? ⟨z8_, 2, none⟩ = some (.string (⟨#[]⟩ : ByteArray)) := (q1_ zk_.out 2).trans rfl; have v6_ : w10.cell? ⟨z8_, 3, none⟩ = some (.slice none 0 0) := (q1_ zk_.out 3).trans rfl; have v5_ : w10.cell? ⟨z8_, 4, none⟩ = some (.slice none 0 0) := (q1_ zk_.out 4).trans rfl; have yp_ := q3_ zk_.out 0; have yD_ := q3_ zk_.out 1; have yd_ := q3_ zk_.out 2; have yB_ := q3_ zk_.out 3; have yb_ := q3_ zk_.out 4; have Rj_ : 0 ≤ (z4_ : Int) := of_decide_eq_true (by first | (with_reducible assumption) | assumption); have R1_ : z4_ < (l1.length : Int) := of_decide_eq_true (by first | (with_reducible assumption) | assumption); obtain ⟨Kq_, KX_, K4_, VW_, VQ_, e108, zX_, j6_, j5_, j4_, j3_, Jw_, JB_, Jv_, Jb_⟩ := at_T25 HR1.out z4_ Rj_ R1_; cases e108; have zb_ : Kq_.block ≠ z8_ := Nat.ne_of_lt (Nat.lt_of_lt_of_le (by have := World.block_lt_of_cell? _ _ zX_; first | rwa [qQ_] at this | exact this) wW_.out); have zF_ : Kq_.block ≠ z8_ := Nat.ne_of_lt (Nat.lt_of_lt_of_le (by have := World.block_lt_of_cell? _ _ zX_; first | rwa [qQ_] at this | exact this) wW_.out); have zf_ : Kq_.block ≠ z8_ := Nat.ne_of_lt (Nat.lt_of_lt_of_le (by have := World.block_lt_of_cell? _ _ zX_; first | rwa [qQ_] at this | exact this) wW_.out); have zH_ : Kq_.block ≠ z8_ := Nat.ne_of_lt (Nat.lt_of_lt_of_le (by have := World.block_lt_of_cell? _ _ zX_; first | rwa [qQ_] at this | exact this) wW_.out); have zh_ : Kq_.block ≠ z8_ := Nat.ne_of_lt (Nat.lt_of_lt_of_le (by have := World.block_lt_of_cell? _ _ zX_; first | rwa [qQ_] at this | exact this) wW_.out); replace zX_ := (HB.out.cell (World.block_lt_of_cell? w _ zX_)).trans zX_; replace j6_ := (HB.out.cell (World.block_lt_of_cell? w _ j6_)).trans j6_; replace j5_ := (HB.out.cell (World.block_lt_of_cell? w _ j5_)).trans j5_; replace j4_ := (HB.out.cell (World.block_lt_of_cell? w _ j4_)).trans j4_; replace j3_ := (HB.out.cell (World.block_lt_of_cell? w _ j3_)).trans j3_; have FV_ := q0_.mk JB_; have b0_ := q0_.mk Jw_; clear JB_ Jw_; have FY_ := q0_.mk Jb_; have FS_ := q0_.mk Jv_; clear Jb_ Jv_; replace zX_ := (qG_ (p := ⟨z8_, 0, none⟩) (by first | (rw [qQ_]; exact zb_) | (show (Addr.add _ _).block ≠ _; rw [qQ_]; exact zb_) | exact zb_) (.int .i64 ((qj_ l0 z4_).f0))).trans zX_; replace j6_ := (qG_ (p := ⟨z8_, 0, none⟩) (by first | (rw [qQ_]; exact zb_) | (show (Addr.add _ _).block ≠ _; rw [qQ_]; exact zb_) | exact zb_) (.int .i64 ((qj_ l0 z4_).f0))).trans j6_; replace j5_ := (qG_ (p := ⟨z8_, 0, none⟩) (by first | (rw [qQ_]; exact zb_) | (show (Addr.add _ _).block ≠ _; rw [qQ_]; exact zb_) | exact zb_) (.int .i64 ((qj_ l0 z4_).f0))).trans j5_; replace j4_ := (qG_ (p := ⟨z8_, 0, none⟩) (by first | (rw [qQ_]; exact zb_) | (show (Addr.add _ _).block ≠ _; rw [qQ_]; exact zb_) | exact zb_) (.int .i64 ((qj_ l0 z4_).f0))).trans j4_; replace j3_ := (qG_ (p := ⟨z8_, 0, none⟩) (by first | (rw [qQ_]; exact zb_) | (show (Addr.add _ _).block ≠ _; rw [qQ_]; exact zb_) | exact zb_) (.int .i64 ((qj_ l0 z4_).f0))).trans j3_; replace zX_ := (qG_ (p := ⟨z8_, 1, none⟩) (by first | (rw [qQ_]; exact zF_) | (show (Addr.add _ _).block ≠ _; rw [qQ_]; exact zF_) | exact zF_) (.bool ((qj_ l0 z4_).f1))).trans zX_; replace j6_ := (qG_ (p := ⟨z8_, 1, none⟩) (by first | (rw [qQ_]; exact zF_) | (show (Addr.add _ _).block ≠ _; rw [qQ_]; exact zF_) | exact zF_) (.bool ((qj_ l0 z4_).f1))).trans j6_; replace j5_ := (qG_ (p := ⟨z8_, 1, none⟩) (by first | (rw [qQ_]; exact zF_) | (show (Addr.add _ _).block ≠ _; rw [qQ_]; exact zF_) | exact zF_) (.bool ((qj_ l0 z4_).f1))).trans j5_; replace j4_ := (qG_ (p := ⟨z8_, 1, none⟩) (by first | (rw [qQ_]; exact zF_) | (show (Addr.add _ _).block ≠ _; rw [qQ_]; exact zF_) | exact zF_) (.bool ((qj_ l0 z4_).f1))).trans j4_; replace j3_ := (qG_ (p := ⟨z8_, 1, none⟩) (by first | (rw [qQ_]; exact zF_) | (show (Addr.add _ _).block ≠ _; rw [qQ_]; exact zF_) | exact zF_) (.bool ((qj_ l0 z4_).f1))).trans j3_; replace zX_ := (qG_ (p := ⟨z8_, 2, none⟩) (by first | (rw [qQ_]; exact zf_) | (show (Addr.add _ _).block ≠ _; rw [qQ_]; exact zf_) | exact zf_) (.string ((qj_ l0 z4_).f2))).trans zX_; replace j6_ := (qG_ (p := ⟨z8_, 2, none⟩) (by first | (rw [qQ_]; exact zf_) | (show (Addr.add _ _).block ≠ _; rw [qQ_]; exact zf_) | exact zf_) (.string ((qj_ l0 z4_).f2))).trans j6_; replace j5_ := (qG_ (p := ⟨z8_, 2, none⟩) (by first | (rw [qQ_]; exact zf_) | (show (Addr.add _ _).block ≠ _; rw [qQ_]; exact zf_) | exact zf_) (.string ((qj_ l0 z4_).f2))).trans j5_; replace j4_ := (qG_ (p := ⟨z8_, 2, none⟩) (by first | (rw [qQ_]; exact zf_) | (show (Addr.add _ _).block ≠ _; rw [qQ_]; exact zf_) | exact zf_) (.string ((qj_ l0 z4_).f2))).trans j4_; replace j3_ := (qG_ (p := ⟨z8_, 2, none⟩) (by first | (rw [qQ_]; exact zf_) | (show (Addr.add _ _).block ≠ _; rw [qQ_]; exact zf_) | exact zf_) (.string ((qj_ l0 z4_).f2))).trans j3_; replace zX_ := (qG_ (p := ⟨z8_, 3, none⟩) (by first | (rw [qQ_]; exact zH_) | (show (Addr.add _ _).block ≠ _; rw [qQ_]; exact zH_) | exact zH_) (.slice jZ_ ((qj_ l0 z4_).f3).length jQ_)).trans zX_; replace j6_ := (qG_ (p := ⟨z8_, 3, none⟩) (by first | (rw [qQ_]; exact zH_) | (show (Addr.add _ _).block ≠ _; rw [qQ_]; exact zH_) | exact zH_) (.slice jZ_ ((qj_ l0 z4_).f3).length jQ_)).trans j6_; replace j5_ := (qG_ (p := ⟨z8_, 3, none⟩) (by first | (rw [qQ_]; exact zH_) | (show (Addr.add _ _).block ≠ _; rw [qQ_]; exact zH_) | exact zH_) (.slice jZ_ ((qj_ l0 z4_).f3).length jQ_)).trans j5_; replace j4_ := (qG_ (p := ⟨z8_, 3, none⟩) (by first | (rw [qQ_]; exact zH_) | (show (Addr.add _ _).block ≠ _; rw [qQ_]; exact zH_) | exact zH_) (.slice jZ_ ((qj_ l0 z4_).f3).length jQ_)).trans j4_; replace j3_ := (qG_ (p := ⟨z8_, 3, none⟩) (by first | (rw [qQ_]; exact zH_) | (show (Addr.add _ _).block ≠ _; rw [qQ_]; exact zH_) | exact zH_) (.slice jZ_ ((qj_ l0 z4_).f3).length jQ_)).trans j3_; replace zX_ := (qG_ (p := ⟨z8_, 4, none⟩) (by first | (rw [qQ_]; exact zh_) | (show (Addr.add _ _).block ≠ _; rw [qQ_]; exact zh_) | exact zh_) (.slice xk_ ((qj_ l0 z4_).f4).length xj_)).trans zX_; replace j6_ := (qG_ (p := ⟨z8_, 4, none⟩) (by first | (rw [qQ_]; exact zh_) | (show (Addr.add _ _).block ≠ _; rw [qQ_]; exact zh_) | exact zh_) (.slice xk_ ((qj_ l0 z4_).f4).length xj_)).trans j6_; replace j5_ := (qG_ (p := ⟨z8_, 4, none⟩) (by first | (rw [qQ_]; exact zh_) | (show (Addr.add _ _).block ≠ _; rw [qQ_]; exact zh_) | exact zh_) (.slice xk_ ((qj_ l0 z4_).f4).length xj_)).trans j5_; replace j4_ := (qG_ (p := ⟨z8_, 4, none⟩) (by first | (rw [qQ_]; exact zh_) | (show (Addr.add _ _).block ≠ _; rw [qQ_]; exact zh_) | exact zh_) (.slice xk_ ((qj_ l0 z4_).f4).length xj_)).trans j4_; replace j3_ := (qG_ (p := ⟨z8_, 4, none⟩) (by first | (rw [qQ_]; exact zh_) | (show (Addr.add _ _).block ≠ _; rw [qQ_]; exact zh_) | exact zh_) (.slice xk_ ((qj_ l0 z4_).f4).length xj_)).trans j3_; clear zb_; clear zF_; clear zf_; clear zH_; clear zh_; replace Rj_ := eq_true Rj_; replace R1_ := eq_true R1_) | ((with_reducible refine qZ_ (N := 9) rfl ?_); refine qJ_ ?hg (N := 9) ?hd (cs := #[.int .i64 0, .bool false, .string (⟨#[]⟩ : ByteArray), .slice none 0 0, .slice none 0 0]) (t := 25) ?hr ?_; (case hd => rfl); (case hg => rfl); (case hr => first | (go_simp; done) | (go_simp; rfl)); intro zp_ hg w12 hbox hb; have n0_ := q0_.mk (q2_ (g := z8_) (o := .cells #[.int .i64 ((qj_ l0 z4_).f0), .bool ((qj_ l0 z4_).f1), .string ((qj_ l0 z4_).f2), .slice jZ_ ((qj_ l0 z4_).f3).length jQ_, .slice xk_ ((qj_ l0 z4_).f4).length xj_] 25 (0, 0)) (by (with_reducible repeat (first | refine q9_ ?_ _ | refine qz_ ?_ | refine q8_ ?_ _)); refine qv_ (cs := #[.int .i64 ((qj_ l0 z4_).f0), .bool ((qj_ l0 z4_).f1), .string ((qj_ l0 z4_).f2), .slice jZ_ ((qj_ l0 z4_).f3).length jQ_, .slice none 0 0]) ?_ 4 _ rfl; (with_reducible repeat (first | refine q9_ ?_ _ | refine qz_ ?_ | refine q8_ ?_ _)); refine qv_ (cs := #[.int .i64 ((qj_ l0 z4_).f0), .bool ((qj_ l0 z4_).f1), .string ((qj_ l0 z4_).f2), .slice none 0 0, .slice none 0 0]) ?_ 3 _ rfl; (with_reducible repeat (first | refine q9_ ?_ _ | refine qz_ ?_ | refine q8_ ?_ _)); refine qv_ (cs := #[.int .i64 ((qj_ l0 z4_).f0), .bool ((qj_ l0 z4_).f1), .string (⟨#[]⟩ : ByteArray), .slice none 0 0, .slice none 0 0]) ?_ 2 _ rfl; (with_reducible repeat (first | refine q9_ ?_ _ | refine qz_ ?_ | refine q8_ ?_ _)); refine qv_ (cs := #[.int .i64 ((qj_ l0 z4_).f0), .bool false, .string (⟨#[]⟩ : ByteArray), .slice none 0 0, .slice none 0 0]) ?_ 1 _ rfl; (with_reducible repeat (first | refine q9_ ?_ _ | refine qz_ ?_ | refine q8_ ?_ _)); refine qv_ (cs := #[.int .i64 0, .bool false, .string (⟨#[]⟩ : ByteArray), .slice none 0 0, .slice none 0 0]) ?_ 0 _ rfl; (with_reducible repeat (first | refine q9_ ?_ _ | refine qz_ ?_ | refine q8_ ?_ _)); exact zk_.out) hb); have n1_ := q0_.mk (q4_ (by repeat (first | (with_reducible first | exact HB.out | apply q6_ | apply q5_ | apply q7_ | refine qq_ ?_ xK_.out) | exact HB.out)) hb); have n2_ := q0_.mk (hbox); have n3_ := q0_.mk ((by rw [hg]; exact (qw_ (by repeat (first | (with_reducible first | exact HB.out | apply q6_ | apply q5_ | apply q7_ | refine qq_ ?_ xK_.out) | exact HB.out))) : w.heap.size ≤ zp_)); have n4_ := q0_.mk ((by rw [hg]; exact (qw_ (by repeat (first | (with_reducible first | exact HB.out | apply q6_ | apply q5_ | apply q7_ | refine qq_ ?_ xK_.out) | exact HB.out))) : w.heap.size ≤ zp_)); have n5_ := q0_.mk ((by rw [hg]; exact Nat.ne_of_lt (qY_ (g := z8_) (o := .cells #[.int .i64 ((qj_ l0 z4_).f0), .bool ((qj_ l0 z4_).f1), .string ((qj_ l0 z4_).f2), .slice jZ_ ((qj_ l0 z4_).f3).length jQ_, .slice xk_ ((qj_ l0 z4_).f4).length xj_] 25 (0, 0)) (by (with_reducible repeat (first | refine q9_ ?_ _ | refine qz_ ?_ | refine q8_ ?_ _)); refine qv_ (cs := #[.int .i64 ((qj_ l0 z4_).f0), .bool ((qj_ l0 z4_).f1), .string ((qj_ l0 z4_).f2), .slice jZ_ ((qj_ l0 z4_).f3).length jQ_, .slice none 0 0]) ?_ 4 _ rfl; (with_reducible repeat (first | refine q9_ ?_ _ | refine qz_ ?_ | refine q8_ ?_ _)); refine qv_ (cs := #[.int .i64 ((qj_ l0 z4_).f0), .bool ((qj_ l0 z4_).f1), .string ((qj_ l0 z4_).f2), .slice none 0 0, .slice none 0 0]) ?_ 3 _ rfl; (with_reducible repeat (first | refine q9_ ?_ _ | refine qz_ ?_ | refine q8_ ?_ _)); refine qv_ (cs := #[.int .i64 ((qj_ l0 z4_).f0), .bool ((qj_ l0 z4_).f1), .string (⟨#[]⟩ : ByteArray), .slice none 0 0, .slice none 0 0]) ?_ 2 _ rfl; (with_reducible repeat (first | refine q9_ ?_ _ | refine qz_ ?_ | refine q8_ ?_ _)); refine qv_ (cs := #[.int .i64 ((qj_ l0 z4_).f0), .bool false, .string (⟨#[]⟩ : ByteArray), .slice none 0 0, .slice none 0 0]) ?_ 1 _ rfl; (with_reducible repeat (first | refine q9_ ?_ _ | refine qz_ ?_ | refine q8_ ?_ _)); refine qv_ (cs := #[.int .i64 0, .bool false, .string (⟨#[]⟩ : ByteArray), .slice none 0 0, .slice none 0 0]) ?_ 0 _ rfl; (with_reducible repeat (first | refine q9_ ?_ _ | refine qz_ ?_ | refine q8_ ?_ _)); exact zk_.out)) : z8_ ≠ zp_)); have n6_ := q0_.mk ((by rw [hg]; exact Nat.ne_of_gt (qY_ (g := z8_) (o := .cells #[.int .i64 ((qj_ l0 z4_).f0), .bool ((qj_ l0 z4_).f1), .string ((qj_ l0 z4_).f2), .slice jZ_ ((qj_ l0 z4_).f3).length jQ_, .slice xk_ ((qj_ l0 z4_).f4).length xj_] 25 (0, 0)) (by (with_reducible repeat (first | refine q9_ ?_ _ | refine qz_ ?_ | refine q8_ ?_ _)); refine qv_ (cs := #[.int .i64 ((qj_ l0 z4_).f0), .bool ((qj_ l0 z4_).f1), .string ((qj_ l0 z4_).f2), .slice jZ_ ((qj_ l0 z4_).f3).length jQ_, .slice none 0 0]) ?_ 4 _ rfl; (with_reducible repeat (first | refine q9_ ?_ _ | refine qz_ ?_ | refine q8_ ?_ _)); refine qv_ (cs := #[.int .i64 ((qj_ l0 z4_).f0), .bool ((qj_ l0 z4_).f1), .string ((qj_ l0 z4_).f2), .slice none 0 0, .slice none 0 0]) ?_ 3 _ rfl; (with_reducible repeat (first | refine q9_ ?_ _ | refine qz_ ?_ | refine q8_ ?_ _)); refine qv_ (cs := #[.int .i64 ((qj_ l0 z4_).f0), .bool ((qj_ l0 z4_).f1), .string (⟨#[]⟩ : ByteArray), .slice none 0 0, .slice none 0 0]) ?_ 2 _ rfl; (with_reducible repeat (first | refine q9_ ?_ _ | refine qz_ ?_ | refine q8_ ?_ _)); refine qv_ (cs := #[.int .i64 ((qj_ l0 z4_).f0), .bool false, .string (⟨#[]⟩ : ByteArray), .slice none 0 0, .slice none 0 0]) ?_ 1 _ rfl; (with_reducible repeat (first | refine q9_ ?_ _ | refine qz_ ?_ | refine q8_ ?_ _)); refine qv_ (cs := #[.int .i64 0, .bool false, .string (⟨#[]⟩ : ByteArray), .slice none 0 0, .slice none 0 0]) ?_ 0 _ rfl; (with_reducible repeat (first | refine q9_ ?_ _ | refine qz_ ?_ | refine q8_ ?_ _)); exact zk_.out)) : zp_ ≠ z8_)); clear zk_; clear HB; have zk_ := n0_; have HB := n1_; have zV_ := n2_; have GW109 := n3_; have kp_ := n4_; have jf_ := n5_; have Kk_ := n6_; clear n0_ n1_ n2_ n3_ n4_ n5_ n6_; clear hb hbox hg; have hnb13 := Kk_.out; have hnc13 := jf_.out; have F8_ : w12.cell? ⟨zp_, 0, none⟩ = some (.int .i64 0) := (q1_ zV_.out 0).trans rfl; have F7_ : w12.cell? ⟨zp_, 1, none⟩ = some (.bool false) := (q1_ zV_.out 1).trans rfl; have F6_ : w12.cell? ⟨zp_, 2, none⟩ = some (.string (⟨#[]⟩ : ByteArray)) := (q1_ zV_.out 2).trans rfl; have F5_ : w12.cell? ⟨zp_, 3, none⟩ = some (.slice none 0 0) := (q1_ zV_.out 3).trans rfl; have F4_ : w12.cell? ⟨zp_, 4, none⟩ = some (.slice none 0 0) := (q1_ zV_.out 4).trans rfl; have h9_ := q3_ zV_.out 0; have h8_ := q3_ zV_.out 1; have h7_ := q3_ zV_.out 2; have h6_ := q3_ zV_.out 3; have h5_ := q3_ zV_.out 4; have v2_ : w12.cell? ⟨z8_, 0, none⟩ = some (.int .i64 ((qj_ l0 z4_).f0)) := (q1_ zk_.out 0).trans rfl; have v1_ : w12.cell? ⟨z8_, 1, none⟩ = some (.bool ((qj_ l0 z4_).f1)) := (q1_ zk_.out 1).trans rfl; have v0_ : w12.cell? ⟨z8_, 2, none⟩ = some (.string ((qj_ l0 z4_).f2)) := (q1_ zk_.out 2).trans rfl; have yS_ : w12.cell? ⟨z8_, 3, none⟩ = some (.slice jZ_ ((qj_ l0 z4_).f3).length jQ_) := (q1_ zk_.out 3).trans rfl; have ys_ : w12.cell? ⟨z8_, 4, none⟩ = some (.slice xk_ ((qj_ l0 z4_).f4).length xj_) := (q1_ zk_.out 4).trans rfl; have yF_ := q3_ zk_.out 0; have yf_ := q3_ zk_.out 1; have yH_ := q3_ zk_.out 2; have yh_ := q3_ zk_.out 3; have yG_ := q3_ zk_.out 4) | ((with_reducible refine qZ_ (N := 29) rfl ?_); refine goesD_ (some 29) rfl rfl 26 Tryd.func22 (by kernel_rfl) rfl #[.agg #[.int .i64 ((qj_ l0 z4_).f0), .bool ((qj_ l0 z4_).f1), .string ((qj_ l0 z4_).f2), .slice jZ_ ((qj_ l0 z4_).f3).length jQ_, .slice xk_ ((qj_ l0 z4_).f4).length xj_], .agg #[.int .i64 ((qj_ l1 z4_).f0), .bool ((qj_ l1 z4_).f1), .string ((qj_ l1 z4_).f2), .slice KX_ ((qj_ l1 z4_).f3).length K4_, .slice VW_ ((qj_ l1 z4_).f4).length VQ_]] rfl rfl (by (try simp only [List.map_toArray, List.map_cons, List.map_nil]); first | done | rfl | (simp only [List.length_drop, List.length_take]; rfl)) ?_; (with_reducible refine (hE _ (mem_T25 (of_eq_true pz_) (of_eq_true p9_)) _ _ _ _ ((qj_ l1 z4_).f0) ((qj_ l1 z4_).f1) ((qj_ l1 z4_).f2) _ _ ((qj_ l1 z4_).f3) _ _ ((qj_ l1 z4_).f4) true _ ?zQ_ ?zZ_ ?zY_ ?zK_ ?W2_ ?W1_ ?W0_ ?VS_ A8.out).mono ?_); (case zQ_ => exact Kd.qD_ Fg_.out (by repeat (first | (with_reducible first | exact HB.out | apply q6_ | apply q5_ | apply q7_ | refine qq_ ?_ xK_.out | refine qq_ ?_ kp_.out) | exact HB.out))); (case zZ_ => exact b2_.out); (case zY_ => exact Kd.qD_ FW_.out (by repeat (first | (with_reducible first | exact HB.out | apply q6_ | apply q5_ | apply q7_ | refine qq_ ?_ xK_.out | refine qq_ ?_ kp_.out) | exact HB.out))); (case zK_ => exact b1_.out); (case W2_ => exact Kd.qD_ FV_.out (by repeat (first | (with_reducible first | exact HB.out | apply q6_ | apply q5_ | apply q7_ | refine qq_ ?_ xK_.out | refine qq_ ?_ kp_.out) | exact HB.out))); (case W1_ => exact b0_.out); (case W0_ => exact Kd.qD_ FY_.out (by repeat (first | (with_reducible first | exact HB.out | apply q6_ | apply q5_ | apply q7_ | refine qq_ ?_ xK_.out | refine qq_ ?_ kp_.out) | exact HB.out))); (case VS_ => exact FS_.out); rintro e w16 ⟨rfl, hb⟩; refine ⟨_, rfl, ?_⟩; have n0_ := q0_.mk (q2_ (g := z8_) (o := .cells #[.int .i64 ((qj_ l0 z4_).f0), .bool ((qj_ l0 z4_).f1), .string ((qj_ l0 z4_).f2), .slice jZ_ ((qj_ l0 z4_).f3).length jQ_, .slice xk_ ((qj_ l0 z4_).f4).length xj_] 25 (0, 0)) (by (with_reducible repeat (first | refine q9_ ?_ _ | refine qz_ ?_ | refine q8_ ?_ _)); refine blk_far ?_ jf_.out _; (with_reducible repeat (first | refine q9_ ?_ _ | refine qz_ ?_ | refine q8_ ?_ _)); refine blk_far ?_ jf_.out _; (with_reducible repeat (first | refine q9_ ?_ _ | refine qz_ ?_ | refine q8_ ?_ _)); refine blk_far ?_ jf_.out _; (with_reducible repeat (first | refine q9_ ?_ _ | refine qz_ ?_ | refine q8_ ?_ _)); refine blk_far ?_ jf_.out _; (with_reducible repeat (first | refine q9_ ?_ _ | refine qz_ ?_ | refine q8_ ?_ _)); refine blk_far ?_ jf_.out _; (with_reducible repeat (first | refine q9_ ?_ _ | refine qz_ ?_ | refine q8_ ?_ _)); exact zk_.out) hb); have n1_ := q0_.mk (q2_ (g := zp_) (o := .cells #[.int .i64 ((qj_ l1 z4_).f0), .bool ((qj_ l1 z4_).f1), .string ((qj_ l1 z4_).f2), .slice KX_ ((qj_ l1 z4_).f3).length K4_, .slice VW_ ((qj_ l1 z4_).f4).length VQ_] 25 (0, 0)) (by (with_reducible repeat (first | refine q9_ ?_ _ | refine qz_ ?_ | refine q8_ ?_ _)); refine qv_ (cs := #[.int .i64 ((qj_ l1 z4_).f0), .bool ((qj_ l1 z4_).f1), .string ((qj_ l1 z4_).f2), .slice KX_ ((qj_ l1 z4_).f3).length K4_, .slice none 0 0]) ?_ 4 _ rfl; (with_reducible repeat (first | refine q9_ ?_ _ | refine qz_ ?_ | refine q8_ ?_ _)); refine qv_ (cs := #[.int .i64 ((qj_ l1 z4_).f0), .bool ((qj_ l1 z4_).f1), .string ((qj_ l1 z4_).f2), .slice none 0 0, .slice none 0 0]) ?_ 3 _ rfl; (with_reducible repeat (first | refine q9_ ?_ _ | refine qz_ ?_ | refine q8_ ?_ _)); refine qv_ (cs := #[.int .i64 ((qj_ l1 z4_).f0), .bool ((qj_ l1 z4_).f1), .string (⟨#[]⟩ : ByteArray), .slice none 0 0, .slice none 0 0]) ?_ 2 _ rfl; (with_reducible repeat (first | refine q9_ ?_ _ | refine qz_ ?_ | refine q8_ ?_ _)); refine qv_ (cs := #[.int .i64 ((qj_ l1 z4_).f0), .bool false, .string (⟨#[]⟩ : ByteArray), .slice none 0 0, .slice none 0 0]) ?_ 1 _ rfl; (with_reducible repeat (first | refine q9_ ?_ _ | refine qz_ ?_ | refine q8_ ?_ _)); refine qv_ (cs := #[.int .i64 0, .bool false, .string (⟨#[]⟩ : ByteArray), .slice none 0 0, .slice none 0 0]) ?_ 0 _ rfl; (with_reducible repeat (first | refine q9_ ?_ _ | refine qz_ ?_ | refine q8_ ?_ _)); exact zV_.out) hb); have n2_ := q0_.mk (q4_ (by repeat (first | (with_reducible first | exact HB.out | apply q6_ | apply q5_ | apply q7_ | refine qq_ ?_ xK_.out | refine qq_ ?_ kp_.out) | exact HB.out)) hb); clear zk_; clear zV_; clear HB; have zk_ := n0_; have zV_ := n1_; have HB := n2_; clear n0_ n1_ n2_; (try clear hb); (try clear hb2); (try clear hk); (try clear hi)))
         go_roundg k1
         case measure => have := HK1.out; omega
         case rel => exact ⟨(wrap64 (z4_ + 1)), (by first | rfl | (simp; done) | (simp [*]; done)), H', ⟨by have := HK1.out; omega⟩, ⟨by repeat (first | (with_reducible first | exact HB.out | apply q6_ | apply q5_ | apply q7_ | refine qq_ ?_ xK_.out | refine qq_ ?_ kp_.out) | exact HB.out)⟩⟩
        ·
         replace c9 := Bool.eq_false_iff.mpr c9
         subst c9
         have H1 : (some false) = some r := by rw [if_neg (show ¬ (false = true) by decide)] at H; exact H
         clear H
         have H := H1
         clear H1
         obtain rfl := Option.some.inj H
         have pz_ : 0 ≤ (z4_ : Int) := of_decide_eq_true (by first | (with_reducible assumption) | assumption)
         have p9_ : z4_ < (l0.length : Int) := of_decide_eq_true (by first | (with_reducible assumption) | assumption)
         obtain ⟨ad106, jZ_, jQ_, xk_, xj_, e106, QW_, QV_, QY_, QK_, QX_, JZ_, JD_, JQ_, Jd_⟩ := at_T25 HR0.out z4_ pz_ p9_
         cases e106
         replace QW_ := (HB.out.cell (World.block_lt_of_cell? w _ QW_)).trans QW_
         replace QV_ := (HB.out.cell (World.block_lt_of_cell? w _ QV_)).trans QV_
         replace QY_ := (HB.out.cell (World.block_lt_of_cell? w _ QY_)).trans QY_
         replace QK_ := (HB.out.cell (World.block_lt_of_cell? w _ QK_)).trans QK_
         replace QX_ := (HB.out.cell (World.block_lt_of_cell? w _ QX_)).trans QX_
         have Fg_ := q0_.mk JD_
         have b2_ := q0_.mk JZ_
         clear JD_ JZ_
         have FW_ := q0_.mk Jd_
         have b1_ := q0_.mk JQ_
         clear Jd_ JQ_
         replace pz_ := eq_true pz_
         replace p9_ := eq_true p9_
         go_wp2_with (first | ((with_reducible refine qZ_ (N := 8) rfl ?_); refine qJ_ ?hg (N := 8) ?hd (cs := #[.int .i64 0, .bool false, .string (⟨#[]⟩ : ByteArray), .slice none 0 0, .slice none 0 0]) (t := 25) ?hr ?_; (case hd => rfl); (case hg => rfl); (case hr => first | (go_simp; done) | (go_simp; rfl)); intro z8_ hg w17 hbox hb; have n0_ := q0_.mk (q4_ (by repeat (first | (with_reducible first | exact HB.out | apply q6_ | apply q5_ | apply q7_) | exact HB.out)) hb); have n1_ := q0_.mk (hbox); have n2_ := q0_.mk ((by rw [hg]; exact (qw_ (by repeat (first | (with_reducible first | exact HB.out | apply q6_ | apply q5_ | apply q7_) | exact HB.out))) : w.heap.size ≤ z8_)); have n3_ := q0_.mk ((by rw [hg]; exact (qw_ (by repeat (first | (with_reducible first | exact HB.out | apply q6_ | apply q5_ | apply q7_) | exact HB.out))) : w.heap.size ≤ z8_)); clear HB; have HB := n0_; have zk_ := n1_; have wW_ := n2_; have xK_ := n3_; clear n0_ n1_ n2_ n3_; clear hb hbox hg; have kf_ : w17.cell? ⟨z8_, 0, none⟩ = some (.int .i64 0) := (q1_ zk_.out 0).trans rfl; have kH_ : w17.cell? ⟨z8_, 1, none⟩ = some (.bool false) := (q1_ zk_.out 1).trans rfl; have kh_ : w17.cell? ⟨z8_, 2, none⟩ = some (.string (⟨#[]⟩ : ByteArray)) := (q1_ zk_.out 2).trans rfl; have kG_ : w17.cell? ⟨z8_, 3, none⟩ = some (.slice none 0 0) := (q1_ zk_.out 3).trans rfl; have kg_ : w17.cell? ⟨z8_, 4, none⟩ = some (.slice none 0 0) := (q1_ zk_.out 4).trans rfl; have kW_ := q3_ zk_.out 0; have kV_ := q3_ zk_.out 1; have kY_ := q3_ zk_.out 2; have kK_ := q3_ zk_.out 3; have kX_ := q3_ zk_.out 4; have Rj_ : 0 ≤ (z4_ : Int) := of_decide_eq_true (by first | (with_reducible assumption) | assumption); have R1_ : z4_ < (l1.length : Int) := of_decide_eq_true (by first | (with_reducible assumption) | assumption); obtain ⟨Kq_, KX_, K4_, VW_, VQ_, e108, zX_, j6_, j5_, j4_, j3_, Jw_, JB_, Jv_, Jb_⟩ := at_T25 HR1.out z4_ Rj_ R1_; cases e108; have zb_ : Kq_.block ≠ z8_ := Nat.ne_of_lt (Nat.lt_of_lt_of_le (by have := World.block_lt_of_cell? _ _ zX_; first | rwa [qQ_] at this | exact this) wW_.out); have zF_ : Kq_.block ≠ z8_ := Nat.ne_of_lt (Nat.lt_of_lt_of_le (by have := World.block_lt_of_cell? _ _ zX_; first | rwa [qQ_] at this | exact this) wW_.out); have zf_ : Kq_.block ≠ z8_ := Nat.ne_of_lt (Nat.lt_of_lt_of_le (by have := World.block_lt_of_cell? _ _ zX_; first | rwa [qQ_] at this | exact this) wW_.out); have zH_ : Kq_.block ≠ z8_ := Nat.ne_of_lt (Nat.lt_of_lt_of_le (by have := World.block_lt_of_cell? _ _ zX_; first | rwa [qQ_] at this | exact this) wW_.out); have zh_ : Kq_.block ≠ z8_ := Nat.ne_of_lt (Nat.lt_of_lt_of_le (by have := World.block_lt_of_cell? _ _ zX_; first | rwa [qQ_] at this | exact this) wW_.out); replace zX_ := (HB.out.cell (World.block_lt_of_cell? w _ zX_)).trans zX_; replace j6_ := (HB.out.cell (World.block_lt_of_cell? w _ j6_)).trans j6_; replace j5_ := (HB.out.cell (World.block_lt_of_cell? w _ j5_)).trans j5_; replace j4_ := (HB.out.cell (World.block_lt_of_cell? w _ j4_)).trans j4_; replace j3_ := (HB.out.cell (World.block_lt_of_cell? w _ j3_)).trans j3_; have FV_ := q0_.mk JB_; have b0_ := q0_.mk Jw_; clear JB_ Jw_; have FY_ := q0_.mk Jb_; have FS_ := q0_.mk Jv_; clear Jb_ Jv_; replace zX_ := (qG_ (p := ⟨z8_, 0, none⟩) (by first | (rw [qQ_]; exact zb_) | (show (Addr.add _ _).block ≠ _; rw [qQ_]; exact zb_) | exact zb_) (.int .i64 ((qj_ l0 z4_).f0))).trans zX_; replace j6_ := (qG_ (p := ⟨z8_, 0, none⟩) (by first | (rw [qQ_]; exact zb_) | (show (Addr.add _ _).block ≠ _; rw [qQ_]; exact zb_) | exact zb_) (.int .i64 ((qj_ l0 z4_).f0))).trans j6_; replace j5_ := (qG_ (p := ⟨z8_, 0, none⟩) (by first | (rw [qQ_]; exact zb_) | (show (Addr.add _ _).block ≠ _; rw [qQ_]; exact zb_) | exact zb_) (.int .i64 ((qj_ l0 z4_).f0))).trans j5_; replace j4_ := (qG_ (p := ⟨z8_, 0, none⟩) (by first | (rw [qQ_]; exact zb_) | (show (Addr.add _ _).block ≠ _; rw [qQ_]; exact zb_) | exact zb_) (.int .i64 ((qj_ l0 z4_).f0))).trans j4_; replace j3_ := (qG_ (p := ⟨z8_, 0, none⟩) (by first | (rw [qQ_]; exact zb_) | (show (Addr.add _ _).block ≠ _; rw [qQ_]; exact zb_) | exact zb_) (.int .i64 ((qj_ l0 z4_).f0))).trans j3_; replace zX_ := (qG_ (p := ⟨z8_, 1, none⟩) (by first | (rw [qQ_]; exact zF_) | (show (Addr.add _ _).block ≠ _; rw [qQ_]; exact zF_) | exact zF_) (.bool ((qj_ l0 z4_).f1))).trans zX_; replace j6_ := (qG_ (p := ⟨z8_, 1, none⟩) (by first | (rw [qQ_]; exact zF_) | (show (Addr.add _ _).block ≠ _; rw [qQ_]; exact zF_) | exact zF_) (.bool ((qj_ l0 z4_).f1))).trans j6_; replace j5_ := (qG_ (p := ⟨z8_, 1, none⟩) (by first | (rw [qQ_]; exact zF_) | (show (Addr.add _ _).block ≠ _; rw [qQ_]; exact zF_) | exact zF_) (.bool ((qj_ l0 z4_).f1))).trans j5_; replace j4_ := (qG_ (p := ⟨z8_, 1, none⟩) (by first | (rw [qQ_]; exact zF_) | (show (Addr.add _ _).block ≠ _; rw [qQ_]; exact zF_) | exact zF_) (.bool ((qj_ l0 z4_).f1))).trans j4_; replace j3_ := (qG_ (p := ⟨z8_, 1, none⟩) (by first | (rw [qQ_]; exact zF_) | (show (Addr.add _ _).block ≠ _; rw [qQ_]; exact zF_) | exact zF_) (.bool ((qj_ l0 z4_).f1))).trans j3_; replace zX_ := (qG_ (p := ⟨z8_, 2, none⟩) (by first | (rw [qQ_]; exact zf_) | (show (Addr.add _ _).block ≠ _; rw [qQ_]; exact zf_) | exact zf_) (.string ((qj_ l0 z4_).f2))).trans zX_; replace j6_ := (qG_ (p := ⟨z8_, 2, none⟩) (by first | (rw [qQ_]; exact zf_) | (show (Addr.add _ _).block ≠ _; rw [qQ_]; exact zf_) | exact zf_) (.string ((qj_ l0 z4_).f2))).trans j6_; replace j5_ := (qG_ (p := ⟨z8_, 2, none⟩) (by first | (rw [qQ_]; exact zf_) | (show (Addr.add _ _).block ≠ _; rw [qQ_]; exact zf_) | exact zf_) (.string ((qj_ l0 z4_).f2))).trans j5_; replace j4_ := (qG_ (p := ⟨z8_, 2, none⟩) (by first | (rw [qQ_]; exact zf_) | (show (Addr.add _ _).block ≠ _; rw [qQ_]; exact zf_) | exact zf_) (.string ((qj_ l0 z4_).f2))).trans j4_; replace j3_ := (qG_ (p := ⟨z8_, 2, none⟩) (by first | (rw [qQ_]; exact zf_) | (show (Addr.add _ _).block ≠ _; rw [qQ_]; exact zf_) | exact zf_) (.string ((qj_ l0 z4_).f2))).trans j3_; replace zX_ := (qG_ (p := ⟨z8_, 3, none⟩) (by first | (rw [qQ_]; exact zH_) | (show (Addr.add _ _).block ≠ _; rw [qQ_]; exact zH_) | exact zH_) (.slice jZ_ ((qj_ l0 z4_).f3).length jQ_)).trans zX_; replace j6_ := (qG_ (p := ⟨z8_, 3, none⟩) (by first | (rw [qQ_]; exact zH_) | (show (Addr.add _ _).block ≠ _; rw [qQ_]; exact zH_) | exact zH_) (.slice jZ_ ((qj_ l0 z4_).f3).length jQ_)).trans j6_; replace j5_ := (qG_ (p := ⟨z8_, 3, none⟩) (by first | (rw [qQ_]; exact zH_) | (show (Addr.add _ _).block ≠ _; rw [qQ_]; exact zH_) | exact zH_) (.slice jZ_ ((qj_ l0 z4_).f3).length jQ_)).trans j5_; replace j4_ := (qG_ (p := ⟨z8_, 3, none⟩) (by first | (rw [qQ_]; exact zH_) | (show (Addr.add _ _).block ≠ _; rw [qQ_]; exact zH_) | exact zH_) (.slice jZ_ ((qj_ l0 z4_).f3).length jQ_)).trans j4_; replace j3_ := (qG_ (p := ⟨z8_, 3, none⟩) (by first | (rw [qQ_]; exact zH_) | (show (Addr.add _ _).block ≠ _; rw [qQ_]; exact zH_) | exact zH_) (.slice jZ_ ((qj_ l0 z4_).f3).length jQ_)).trans j3_; replace zX_ := (qG_ (p := ⟨z8_, 4, none⟩) (by first | (rw [qQ_]; exact zh_) | (show (Addr.add _ _).block ≠ _; rw [qQ_]; exact zh_) | exact zh_) (.slice xk_ ((qj_ l0 z4_).f4).length xj_)).trans zX_; replace j6_ := (qG_ (p := ⟨z8_, 4, none⟩) (by first | (rw [qQ_]; exact zh_) | (show (Addr.add _ _).block ≠ _; rw [qQ_]; exact zh_) | exact zh_) (.slice xk_ ((qj_ l0 z4_).f4).length xj_)).trans j6_; replace j5_ := (qG_ (p := ⟨z8_, 4, none⟩) (by first | (rw [qQ_]; exact zh_) | (show (Addr.add _ _).block ≠ _; rw [qQ_]; exact zh_) | exact zh_) (.slice xk_ ((qj_ l0 z4_).f4).length xj_)).trans j5_; replace j4_ := (qG_ (p := ⟨z8_, 4, none⟩) (by first | (rw [qQ_]; exact zh_) | (show (Addr.add _ _).block ≠ _; rw [qQ_]; exact zh_) | exact zh_) (.slice xk_ ((qj_ l0 z4_).f4).length xj_)).trans j4_; replace j3_ := (qG_ (p := ⟨z8_, 4, none⟩) (by first | (rw [qQ_]; exact zh_) | (show (Addr.add _ _).block ≠ _; rw [qQ_]; exact zh_) | exact zh_) (.slice xk_ ((qj_ l0 z4_).f4).length xj_)).trans j3_; clear zb_; clear zF_; clear zf_; clear zH_; clear zh_; replace Rj_ := eq_true Rj_; replace R1_ := eq_true R1_) | ((with_reducible refine qZ_ (N := 9) rfl ?_); refine qJ_ ?hg (N := 9) ?hd (cs := #[.int .i64 0, .bool false, .string (⟨#[]⟩ : ByteArray), .slice none 0 0, .slice none 0 0]) (t := 25) ?hr ?_; (case hd => rfl); (case hg => rfl); (case hr => first | (go_simp; done) | (go_simp; rfl)); intro zp_ hg w19 hbox hb; have n0_ := q0_.mk (q2_ (g := z8_) (o := .cells #[.int .i64 ((qj_ l0 z4_).f0), .bool ((qj_ l0 z4_).f1), .string ((qj_ l0 z4_).f2), .slice jZ_ ((qj_ l0 z4_).f3).length jQ_, .slice xk_ ((qj_ l0 z4_).f4).length xj_] 25 (0, 0)) (by (with_reducible repeat (first | refine q9_ ?_ _ | refine qz_ ?_ | refine q8_ ?_ _)); refine qv_ (cs := #[.int .i64 ((qj_ l0 z4_).f0), .bool ((qj_ l0 z4_).f1), .string ((qj_ l0 z4_).f2), .slice jZ_ ((qj_ l0 z4_).f3).length jQ_, .slice none 0 0]) ?_ 4 _ rfl; (with_reducible repeat (first | refine q9_ ?_ _ | refine qz_ ?_ | refine q8_ ?_ _)); refine qv_ (cs := #[.int .i64 ((qj_ l0 z4_).f0), .bool ((qj_ l0 z4_).f1), .string ((qj_ l0 z4_).f2), .slice none 0 0, .slice none 0 0]) ?_ 3 _ rfl; (with_reducible repeat (first | refine q9_ ?_ _ | refine qz_ ?_ | refine q8_ ?_ _)); refine qv_ (cs := #[.int .i64 ((qj_ l0 z4_).f0), .bool ((qj_ l0 z4_).f1), .string (⟨#[]⟩ : ByteArray), .slice none 0 0, .slice none 0 0]) ?_ 2 _ rfl; (with_reducible repeat (first | refine q9_ ?_ _ | refine qz_ ?_ | refine q8_ ?_ _)); refine qv_ (cs := #[.int .i64 ((qj_ l0 z4_).f0), .bool false, .string (⟨#[]⟩ : ByteArray), .slice none 0 0, .slice none 0 0]) ?_ 1 _ rfl; (with_reducible repeat (first | refine q9_ ?_ _ | refine qz_ ?_ | refine q8_ ?_ _)); refine qv_ (cs := #[.int .i64 0, .bool false, .string (⟨#[]⟩ : ByteArray), .slice none 0 0, .slice none 0 0]) ?_ 0 _ rfl; (with_reducible repeat (first | refine q9_ ?_ _ | refine qz_ ?_ | refine q8_ ?_ _)); exact zk_.out) hb); have n1_ := q0_.mk (q4_ (by repeat (first | (with_reducible first | exact HB.out | apply q6_ | apply q5_ | apply q7_ | refine qq_ ?_ xK_.out) | exact HB.out)) hb); have n2_ := q0_.mk (hbox); have n3_ := q0_.mk ((by rw [hg]; exact (qw_ (by repeat (first | (with_reducible first | exact HB.out | apply q6_ | apply q5_ | apply q7_ | refine qq_ ?_ xK_.out) | exact HB.out))) : w.heap.size ≤ zp_)); have n4_ := q0_.mk ((by rw [hg]; exact (qw_ (by repeat (first | (with_reducible first | exact HB.out | apply q6_ | apply q5_ | apply q7_ | refine qq_ ?_ xK_.out) | exact HB.out))) : w.heap.size ≤ zp_)); have n5_ := q0_.mk ((by rw [hg]; exact Nat.ne_of_lt (qY_ (g := z8_) (o := .cells #[.int .i64 ((qj_ l0 z4_).f0), .bool ((qj_ l0 z4_).f1), .string ((qj_ l0 z4_).f2), .slice jZ_ ((qj_ l0 z4_).f3).length jQ_, .slice xk_ ((qj_ l0 z4_).f4).length xj_] 25 (0, 0)) (by (with_reducible repeat (first | refine q9_ ?_ _ | refine qz_ ?_ | refine q8_ ?_ _)); refine qv_ (cs := #[.int .i64 ((qj_ l0 z4_).f0), .bool ((qj_ l0 z4_).f1), .string ((qj_ l0 z4_).f2), .slice jZ_ ((qj_ l0 z4_).f3).length jQ_, .slice none 0 0]) ?_ 4 _ rfl; (with_reducible repeat (first | refine q9_ ?_ _ | refine qz_ ?_ | refine q8_ ?_ _)); refine qv_ (cs := #[.int .i64 ((qj_ l0 z4_).f0), .bool ((qj_ l0 z4_).f1), .string ((qj_ l0 z4_).f2), .slice none 0 0, .slice none 0 0]) ?_ 3 _ rfl; (with_reducible repeat (first | refine q9_ ?_ _ | refine qz_ ?_ | refine q8_ ?_ _)); refine qv_ (cs := #[.int .i64 ((qj_ l0 z4_).f0), .bool ((qj_ l0 z4_).f1), .string (⟨#[]⟩ : ByteArray), .slice none 0 0, .slice none 0 0]) ?_ 2 _ rfl; (with_reducible repeat (first | refine q9_ ?_ _ | refine qz_ ?_ | refine q8_ ?_ _)); refine qv_ (cs := #[.int .i64 ((qj_ l0 z4_).f0), .bool false, .string (⟨#[]⟩ : ByteArray), .slice none 0 0, .slice none 0 0]) ?_ 1 _ rfl; (with_reducible repeat (first | refine q9_ ?_ _ | refine qz_ ?_ | refine q8_ ?_ _)); refine qv_ (cs := #[.int .i64 0, .bool false, .string (⟨#[]⟩ : ByteArray), .slice none 0 0, .slice none 0 0]) ?_ 0 _ rfl; (with_reducible repeat (first | refine q9_ ?_ _ | refine qz_ ?_ | refine q8_ ?_ _)); exact zk_.out)) : z8_ ≠ zp_)); have n6_ := q0_.mk ((by rw [hg]; exact Nat.ne_of_gt (qY_ (g := z8_) (o := .cells #[.int .i64 ((qj_ l0 z4_).f0), .bool ((qj_ l0 z4_).f1), .string ((qj_ l0 z4_).f2), .slice jZ_ ((qj_ l0 z4_).f3).length jQ_, .slice xk_ ((qj_ l0 z4_).f4).length xj_] 25 (0, 0)) (by (with_reducible repeat (first | refine q9_ ?_ _ | refine qz_ ?_ | refine q8_ ?_ _)); refine qv_ (cs := #[.int .i64 ((qj_ l0 z4_).f0), .bool ((qj_ l0 z4_).f1), .string ((qj_ l0 z4_).f2), .slice jZ_ ((qj_ l0 z4_).f3).length jQ_, .slice none 0 0]) ?_ 4 _ rfl; (with_reducible repeat (first | refine q9_ ?_ _ | refine qz_ ?_ | refine q8_ ?_ _)); refine qv_ (cs := #[.int .i64 ((qj_ l0 z4_).f0), .bool ((qj_ l0 z4_).f1), .string ((qj_ l0 z4_).f2), .slice none 0 0, .slice none 0 0]) ?_ 3 _ rfl; (with_reducible repeat (first | refine q9_ ?_ _ | refine qz_ ?_ | refine q8_ ?_ _)); refine qv_ (cs := #[.int .i64 ((qj_ l0 z4_).f0), .bool ((qj_ l0 z4_).f1), .string (⟨#[]⟩ : ByteArray), .slice none 0 0, .slice none 0 0]) ?_ 2 _ rfl; (with_reducible repeat (first | refine q9_ ?_ _ | refine qz_ ?_ | refine q8_ ?_ _)); refine qv_ (cs := #[.int .i64 ((qj_ l0 z4_).f0), .bool false, .string (⟨#[]⟩ : ByteArray), .slice none 0 0, .slice none 0 0]) ?_ 1 _ rfl; (with_reducible repeat (first | refine q9_ ?_ _ | refine qz_ ?_ | refine q8_ ?_ _)); refine qv_ (cs := #[.int .i64 0, .bool false, .string (⟨#[]⟩ : ByteArray), .slice none 0 0, .slice none 0 0]) ?_ 0 _ rfl; (with_reducible repeat (first | refine q9_ ?_ _ | refine qz_ ?_ | refine q8_ ?_ _)); exact zk_.out)) : zp_ ≠ z8_)); clear zk_; clear HB; have zk_ := n0_; have HB := n1_; have zV_ := n2_; have GW109 := n3_; have kp_ := n4_; have jf_ := n5_; have Kk_ := n6_; clear n0_ n1_ n2_ n3_ n4_ n5_ n6_; clear hb hbox hg; have hnb20 := Kk_.out; have hnc20 := jf_.out; have F3_ : w19.cell? ⟨zp_, 0, none⟩ = some (.int .i64 0) := (q1_ zV_.out 0).trans rfl; have F2_ : w19.cell? ⟨zp_, 1, none⟩ = some (.bool false) := (q1_ zV_.out 1).trans rfl; have F1_ : w19.cell? ⟨zp_, 2, none⟩ = some (.string (⟨#[]⟩ : ByteArray)) := (q1_ zV_.out 2).trans rfl; have F0_ : w19.cell? ⟨zp_, 3, none⟩ = some (.slice none 0 0) := (q1_ zV_.out 3).trans rfl; have fS_ : w19.cell? ⟨zp_, 4, none⟩ = some (.slice none 0 0) := (q1_ zV_.out 4).trans rfl; have h4_ := q3_ zV_.out 0; have h0_ := q3_ zV_.out 1; have GS_ := q3_ zV_.out 2; have Gs_ := q3_ zV_.out 3; have GR_ := q3_ zV_.out 4; have Xs_ : w19.cell? ⟨z8_, 0, none⟩ = some (.int .i64 ((qj_ l0 z4_).f0)) := (q1_ zk_.out 0).trans rfl; have XR_ : w19.cell? ⟨z8_, 1, none⟩ = some (.bool ((qj_ l0 z4_).f1)) := (q1_ zk_.out 1).trans rfl; have Xr_ : w19.cell? ⟨z8_, 2, none⟩ = some (.string ((qj_ l0 z4_).f2)) := (q1_ zk_.out 2).trans rfl; have XP_ : w19.cell? ⟨z8_, 3, none⟩ = some (.slice jZ_ ((qj_ l0 z4_).f3).length jQ_) := (q1_ zk_.out 3).trans rfl; have Xp_ : w19.cell? ⟨z8_, 4, none⟩ = some (.slice xk_ ((qj_ l0 z4_).f4).length xj_) := (q1_ zk_.out 4).trans rfl; have Xy_ := q3_ zk_.out 0; have Xk_ := q3_ zk_.out 1; have Xx_ := q3_ zk_.out 2; have Xj_ := q3_ zk_.out 3; have Xz_ := q3_ zk_.out 4) | ((with_reducible refine qZ_ (N := 29) rfl ?_); refine goesD_ (some 29) rfl rfl 26 Tryd.func22 (by kernel_rfl) rfl #[.agg #[.int .i64 ((qj_ l0 z4_).f0), .bool ((qj_ l0 z4_).f1), .string ((qj_ l0 z4_).f2), .slice jZ_ ((qj_ l0 z4_).f3).length jQ_, .slice xk_ ((qj_ l0 z4_).f4).length xj_], .agg #[.int .i64 ((qj_ l1 z4_).f0), .bool ((qj_ l1 z4_).f1), .string ((qj_ l1 z4_).f2), .slice KX_ ((qj_ l1 z4_).f3).length K4_, .slice VW_ ((qj_ l1 z4_).f4).length VQ_]] rfl rfl (by (try simp only [List.map_toArray, List.map_cons, List.map_nil]); first | done | rfl | (simp only [List.length_drop, List.length_take]; rfl)) ?_; (with_reducible refine (hE _ (mem_T25 (of_eq_true pz_) (of_eq_true p9_)) _ _ _ _ ((qj_ l1 z4_).f0) ((qj_ l1 z4_).f1) ((qj_ l1 z4_).f2) _ _ ((qj_ l1 z4_).f3) _ _ ((qj_ l1 z4_).f4) false _ ?zQ_ ?zZ_ ?zY_ ?zK_ ?W2_ ?W1_ ?W0_ ?VS_ A8.out).mono ?_); (case zQ_ => exact Kd.qD_ Fg_.out (by repeat (first | (with_reducible first | exact HB.out | apply q6_ | apply q5_ | apply q7_ | refine qq_ ?_ xK_.out | refine qq_ ?_ kp_.out) | exact HB.out))); (case zZ_ => exact b2_.out); (case zY_ => exact Kd.qD_ FW_.out (by repeat (first | (with_reducible first | exact HB.out | apply q6_ | apply q5_ | apply q7_ | refine qq_ ?_ xK_.out | refine qq_ ?_ kp_.out) | exact HB.out))); (case zK_ => exact b1_.out); (case W2_ => exact Kd.qD_ FV_.out (by repeat (first | (with_reducible first | exact HB.out | apply q6_ | apply q5_ | apply q7_ | refine qq_ ?_ xK_.out | refine qq_ ?_ kp_.out) | exact HB.out))); (case W1_ => exact b0_.out); (case W0_ => exact Kd.qD_ FY_.out (by repeat (first | (with_reducible first | exact HB.out | apply q6_ | apply q5_ | apply q7_ | refine qq_ ?_ xK_.out | refine qq_ ?_ kp_.out) | exact HB.out))); (case VS_ => exact FS_.out); rintro e w23 ⟨rfl, hb⟩; refine ⟨_, rfl, ?_⟩; have n0_ := q0_.mk (q2_ (g := z8_) (o := .cells #[.int .i64 ((qj_ l0 z4_).f0), .bool ((qj_ l0 z4_).f1), .string ((qj_ l0 z4_).f2), .slice jZ_ ((qj_ l0 z4_).f3).length jQ_, .slice xk_ ((qj_ l0 z4_).f4).length xj_] 25 (0, 0)) (by (with_reducible repeat (first | refine q9_ ?_ _ | refine qz_ ?_ | refine q8_ ?_ _)); refine blk_far ?_ jf_.out _; (with_reducible repeat (first | refine q9_ ?_ _ | refine qz_ ?_ | refine q8_ ?_ _)); refine blk_far ?_ jf_.out _; (with_reducible repeat (first | refine q9_ ?_ _ | refine qz_ ?_ | refine q8_ ?_ _)); refine blk_far ?_ jf_.out _; (with_reducible repeat (first | refine q9_ ?_ _ | refine qz_ ?_ | refine q8_ ?_ _)); refine blk_far ?_ jf_.out _; (with_reducible repeat (first | refine q9_ ?_ _ | refine qz_ ?_ | refine q8_ ?_ _)); refine blk_far ?_ jf_.out _; (with_reducible repeat (first | refine q9_ ?_ _ | refine qz_ ?_ | refine q8_ ?_ _)); exact zk_.out) hb); have n1_ := q0_.mk (q2_ (g := zp_) (o := .cells #[.int .i64 ((qj_ l1 z4_).f0), .bool ((qj_ l1 z4_).f1), .string ((qj_ l1 z4_).f2), .slice KX_ ((qj_ l1 z4_).f3).length K4_, .slice VW_ ((qj_ l1 z4_).f4).length VQ_] 25 (0, 0)) (by (with_reducible repeat (first | refine q9_ ?_ _ | refine qz_ ?_ | refine q8_ ?_ _)); refine qv_ (cs := #[.int .i64 ((qj_ l1 z4_).f0), .bool ((qj_ l1 z4_).f1), .string ((qj_ l1 z4_).f2), .slice KX_ ((qj_ l1 z4_).f3).length K4_, .slice none 0 0]) ?_ 4 _ rfl; (with_reducible repeat (first | refine q9_ ?_ _ | refine qz_ ?_ | refine q8_ ?_ _)); refine qv_ (cs := #[.int .i64 ((qj_ l1 z4_).f0), .bool ((qj_ l1 z4_).f1), .string ((qj_ l1 z4_).f2), .slice none 0 0, .slice none 0 0]) ?_ 3 _ rfl; (with_reducible repeat (first | refine q9_ ?_ _ | refine qz_ ?_ | refine q8_ ?_ _)); refine qv_ (cs := #[.int .i64 ((qj_ l1 z4_).f0), .bool ((qj_ l1 z4_).f1), .string (⟨#[]⟩ : ByteArray), .slice none 0 0, .slice none 0 0]) ?_ 2 _ rfl; (with_reducible repeat (first | refine q9_ ?_ _ | refine qz_ ?_ | refine q8_ ?_ _)); refine qv_ (cs := #[.int .i64 ((qj_ l1 z4_).f0), .bool false, .string (⟨#[]⟩ : ByteArray), .slice none 0 0, .slice none 0 0]) ?_ 1 _ rfl; (with_reducible repeat (first | refine q9_ ?_ _ | refine qz_ ?_ | refine q8_ ?_ _)); refine qv_ (cs := #[.int .i64 0, .bool false, .string (⟨#[]⟩ : ByteArray), .slice none 0 0, .slice none 0 0]) ?_ 0 _ rfl; (with_reducible repeat (first | refine q9_ ?_ _ | refine qz_ ?_ | refine q8_ ?_ _)); exact zV_.out) hb); have n2_ := q0_.mk (q4_ (by repeat (first | (with_reducible first | exact HB.out | apply q6_ | apply q5_ | apply q7_ | refine qq_ ?_ xK_.out | refine qq_ ?_ kp_.out) | exact HB.out)) hb); clear zk_; clear zV_; clear HB; have zk_ := n0_; have zV_ := n1_; have HB := n2_; clear n0_ n1_ n2_; (try clear hb); (try clear hb2); (try clear hk); (try clear hi)))
         go_ret
         exact ⟨by first | rfl | (simp [qk_, qy_] <;> rfl) | (simp [qk_, qy_] <;> decide +kernel) | (simp [*, qk_, qy_] <;> rfl), by repeat (first | (with_reducible first | exact HB.out | apply q6_ | apply q5_ | apply q7_ | refine qq_ ?_ xK_.out | refine qq_ ?_ kp_.out) | exact HB.out)⟩
       ·
        rw [if_neg c7] at H
        exact absurd H (by simp)
      ·
       rw [if_neg c6] at H
       exact absurd H (by simp)
     ·
      rw [if_neg c5] at H
      exact absurd H (by simp)
    ·
     rw [if_neg c4] at H
     have Z2_ : decide (z4_ < (l0.length : Int)) = false := decide_eq_false c4
     clear c4
     obtain rfl := Option.some.inj H
     go_wp2
     go_ret
     exact ⟨by first | rfl | (simp [qk_, qy_] <;> rfl) | (simp [qk_, qy_] <;> decide +kernel) | (simp [*, qk_, qy_] <;> rfl), by repeat (first | (with_reducible first | exact HB.out | apply q6_ | apply q5_ | apply q7_) | exact HB.out)⟩
 ·
  rw [if_neg c3] at H
  have Z5_ : ((l0.length : Int) == (l1.length : Int)) = false := beq_eq_false_iff_ne.mpr c3
  have Kg_ : ((l0.length : Int) != (l1.length : Int)) = true := bne_iff_ne.mpr c3
  have bF_ : (l0.length == l1.length) = false := by first | simpa using c3 | (simp at c3 ⊢; omega)
  obtain rfl := Option.some.inj H
  go_enter Tryd.func43, Tryd.ntmps43
  go_wp2
  go_ret
  exact ⟨by first | rfl | (simp [qk_, qy_] <;> rfl) | (simp [qk_, qy_] <;> decide +kernel) | (simp [*, qk_, qy_] <;> rfl), by repeat (first | (with_reducible first | exact HB.out | apply q6_ | apply q5_ | apply q7_) | exact HB.out)⟩
end Go.Proofs.YtfpmompdgmklmaaDoor.P
