import Derived.Test.YtfpmompdgmklmaaDoorP0
namespace Go.Proofs.YtfpmompdgmklmaaDoor.P
attribute [-simp] List.length_drop List.length_take ByteArray.size_append
open Go.RowKit Go.Proofs.YtfpmompdgmklmaaDoorW.PrintWords Go.Proofs.YtfpmompdgmklmaaDoorW.PrintLast Go.Proofs.YtfpmompdgmklmaaDoorW.PrintMore
attribute [local go_sem] max2_int min2_int max_two min_two max_three min_three max_four min_four   -- for this text's walks alone
set_option linter.unusedVariables false
set_option linter.unusedSimpArgs false
/-! ### colophonref10_Depth: function 19 -/
mutual
def colophonref10_Depth.l0 : Nat → Int → Int → Int → Bool → ByteArray → List (S25) → List ByteArray → Option (Int)
 | 0, _, _, _, _, _, _, _ => none
 | k + 1, x3, x4, rv_, ry_, rk_, wP_, rx_ => if x4 < (wP_.length : Int) then (if 0 ≤ x4 then ((colophonref10_Depth.f k ((qj_ wP_ x4).f0) ((qj_ wP_ x4).f1) ((qj_ wP_ x4).f2) ((qj_ wP_ x4).f3) ((qj_ wP_ x4).f4)).bind fun rf_ => (colophonref10_Depth.l0 k (mx x3 rf_) (wrap64 (x4 + 1)) rv_ ry_ rk_ wP_ rx_)) else (none)) else (some (wrap64 (x3 + 1)))
def colophonref10_Depth.f : Nat → Int → Bool → ByteArray → List (S25) → List ByteArray → Option (Int)
 | 0, _, _, _, _, _ => none
 | k + 1, z1_, z5_, z3_, z0_, z2_ => colophonref10_Depth.l0 k 0 0 z1_ z5_ z3_ z0_ z2_
end
theorem colophonref10_Depth.mono_l : ∀ k, (∀ y0 y1 y2 y3 y4, LeO (colophonref10_Depth.f k y0 y1 y2 y3 y4) (colophonref10_Depth.f (k + 1) y0 y1 y2 y3 y4)) ∧ (∀ y0 y1 y2 y3 y4 y5 y6, LeO (colophonref10_Depth.l0 k y0 y1 y2 y3 y4 y5 y6) (colophonref10_Depth.l0 (k + 1) y0 y1 y2 y3 y4 y5 y6))
 | 0 => ⟨fun _ _ _ _ _ r h => by simp [colophonref10_Depth.f] at h, fun _ _ _ _ _ _ _ r h => by simp [colophonref10_Depth.l0] at h⟩
 | k + 1 => by
  obtain ⟨ih0, ih1⟩ := colophonref10_Depth.mono_l k
  refine ⟨?_, ?_⟩
  ·
   intro y0 y1 y2 y3 y4
   unfold colophonref10_Depth.f
   repeat' first
   | (with_reducible exact ih0 _ _ _ _ _)
   | (with_reducible exact ih1 _ _ _ _ _ _ _)
   | (with_reducible exact LeO.refl _)
   | (with_reducible exact LeO.none _)
   | (with_reducible refine LeO.ite ?_ ?_)
   | (with_reducible refine LeO.bind ?_ (fun _ => ?_))
   | exact ih0 _ _ _ _ _
   | exact ih1 _ _ _ _ _ _ _
   | exact LeO.none _
   | refine LeO.ite ?_ ?_
   | refine LeO.bind ?_ (fun _ => ?_)
  ·
   intro y0 y1 y2 y3 y4 y5 y6
   unfold colophonref10_Depth.l0
   repeat' first
   | (with_reducible exact ih0 _ _ _ _ _)
   | (with_reducible exact ih1 _ _ _ _ _ _ _)
   | (with_reducible exact LeO.refl _)
   | (with_reducible exact LeO.none _)
   | (with_reducible refine LeO.ite ?_ ?_)
   | (with_reducible refine LeO.bind ?_ (fun _ => ?_))
   | exact ih0 _ _ _ _ _
   | exact ih1 _ _ _ _ _ _ _
   | exact LeO.none _
   | refine LeO.ite ?_ ?_
   | refine LeO.bind ?_ (fun _ => ?_)
theorem colophonref10_Depth.mono : ∀ a0 a1 a2 a3 a4 k, LeO (colophonref10_Depth.f k a0 a1 a2 a3 a4) (colophonref10_Depth.f (k + 1) a0 a1 a2 a3 a4) := by
 intro a0 a1 a2 a3 a4 k
 obtain ⟨ih0, ih1⟩ := colophonref10_Depth.mono_l k
 exact ih0 a0 a1 a2 a3 a4
set_option maxHeartbeats 8000000 in
set_option maxRecDepth 100000 in
theorem colophonref10_Depth.calls (k : Nat) : ∀ (z1_ : Int) (z5_ : Bool) (z3_ : ByteArray) (zj_ : Option Addr) (z9_ : Nat) (z0_ : List (S25)) (zz_ : Option Addr) (zq_ : Nat) (z2_ : List ByteArray) (r : Int) (w : World) (jk_ : Kd.C k25 w zj_ z0_.length z0_) (jv_ : z0_.length ≤ z9_) (jx_ : Kd.C Kd.string w zz_ z2_.length z2_) (jy_ : z2_.length ≤ zq_) (h : colophonref10_Depth.f k z1_ z5_ z3_ z0_ z2_ = some r),
  Calls Tryd.prog 19 #[.agg #[.int .i64 z1_, .bool z5_, .string z3_, .slice zj_ z0_.length z9_, .slice zz_ z2_.length zq_]] w fun e w' => e = .returned (.int .i64 r) ∧ Below w.heap.size w w' := by
 induction k using Nat.strongRecOn with
 | _ k ih =>
 intro z1_ z5_ z3_ zj_ z9_ z0_ zz_ zq_ z2_ r w jk_ jv_ jx_ jy_ h
 cases k with
 | zero => exact absurd h (by simp [colophonref10_Depth.f])
 | succ k =>
 simp only [colophonref10_Depth.f] at h
 have kP_ := Tryd.underlying25
 have x3_ := q0_.mk jk_
 have k4_ := q0_.mk jv_
 clear jk_ jv_
 have xX_ := q0_.mk jx_
 have xr_ := q0_.mk jy_
 clear jx_ jy_
 have HB := q0_.mk (Below.refl w.heap.size w)
 have H : (colophonref10_Depth.l0 k 0 0 z1_ z5_ z3_ z0_ z2_) = some r := h
 clear h
 have H' := q0_.mk H
 clear H
 go_enter Tryd.func19, Tryd.ntmps19
 go_wp2_with (first | ((with_reducible refine qZ_ (N := 1) rfl ?_); refine qJ_ ?hg (N := 1) ?hd (cs := #[.int .i64 z1_, .bool z5_, .string z3_, .slice zj_ z0_.length z9_, .slice zz_ z2_.length zq_]) (t := 25) ?hr ?_; (case hd => rfl); (case hg => rfl); (case hr => first | (go_simp; done) | (go_simp; rfl)); intro Z4_ hg w2 hbox hb; have n0_ := q0_.mk (q4_ (by repeat (first | (with_reducible first | exact HB.out | apply q6_ | apply q5_ | apply q7_) | exact HB.out)) hb); have n1_ := q0_.mk (hbox); have n2_ := q0_.mk ((by rw [hg]; exact (qw_ (by repeat (first | (with_reducible first | exact HB.out | apply q6_ | apply q5_ | apply q7_) | exact HB.out))) : w.heap.size ≤ Z4_)); have n3_ := q0_.mk ((by rw [hg]; exact (qw_ (by repeat (first | (with_reducible first | exact HB.out | apply q6_ | apply q5_ | apply q7_) | exact HB.out))) : w.heap.size ≤ Z4_)); clear HB; have HB := n0_; have k5_ := n1_; have GW235 := n2_; have PJ_ := n3_; clear n0_ n1_ n2_ n3_; clear hb hbox hg))
 go_loopg [3, 4] k (fun kq v3 v4 w' => ∃ (xd_ : Int) (xY_ : Int), v3 = .int .i64 xd_ ∧ v4 = .int .i64 xY_ ∧ q0_ (colophonref10_Depth.l0 kq xd_ xY_ z1_ z5_ z3_ z0_ z2_ = some r) ∧ q0_ (kq ≤ k) ∧ q0_ (w'.heap[Z4_]? = some (.cells #[.int .i64 z1_, .bool z5_, .string z3_, (.slice zj_ z0_.length z9_), (.slice zz_ z2_.length zq_)] 25 (0, 0))) ∧ q0_ (Below w.heap.size w w'))
 case atStart => exact ⟨(0), (0), (by first | rfl | (simp; done) | (simp [*]; done)), (by first | rfl | (simp; done) | (simp [*]; done)), H', ⟨Nat.le_refl _⟩, ⟨by (with_reducible repeat (first | refine q9_ ?_ _ | refine qz_ ?_ | refine q8_ ?_ _)); exact k5_.out⟩, ⟨by repeat (first | (with_reducible first | exact HB.out | apply q6_ | apply q5_ | apply q7_ | refine qq_ ?_ PJ_.out) | exact HB.out)⟩⟩
 case round =>
  clear H'
  try clear c1
  try clear p2
  obtain ⟨xd_, xY_, rfl, rfl, HA, HK1, k5_, HB⟩ := hrel
  cases gk with
  | zero => exact absurd HA.out (by simp [colophonref10_Depth.l0])
  | succ k1 =>
   have H := HA.out
   clear HA
   simp only [colophonref10_Depth.l0] at H
   by_cases c3 : xY_ < (z0_.length : Int)
   ·
    rw [if_pos c3] at H
    have Z5_ : decide (xY_ < (z0_.length : Int)) = true := decide_eq_true c3
    clear c3
    by_cases c4 : 0 ≤ xY_
    ·
     rw [if_pos c4] at H
     have Z2_ : decide (0 ≤ xY_) = true := decide_eq_true c4
     clear c4
     replace H := Option.bind_eq_some_iff.mp H
     obtain ⟨rf_, A50, H⟩ := H
     replace H : (colophonref10_Depth.l0 k1 (mx xd_ rf_) (wrap64 (xY_ + 1)) z1_ z5_ z3_ z0_ z2_) = some r := H
     have A5 := q0_.mk A50
     clear A50
     obtain ⟨ji6, hji6⟩ : ∃ j_ : Int, (mx xd_ rf_) = j_ := ⟨_, rfl⟩
     replace H : (colophonref10_Depth.l0 k1 ji6 (wrap64 (xY_ + 1)) z1_ z5_ z3_ z0_ z2_) = some r := by first | (rw [hji6] at H; exact H) | (simp only [hji6] at H ⊢; exact H)
     (try rw [hji6] at A5)
     have hji6_ : (if xd_ < rf_ then rf_ else xd_) = ji6 := hji6
     have H' := q0_.mk H
     clear H
     have Xf_ : wr.cell? ⟨Z4_, 0, none⟩ = some (.int .i64 z1_) := (q1_ k5_.out 0).trans rfl
     have XH_ : wr.cell? ⟨Z4_, 1, none⟩ = some (.bool z5_) := (q1_ k5_.out 1).trans rfl
     have Xh_ : wr.cell? ⟨Z4_, 2, none⟩ = some (.string z3_) := (q1_ k5_.out 2).trans rfl
     have XG_ : wr.cell? ⟨Z4_, 3, none⟩ = some (.slice zj_ z0_.length z9_) := (q1_ k5_.out 3).trans rfl
     have Xg_ : wr.cell? ⟨Z4_, 4, none⟩ = some (.slice zz_ z2_.length zq_) := (q1_ k5_.out 4).trans rfl
     have X5_ := q3_ k5_.out 0
     have X4_ := q3_ k5_.out 1
     have X3_ := q3_ k5_.out 2
     have X2_ := q3_ k5_.out 3
     have X1_ := q3_ k5_.out 4
     have p236 : 0 ≤ (xY_ : Int) := of_decide_eq_true (by first | (with_reducible assumption) | assumption)
     have q236 : xY_ < (z0_.length : Int) := of_decide_eq_true (by first | (with_reducible assumption) | assumption)
     obtain ⟨ad236, A236_3, c236_3, A236_4, c236_4, e236, Wj_, Wz_, Wq_, W9_, W8_, B7_, Bw_, B6_, Bv_⟩ := at_T25 x3_.out xY_ p236 q236
     cases e236
     replace Wj_ := (HB.out.cell (World.block_lt_of_cell? w _ Wj_)).trans Wj_
     replace Wz_ := (HB.out.cell (World.block_lt_of_cell? w _ Wz_)).trans Wz_
     replace Wq_ := (HB.out.cell (World.block_lt_of_cell? w _ Wq_)).trans Wq_
     replace W9_ := (HB.out.cell (World.block_lt_of_cell? w _ W9_)).trans W9_
     replace W8_ := (HB.out.cell (World.block_lt_of_cell? w _ W8_)).trans W8_
     have HR236_3 := q0_.mk Bw_
     have HC236_3 := q0_.mk B7_
     clear Bw_ B7_
     have HR236_4 := q0_.mk Bv_
     have HC236_4 := q0_.mk B6_
     clear Bv_ B6_
     replace p236 := eq_true p236
     replace q236 := eq_true q236
     go_wp2_with (first | ((with_reducible refine qh_ (f := 19) rfl ?_); refine goesL_ (some 18) rfl rfl Tryd.func19 (by kernel_rfl) rfl #[.agg #[.int .i64 ((qj_ z0_ xY_).f0), .bool ((qj_ z0_ xY_).f1), .string ((qj_ z0_ xY_).f2), .slice A236_3 ((qj_ z0_ xY_).f3).length c236_3, .slice A236_4 ((qj_ z0_ xY_).f4).length c236_4]] rfl (by (try simp only [List.map_toArray, List.map_cons, List.map_nil]); first | done | rfl | (simp only [List.length_drop, List.length_take]; rfl)) ?_; (with_reducible refine (ih k1 (by have := HK1.out; omega) ((qj_ z0_ xY_).f0) ((qj_ z0_ xY_).f1) ((qj_ z0_ xY_).f2) _ _ ((qj_ z0_ xY_).f3) _ _ ((qj_ z0_ xY_).f4) rf_ _ ?zQ_ ?zZ_ ?zY_ ?zK_ A5.out).mono ?_); (case zQ_ => repeat (first | exact (Kd.qD_ HR236_3.out HB.out) | (with_reducible refine Kd.qP_ ?_ _) | (with_reducible refine Kd.qr_ ?_ _) | (with_reducible refine Kd.qR_ ?_))); (case zZ_ => exact HC236_3.out); (case zY_ => repeat (first | exact (Kd.qD_ HR236_4.out HB.out) | (with_reducible refine Kd.qP_ ?_ _) | (with_reducible refine Kd.qr_ ?_ _) | (with_reducible refine Kd.qR_ ?_))); (case zK_ => exact HC236_4.out); rintro e w8 ⟨rfl, hb⟩; refine ⟨_, rfl, ?_⟩; have n0_ := q0_.mk (q2_ (g := Z4_) (o := .cells #[.int .i64 z1_, .bool z5_, .string z3_, .slice (some ad236) z0_.length z9_, .slice zz_ z2_.length zq_] 25 (0, 0)) (by (with_reducible repeat (first | refine q9_ ?_ _ | refine qz_ ?_ | refine q8_ ?_ _)); exact k5_.out) hb); have n1_ := q0_.mk (q4_ (by repeat (first | (with_reducible first | exact HB.out | apply q6_ | apply q5_ | apply q7_ | refine qq_ ?_ PJ_.out) | exact HB.out)) hb); clear k5_; clear HB; have k5_ := n0_; have HB := n1_; clear n0_ n1_; (try clear hb); (try clear hb2); (try clear hk); (try clear hi)))
     go_roundg k1
     case measure => have := HK1.out; omega
     case rel => exact ⟨(ji6), (wrap64 (xY_ + 1)), (by first | rfl | (simp; done) | (simp only [← hji6] <;> (first | rfl | simp)) | (simp [*]; done)), (by first | rfl | (simp; done) | (simp [*]; done)), H', ⟨by have := HK1.out; omega⟩, ⟨by (with_reducible repeat (first | refine q9_ ?_ _ | refine qz_ ?_ | refine q8_ ?_ _)); exact k5_.out⟩, ⟨by repeat (first | (with_reducible first | exact HB.out | apply q6_ | apply q5_ | apply q7_ | refine qq_ ?_ PJ_.out) | exact HB.out)⟩⟩
    ·
     rw [if_neg c4] at H
     exact absurd H (by simp)
   ·
    rw [if_neg c3] at H
    have Z5_ : decide (xY_ < (z0_.length : Int)) = false := decide_eq_false c3
    clear c3
    obtain rfl := Option.some.inj H
    have XW_ : wr.cell? ⟨Z4_, 0, none⟩ = some (.int .i64 z1_) := (q1_ k5_.out 0).trans rfl
    have XV_ : wr.cell? ⟨Z4_, 1, none⟩ = some (.bool z5_) := (q1_ k5_.out 1).trans rfl
    have XY_ : wr.cell? ⟨Z4_, 2, none⟩ = some (.string z3_) := (q1_ k5_.out 2).trans rfl
    have XK_ : wr.cell? ⟨Z4_, 3, none⟩ = some (.slice zj_ z0_.length z9_) := (q1_ k5_.out 3).trans rfl
    have XX_ : wr.cell? ⟨Z4_, 4, none⟩ = some (.slice zz_ z2_.length zq_) := (q1_ k5_.out 4).trans rfl
    have X0_ := q3_ k5_.out 0
    have JS_ := q3_ k5_.out 1
    have Js_ := q3_ k5_.out 2
    have JR_ := q3_ k5_.out 3
    have Jr_ := q3_ k5_.out 4
    go_wp2
    go_ret
    exact ⟨by first | rfl | (simp [qk_, qy_] <;> rfl) | (simp [qk_, qy_] <;> decide +kernel) | (simp [*, qk_, qy_] <;> rfl), by repeat (first | (with_reducible first | exact HB.out | apply q6_ | apply q5_ | apply q7_ | refine qq_ ?_ PJ_.out) | exact HB.out)⟩
end Go.Proofs.YtfpmompdgmklmaaDoor.P
