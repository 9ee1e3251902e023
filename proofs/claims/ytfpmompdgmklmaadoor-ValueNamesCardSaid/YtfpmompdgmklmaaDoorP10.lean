import Derived.Test.YtfpmompdgmklmaaDoorP0
import Derived.Test.YtfpmompdgmklmaaDoorP9
namespace Go.Proofs.YtfpmompdgmklmaaDoor.P
attribute [-simp] List.length_drop List.length_take ByteArray.size_append
open Go.RowKit Go.Proofs.YtfpmompdgmklmaaDoorW.PrintWords Go.Proofs.YtfpmompdgmklmaaDoorW.PrintLast Go.Proofs.YtfpmompdgmklmaaDoorW.PrintMore
attribute [local go_sem] max2_int min2_int max_two min_two max_three min_three max_four min_four   -- for this text's walks alone
set_option linter.unusedVariables false
set_option linter.unusedSimpArgs false
/-! ### colophonref10_Equal: function 20 -/
mutual
def colophonref10_Equal.j0 : Nat → Bool → Int → Bool → ByteArray → List (S25) → List ByteArray → Int → Bool → ByteArray → List (S25) → List ByteArray → Option (Bool)
 | 0, _, _, _, _, _, _, _, _, _, _, _ => none
 | k + 1, x41, VD_, Vd_, VB_, yz_, Vb_, VF_, Vf_, VH_, yq_, Vh_ => if x41 = true then (some false) else (colophonref10_Equal.l0 k 0 VD_ Vd_ VB_ yz_ Vb_ VF_ Vf_ VH_ yq_ Vh_)
def colophonref10_Equal.l0 : Nat → Int → Int → Bool → ByteArray → List (S25) → List ByteArray → Int → Bool → ByteArray → List (S25) → List ByteArray → Option (Bool)
 | 0, _, _, _, _, _, _, _, _, _, _, _ => none
 | k + 1, x5, VD_, Vd_, VB_, yz_, Vb_, VF_, Vf_, VH_, yq_, Vh_ => if x5 < (yz_.length : Int) then (if 0 ≤ x5 then (if x5 < (yq_.length : Int) then ((colophonref10_Equal.f k ((qj_ yz_ x5).f0) ((qj_ yz_ x5).f1) ((qj_ yz_ x5).f2) ((qj_ yz_ x5).f3) ((qj_ yz_ x5).f4) ((qj_ yq_ x5).f0) ((qj_ yq_ x5).f1) ((qj_ yq_ x5).f2) ((qj_ yq_ x5).f3) ((qj_ yq_ x5).f4)).bind fun t251 => (if t251 = true then (colophonref10_Equal.l0 k (wrap64 (x5 + 1)) VD_ Vd_ VB_ yz_ Vb_ VF_ Vf_ VH_ yq_ Vh_) else (some false))) else (none)) else (none)) else (some true)
def colophonref10_Equal.f : Nat → Int → Bool → ByteArray → List (S25) → List ByteArray → Int → Bool → ByteArray → List (S25) → List ByteArray → Option (Bool)
 | 0, _, _, _, _, _, _, _, _, _, _ => none
 | k + 1, z1_, z5_, z3_, z0_, z2_, xv_, x2_, xy_, jj_, x7_ => if z1_ = xv_ then (if (z5_ != x2_) = true then (colophonref10_Equal.j0 k true z1_ z5_ z3_ z0_ z2_ xv_ x2_ xy_ jj_ x7_) else (if z3_.toList = xy_.toList then ((colophonref10_EqTexts.f k z2_ x7_).bind fun t248 => (if t248 = true then (colophonref10_Equal.j0 k ((z0_.length : Int) != (jj_.length : Int)) z1_ z5_ z3_ z0_ z2_ xv_ x2_ xy_ jj_ x7_) else (colophonref10_Equal.j0 k true z1_ z5_ z3_ z0_ z2_ xv_ x2_ xy_ jj_ x7_))) else (colophonref10_Equal.j0 k true z1_ z5_ z3_ z0_ z2_ xv_ x2_ xy_ jj_ x7_))) else (colophonref10_Equal.j0 k true z1_ z5_ z3_ z0_ z2_ xv_ x2_ xy_ jj_ x7_)
end
theorem colophonref10_Equal.mono_l : ∀ k, (∀ y0 y1 y2 y3 y4 y5 y6 y7 y8 y9, LeO (colophonref10_Equal.f k y0 y1 y2 y3 y4 y5 y6 y7 y8 y9) (colophonref10_Equal.f (k + 1) y0 y1 y2 y3 y4 y5 y6 y7 y8 y9)) ∧ (∀ y0 y1 y2 y3 y4 y5 y6 y7 y8 y9 y10, LeO (colophonref10_Equal.j0 k y0 y1 y2 y3 y4 y5 y6 y7 y8 y9 y10) (colophonref10_Equal.j0 (k + 1) y0 y1 y2 y3 y4 y5 y6 y7 y8 y9 y10)) ∧ (∀ y0 y1 y2 y3 y4 y5 y6 y7 y8 y9 y10, LeO (colophonref10_Equal.l0 k y0 y1 y2 y3 y4 y5 y6 y7 y8 y9 y10) (colophonref10_Equal.l0 (k + 1) y0 y1 y2 y3 y4 y5 y6 y7 y8 y9 y10))
 | 0 => ⟨fun _ _ _ _ _ _ _ _ _ _ r h => by simp [colophonref10_Equal.f] at h, fun _ _ _ _ _ _ _ _ _ _ _ r h => by simp [colophonref10_Equal.j0] at h, fun _ _ _ _ _ _ _ _ _ _ _ r h => by simp [colophonref10_Equal.l0] at h⟩
 | k + 1 => by
  obtain ⟨ih0, ih1, ih2⟩ := colophonref10_Equal.mono_l k
  refine ⟨?_, ?_, ?_⟩
  ·
   intro y0 y1 y2 y3 y4 y5 y6 y7 y8 y9
   unfold colophonref10_Equal.f
   repeat' first
   | (with_reducible exact ih0 _ _ _ _ _ _ _ _ _ _)
   | (with_reducible exact ih1 _ _ _ _ _ _ _ _ _ _ _)
   | (with_reducible exact ih2 _ _ _ _ _ _ _ _ _ _ _)
   | (with_reducible exact colophonref10_EqTexts.mono _ _ _)
   | (with_reducible exact LeO.refl _)
   | (with_reducible exact LeO.none _)
   | (with_reducible refine LeO.ite ?_ ?_)
   | (with_reducible refine LeO.bind ?_ (fun _ => ?_))
   | exact ih0 _ _ _ _ _ _ _ _ _ _
   | exact ih1 _ _ _ _ _ _ _ _ _ _ _
   | exact ih2 _ _ _ _ _ _ _ _ _ _ _
   | exact colophonref10_EqTexts.mono _ _ _
   | exact LeO.none _
   | refine LeO.ite ?_ ?_
   | refine LeO.bind ?_ (fun _ => ?_)
  ·
   intro y0 y1 y2 y3 y4 y5 y6 y7 y8 y9 y10
   unfold colophonref10_Equal.j0
   repeat' first
   | (with_reducible exact ih0 _ _ _ _ _ _ _ _ _ _)
   | (with_reducible exact ih1 _ _ _ _ _ _ _ _ _ _ _)
   | (with_reducible exact ih2 _ _ _ _ _ _ _ _ _ _ _)
   | (with_reducible exact colophonref10_EqTexts.mono _ _ _)
   | (with_reducible exact LeO.refl _)
   | (with_reducible exact LeO.none _)
   | (with_reducible refine LeO.ite ?_ ?_)
   | (with_reducible refine LeO.bind ?_ (fun _ => ?_))
   | exact ih0 _ _ _ _ _ _ _ _ _ _
   | exact ih1 _ _ _ _ _ _ _ _ _ _ _
   | exact ih2 _ _ _ _ _ _ _ _ _ _ _
   | exact colophonref10_EqTexts.mono _ _ _
   | exact LeO.none _
   | refine LeO.ite ?_ ?_
   | refine LeO.bind ?_ (fun _ => ?_)
  ·
   intro y0 y1 y2 y3 y4 y5 y6 y7 y8 y9 y10
   unfold colophonref10_Equal.l0
   repeat' first
   | (with_reducible exact ih0 _ _ _ _ _ _ _ _ _ _)
   | (with_reducible exact ih1 _ _ _ _ _ _ _ _ _ _ _)
   | (with_reducible exact ih2 _ _ _ _ _ _ _ _ _ _ _)
   | (with_reducible exact colophonref10_EqTexts.mono _ _ _)
   | (with_reducible exact LeO.refl _)
   | (with_reducible exact LeO.none _)
   | (with_reducible refine LeO.ite ?_ ?_)
   | (with_reducible refine LeO.bind ?_ (fun _ => ?_))
   | exact ih0 _ _ _ _ _ _ _ _ _ _
   | exact ih1 _ _ _ _ _ _ _ _ _ _ _
   | exact ih2 _ _ _ _ _ _ _ _ _ _ _
   | exact colophonref10_EqTexts.mono _ _ _
   | exact LeO.none _
   | refine LeO.ite ?_ ?_
   | refine LeO.bind ?_ (fun _ => ?_)
theorem colophonref10_Equal.mono : ∀ a0 a1 a2 a3 a4 a5 a6 a7 a8 a9 k, LeO (colophonref10_Equal.f k a0 a1 a2 a3 a4 a5 a6 a7 a8 a9) (colophonref10_Equal.f (k + 1) a0 a1 a2 a3 a4 a5 a6 a7 a8 a9) := by
 intro a0 a1 a2 a3 a4 a5 a6 a7 a8 a9 k
 obtain ⟨ih0, ih1, ih2⟩ := colophonref10_Equal.mono_l k
 exact ih0 a0 a1 a2 a3 a4 a5 a6 a7 a8 a9
def colophonref10_Equal.T6 : Bool × List (List Nat × List Nat) := (true, [([], []), ([0], [0]), ([], []), ([1, 2], [1, 2]), ([3], [3]), ([], []), ([5], [5]), ([], []), ([6, 7], [6, 7]), ([8], [8]), ([4, 9], [4, 9]), ([10], [10])])
def colophonref10_Equal.B6 : List Nat := [0, 1, 0, 7, 15, 0, 32, 0, 224, 480, 1023, 2047]
theorem colophonref10_Equal.tab6 : rtab .any (opsOf Tryd.f20 6) = colophonref10_Equal.T6 := by kernel_rfl
theorem colophonref10_Equal.bits6 : waitsOk colophonref10_Equal.T6.2 colophonref10_Equal.B6 = true := by kernel_rfl
set_option maxHeartbeats 8000000 in
set_option maxRecDepth 100000 in
theorem colophonref10_Equal.calls (k : Nat) : ∀ (z1_ : Int) (z5_ : Bool) (z3_ : ByteArray) (zj_ : Option Addr) (z9_ : Nat) (z0_ : List (S25)) (zz_ : Option Addr) (zq_ : Nat) (z2_ : List ByteArray) (xv_ : Int) (x2_ : Bool) (xy_ : ByteArray) (Z3_ : Option Addr) (wK_ : Nat) (jj_ : List (S25)) (wY_ : Option Addr) (wX_ : Nat) (x7_ : List ByteArray) (r : Bool) (w : World) (jk_ : Kd.C k25 w zj_ z0_.length z0_) (jv_ : z0_.length ≤ z9_) (jx_ : Kd.C Kd.string w zz_ z2_.length z2_) (jy_ : z2_.length ≤ zq_) (Kh_ : Kd.C k25 w Z3_ jj_.length jj_) (Yr_ : jj_.length ≤ wK_) (KG_ : Kd.C Kd.string w wY_ x7_.length x7_) (YP_ : x7_.length ≤ wX_) (h : colophonref10_Equal.f k z1_ z5_ z3_ z0_ z2_ xv_ x2_ xy_ jj_ x7_ = some r),
  Calls Tryd.prog 20 #[.agg #[.int .i64 z1_, .bool z5_, .string z3_, .slice zj_ z0_.length z9_, .slice zz_ z2_.length zq_], .agg #[.int .i64 xv_, .bool x2_, .string xy_, .slice Z3_ jj_.length wK_, .slice wY_ x7_.length wX_]] w fun e w' => e = .returned (.bool r) ∧ Below w.heap.size w w' := by
 induction k using Nat.strongRecOn with
 | _ k ih =>
 intro z1_ z5_ z3_ zj_ z9_ z0_ zz_ zq_ z2_ xv_ x2_ xy_ Z3_ wK_ jj_ wY_ wX_ x7_ r w jk_ jv_ jx_ jy_ Kh_ Yr_ KG_ YP_ h
 cases k with
 | zero => exact absurd h (by simp [colophonref10_Equal.f])
 | succ k =>
 simp only [colophonref10_Equal.f] at h
 have kP_ := Tryd.underlying25
 have x3_ := q0_.mk jk_
 have k4_ := q0_.mk jv_
 clear jk_ jv_
 have xX_ := q0_.mk jx_
 have xr_ := q0_.mk jy_
 clear jx_ jy_
 have Pw_ := q0_.mk Kh_
 have HC1_3 := q0_.mk Yr_
 clear Kh_ Yr_
 have Dj_ := q0_.mk KG_
 have Dx_ := q0_.mk YP_
 clear KG_ YP_
 have HB := q0_.mk (Below.refl w.heap.size w)
 have H : (if z1_ = xv_ then (if (z5_ != x2_) = true then (colophonref10_Equal.j0 k true z1_ z5_ z3_ z0_ z2_ xv_ x2_ xy_ jj_ x7_) else (if z3_.toList = xy_.toList then ((colophonref10_EqTexts.f k z2_ x7_).bind fun t248 => (if t248 = true then (colophonref10_Equal.j0 k ((z0_.length : Int) != (jj_.length : Int)) z1_ z5_ z3_ z0_ z2_ xv_ x2_ xy_ jj_ x7_) else (colophonref10_Equal.j0 k true z1_ z5_ z3_ z0_ z2_ xv_ x2_ xy_ jj_ x7_))) else (colophonref10_Equal.j0 k true z1_ z5_ z3_ z0_ z2_ xv_ x2_ xy_ jj_ x7_))) else (colophonref10_Equal.j0 k true z1_ z5_ z3_ z0_ z2_ xv_ x2_ xy_ jj_ x7_)) = some r := h
 clear h
 have HC3 := q0_.mk H
 clear H
 go_enter Tryd.func20, Tryd.ntmps20
 go_upto_region 1 with (first | ((with_reducible refine qZ_ (N := 2) rfl ?_); (try (refine gate_guard (by rfl) ?_; dsimp only)); refine qJ_ ?hg (N := 2) ?hd (cs := #[.int .i64 z1_, .bool z5_, .string z3_, .slice zj_ z0_.length z9_, .slice zz_ z2_.length zq_]) (t := 25) ?hr ?_; (case hd => rfl); (case hg => rfl); (case hr => first | (go_simp; done) | (go_simp; rfl)); intro zs_ hg w4 hbox hb; have n0_ := q0_.mk (q4_ (by repeat (first | (with_reducible first | exact HB.out | apply q6_ | apply q5_ | apply q7_) | exact HB.out)) hb); have n1_ := q0_.mk (hbox); have n2_ := q0_.mk ((by rw [hg]; exact (qw_ (by repeat (first | (with_reducible first | exact HB.out | apply q6_ | apply q5_ | apply q7_) | exact HB.out))) : w.heap.size ≤ zs_)); have n3_ := q0_.mk ((by rw [hg]; exact (qw_ (by repeat (first | (with_reducible first | exact HB.out | apply q6_ | apply q5_ | apply q7_) | exact HB.out))) : w.heap.size ≤ zs_)); clear HB; have HB := n0_; have zx_ := n1_; have GW246 := n2_; have Z0_ := n3_; clear n0_ n1_ n2_ n3_; clear hb hbox hg) | ((with_reducible refine qZ_ (N := 3) rfl ?_); (try (refine gate_guard (by rfl) ?_; dsimp only)); refine qJ_ ?hg (N := 3) ?hd (cs := #[.int .i64 xv_, .bool x2_, .string xy_, .slice Z3_ jj_.length wK_, .slice wY_ x7_.length wX_]) (t := 25) ?hr ?_; (case hd => rfl); (case hg => rfl); (case hr => first | (go_simp; done) | (go_simp; rfl)); intro jX_ hg w5 hbox hb; have n0_ := q0_.mk (q2_ (g := zs_) (o := .cells #[.int .i64 z1_, .bool z5_, .string z3_, .slice zj_ z0_.length z9_, .slice zz_ z2_.length zq_] 25 (0, 0)) (by (with_reducible repeat (first | refine q9_ ?_ _ | refine qz_ ?_ | refine q8_ ?_ _)); exact zx_.out) hb); have n1_ := q0_.mk (q4_ (by repeat (first | (with_reducible first | exact HB.out | apply q6_ | apply q5_ | apply q7_ | refine qq_ ?_ Z0_.out) | exact HB.out)) hb); have n2_ := q0_.mk (hbox); have n3_ := q0_.mk ((by rw [hg]; exact (qw_ (by repeat (first | (with_reducible first | exact HB.out | apply q6_ | apply q5_ | apply q7_ | refine qq_ ?_ Z0_.out) | exact HB.out))) : w.heap.size ≤ jX_)); have n4_ := q0_.mk ((by rw [hg]; exact (qw_ (by repeat (first | (with_reducible first | exact HB.out | apply q6_ | apply q5_ | apply q7_ | refine qq_ ?_ Z0_.out) | exact HB.out))) : w.heap.size ≤ jX_)); have n5_ := q0_.mk ((by rw [hg]; exact Nat.ne_of_lt (qY_ (g := zs_) (o := .cells #[.int .i64 z1_, .bool z5_, .string z3_, .slice zj_ z0_.length z9_, .slice zz_ z2_.length zq_] 25 (0, 0)) (by (with_reducible repeat (first | refine q9_ ?_ _ | refine qz_ ?_ | refine q8_ ?_ _)); exact zx_.out)) : zs_ ≠ jX_)); have n6_ := q0_.mk ((by rw [hg]; exact Nat.ne_of_gt (qY_ (g := zs_) (o := .cells #[.int .i64 z1_, .bool z5_, .string z3_, .slice zj_ z0_.length z9_, .slice zz_ z2_.length zq_] 25 (0, 0)) (by (with_reducible repeat (first | refine q9_ ?_ _ | refine qz_ ?_ | refine q8_ ?_ _)); exact zx_.out)) : jX_ ≠ zs_)); clear zx_; clear HB; have zx_ := n0_; have HB := n1_; have zv_ := n2_; have GW247 := n3_; have Zb_ := n4_; have k0_ := n5_; have xS_ := n6_; clear n0_ n1_ n2_ n3_ n4_ n5_ n6_; clear hb hbox hg))
 (try simp only [Act.put, List.setIfInBounds_toArray, List.set_cons_zero, List.set_cons_succ])
 go_cut [41] (fun v41 wc => ∃ (kq : Nat) (DS_ : Bool), v41 = .bool DS_ ∧ q0_ (colophonref10_Equal.j0 kq DS_ z1_ z5_ z3_ z0_ z2_ xv_ x2_ xy_ jj_ x7_ = some r) ∧ q0_ (kq ≤ k) ∧ q0_ (wc.heap[zs_]? = some (.cells #[.int .i64 z1_, .bool z5_, .string z3_, (.slice zj_ z0_.length z9_), (.slice zz_ z2_.length zq_)] 25 (0, 0))) ∧ q0_ (wc.heap[jX_]? = some (.cells #[.int .i64 xv_, .bool x2_, .string xy_, (.slice Z3_ jj_.length wK_), (.slice wY_ x7_.length wX_)] 25 (0, 0))) ∧ q0_ (Below w.heap.size w wc))
 case first =>
  have H := HC3.out
  clear HC3
  by_cases c6 : z1_ = xv_
  ·
   rw [if_pos c6] at H
   have Fy_ : (z1_ == xv_) = true := beq_iff_eq.mpr c6
   have c6b1 : (z1_ != xv_) = false := bne_eq_false_iff_eq.mpr c6
   clear c6
   (first | rw [Fy_] | (simp only [i64_w, i32_w]; rw [Fy_]) | skip)
   by_cases c7 : (z5_ != x2_) = true
   ·
    rw [if_pos c7] at H
    have py_ : (z5_ != x2_) = true := c7
    (try (have c7b1 : decide (z5_ = x2_) = false := by simpa using c7))
    (try (have c7b2 : (z5_ == x2_) = false := by simpa using c7))
    (try (have c7b3 : ¬ (z5_ = x2_) := by simpa using c7))
    clear c7
    have H' := q0_.mk H
    clear H
    have hnb8 := k0_.out
    have hnc8 := xS_.out
    have XW_ : w5.cell? ⟨zs_, 0, none⟩ = some (.int .i64 z1_) := (q1_ zx_.out 0).trans rfl
    have XV_ : w5.cell? ⟨zs_, 1, none⟩ = some (.bool z5_) := (q1_ zx_.out 1).trans rfl
    have XY_ : w5.cell? ⟨zs_, 2, none⟩ = some (.string z3_) := (q1_ zx_.out 2).trans rfl
    have XK_ : w5.cell? ⟨zs_, 3, none⟩ = some (.slice zj_ z0_.length z9_) := (q1_ zx_.out 3).trans rfl
    have XX_ : w5.cell? ⟨zs_, 4, none⟩ = some (.slice zz_ z2_.length zq_) := (q1_ zx_.out 4).trans rfl
    have X0_ := q3_ zx_.out 0
    have JS_ := q3_ zx_.out 1
    have Js_ := q3_ zx_.out 2
    have JR_ := q3_ zx_.out 3
    have Jr_ := q3_ zx_.out 4
    have wy_ : w5.cell? ⟨jX_, 0, none⟩ = some (.int .i64 xv_) := (q1_ zv_.out 0).trans rfl
    have wk_ : w5.cell? ⟨jX_, 1, none⟩ = some (.bool x2_) := (q1_ zv_.out 1).trans rfl
    have wx_ : w5.cell? ⟨jX_, 2, none⟩ = some (.string xy_) := (q1_ zv_.out 2).trans rfl
    have wj_ : w5.cell? ⟨jX_, 3, none⟩ = some (.slice Z3_ jj_.length wK_) := (q1_ zv_.out 3).trans rfl
    have wz_ : w5.cell? ⟨jX_, 4, none⟩ = some (.slice wY_ x7_.length wX_) := (q1_ zv_.out 4).trans rfl
    have vP_ := q3_ zv_.out 0
    have vp_ := q3_ zv_.out 1
    have vD_ := q3_ zv_.out 2
    have vd_ := q3_ zv_.out 3
    have vB_ := q3_ zv_.out 4
    go_wp2
    go_meet
    case rel => exact ⟨_, (true), (by first | rfl | (simp; done) | (simp [*]; done)), H', ⟨by first | omega | exact Nat.le_refl _⟩, ⟨by (with_reducible repeat (first | refine q9_ ?_ _ | refine qz_ ?_ | refine q8_ ?_ _)); exact zx_.out⟩, ⟨by (with_reducible repeat (first | refine q9_ ?_ _ | refine qz_ ?_ | refine q8_ ?_ _)); exact zv_.out⟩, ⟨by repeat (first | (with_reducible first | exact HB.out | apply q6_ | apply q5_ | apply q7_ | refine qq_ ?_ Z0_.out | refine qq_ ?_ Zb_.out) | exact HB.out)⟩⟩
   ·
    rw [if_neg c7] at H
    have py_ : (z5_ != x2_) = false := by simpa using c7
    (try (have c7b1 : decide (z5_ = x2_) = true := by simpa using c7))
    (try (have c7b2 : (z5_ == x2_) = true := by simpa using c7))
    clear c7
    by_cases c11 : z3_.toList = xy_.toList
    ·
     rw [if_pos c11] at H
     have Vw_ : (z3_.toList == xy_.toList) = true := beq_iff_eq.mpr c11
     have ds_ : (z3_.toList != xy_.toList) = false := bne_eq_false_iff_eq.mpr c11
     clear c11
     replace H := Option.bind_eq_some_iff.mp H
     obtain ⟨t248, A120, H⟩ := H
     replace H : (if t248 = true then (colophonref10_Equal.j0 k ((z0_.length : Int) != (jj_.length : Int)) z1_ z5_ z3_ z0_ z2_ xv_ x2_ xy_ jj_ x7_) else (colophonref10_Equal.j0 k true z1_ z5_ z3_ z0_ z2_ xv_ x2_ xy_ jj_ x7_)) = some r := H
     have A12 := q0_.mk A120
     clear A120
     by_cases c13 : t248 = true
     ·
      subst c13
      have H1 : (colophonref10_Equal.j0 k ((z0_.length : Int) != (jj_.length : Int)) z1_ z5_ z3_ z0_ z2_ xv_ x2_ xy_ jj_ x7_) = some r := by rw [if_pos rfl] at H; exact H
      clear H
      have H := H1
      clear H1
      have H' := q0_.mk H
      clear H
      have hnb14 := k0_.out
      have hnc14 := xS_.out
      have v2_ : w5.cell? ⟨zs_, 0, none⟩ = some (.int .i64 z1_) := (q1_ zx_.out 0).trans rfl
      have v1_ : w5.cell? ⟨zs_, 1, none⟩ = some (.bool z5_) := (q1_ zx_.out 1).trans rfl
      have v0_ : w5.cell? ⟨zs_, 2, none⟩ = some (.string z3_) := (q1_ zx_.out 2).trans rfl
      have yS_ : w5.cell? ⟨zs_, 3, none⟩ = some (.slice zj_ z0_.length z9_) := (q1_ zx_.out 3).trans rfl
      have ys_ : w5.cell? ⟨zs_, 4, none⟩ = some (.slice zz_ z2_.length zq_) := (q1_ zx_.out 4).trans rfl
      have yF_ := q3_ zx_.out 0
      have yf_ := q3_ zx_.out 1
      have yH_ := q3_ zx_.out 2
      have yh_ := q3_ zx_.out 3
      have yG_ := q3_ zx_.out 4
      have Qs_ : w5.cell? ⟨jX_, 0, none⟩ = some (.int .i64 xv_) := (q1_ zv_.out 0).trans rfl
      have QR_ : w5.cell? ⟨jX_, 1, none⟩ = some (.bool x2_) := (q1_ zv_.out 1).trans rfl
      have Qr_ : w5.cell? ⟨jX_, 2, none⟩ = some (.string xy_) := (q1_ zv_.out 2).trans rfl
      have QP_ : w5.cell? ⟨jX_, 3, none⟩ = some (.slice Z3_ jj_.length wK_) := (q1_ zv_.out 3).trans rfl
      have Qp_ : w5.cell? ⟨jX_, 4, none⟩ = some (.slice wY_ x7_.length wX_) := (q1_ zv_.out 4).trans rfl
      have QD_ := q3_ zv_.out 0
      have Qd_ := q3_ zv_.out 1
      have QB_ := q3_ zv_.out 2
      have Qb_ := q3_ zv_.out 3
      have QF_ := q3_ zv_.out 4
      go_wp2_with (first | (go_at_call 39; (with_reducible refine (colophonref10_EqTexts.calls k _ _ z2_ _ _ x7_ true _ ?zQ_ ?zZ_ ?zY_ ?zK_ A12.out).mono ?_); (case zQ_ => repeat (first | exact (Kd.qD_ xX_.out HB.out) | (with_reducible refine Kd.qP_ ?_ _) | (with_reducible refine Kd.qr_ ?_ _) | (with_reducible refine Kd.qR_ ?_))); (case zZ_ => exact xr_.out); (case zY_ => repeat (first | exact (Kd.qD_ Dj_.out HB.out) | (with_reducible refine Kd.qP_ ?_ _) | (with_reducible refine Kd.qr_ ?_ _) | (with_reducible refine Kd.qR_ ?_))); (case zK_ => exact Dx_.out); rintro e w' ⟨rfl, ⟨nd, rfl⟩⟩))
      go_meet
      case rel => exact ⟨_, (((z0_.length : Int) != (jj_.length : Int))), (by first | rfl | (simp; done) | (simp [*]; done)), H', ⟨by first | omega | exact Nat.le_refl _⟩, ⟨by (with_reducible repeat (first | refine q9_ ?_ _ | refine qz_ ?_ | refine q8_ ?_ _)); exact zx_.out⟩, ⟨by (with_reducible repeat (first | refine q9_ ?_ _ | refine qz_ ?_ | refine q8_ ?_ _)); exact zv_.out⟩, ⟨by repeat (first | (with_reducible first | exact HB.out | apply q6_ | apply q5_ | apply q7_ | refine qq_ ?_ Z0_.out | refine qq_ ?_ Zb_.out) | exact HB.out)⟩⟩
     ·
      replace c13 := Bool.eq_false_iff.mpr c13
      subst c13
      have H1 : (colophonref10_Equal.j0 k true z1_ z5_ z3_ z0_ z2_ xv_ x2_ xy_ jj_ x7_) = some r := by rw [if_neg (show ¬ (false = true) by decide)] at H; exact H
      clear H
      have H := H1
      clear H1
      have H' := q0_.mk H
      clear H
      have hnb17 := k0_.out
      have hnc17 := xS_.out
      have kf_ : w5.cell? ⟨zs_, 0, none⟩ = some (.int .i64 z1_) := (q1_ zx_.out 0).trans rfl
      have kH_ : w5.cell? ⟨zs_, 1, none⟩ = some (.bool z5_) := (q1_ zx_.out 1).trans rfl
      have kh_ : w5.cell? ⟨zs_, 2, none⟩ = some (.string z3_) := (q1_ zx_.out 2).trans rfl
      have kG_ : w5.cell? ⟨zs_, 3, none⟩ = some (.slice zj_ z0_.length z9_) := (q1_ zx_.out 3).trans rfl
      have kg_ : w5.cell? ⟨zs_, 4, none⟩ = some (.slice zz_ z2_.length zq_) := (q1_ zx_.out 4).trans rfl
      have kW_ := q3_ zx_.out 0
      have kV_ := q3_ zx_.out 1
      have kY_ := q3_ zx_.out 2
      have kK_ := q3_ zx_.out 3
      have kX_ := q3_ zx_.out 4
      have Yp_ : w5.cell? ⟨jX_, 0, none⟩ = some (.int .i64 xv_) := (q1_ zv_.out 0).trans rfl
      have YD_ : w5.cell? ⟨jX_, 1, none⟩ = some (.bool x2_) := (q1_ zv_.out 1).trans rfl
      have Yd_ : w5.cell? ⟨jX_, 2, none⟩ = some (.string xy_) := (q1_ zv_.out 2).trans rfl
      have YB_ : w5.cell? ⟨jX_, 3, none⟩ = some (.slice Z3_ jj_.length wK_) := (q1_ zv_.out 3).trans rfl
      have Yb_ : w5.cell? ⟨jX_, 4, none⟩ = some (.slice wY_ x7_.length wX_) := (q1_ zv_.out 4).trans rfl
      have Yz_ := q3_ zv_.out 0
      have Yq_ := q3_ zv_.out 1
      have Y9_ := q3_ zv_.out 2
      have Y8_ := q3_ zv_.out 3
      have Y7_ := q3_ zv_.out 4
      go_wp2_with (first | (go_at_call 39; (with_reducible refine (colophonref10_EqTexts.calls k _ _ z2_ _ _ x7_ false _ ?zQ_ ?zZ_ ?zY_ ?zK_ A12.out).mono ?_); (case zQ_ => repeat (first | exact (Kd.qD_ xX_.out HB.out) | (with_reducible refine Kd.qP_ ?_ _) | (with_reducible refine Kd.qr_ ?_ _) | (with_reducible refine Kd.qR_ ?_))); (case zZ_ => exact xr_.out); (case zY_ => repeat (first | exact (Kd.qD_ Dj_.out HB.out) | (with_reducible refine Kd.qP_ ?_ _) | (with_reducible refine Kd.qr_ ?_ _) | (with_reducible refine Kd.qR_ ?_))); (case zK_ => exact Dx_.out); rintro e w' ⟨rfl, ⟨nd, rfl⟩⟩))
      go_meet
      case rel => exact ⟨_, (true), (by first | rfl | (simp; done) | (simp [*]; done)), H', ⟨by first | omega | exact Nat.le_refl _⟩, ⟨by (with_reducible repeat (first | refine q9_ ?_ _ | refine qz_ ?_ | refine q8_ ?_ _)); exact zx_.out⟩, ⟨by (with_reducible repeat (first | refine q9_ ?_ _ | refine qz_ ?_ | refine q8_ ?_ _)); exact zv_.out⟩, ⟨by repeat (first | (with_reducible first | exact HB.out | apply q6_ | apply q5_ | apply q7_ | refine qq_ ?_ Z0_.out | refine qq_ ?_ Zb_.out) | exact HB.out)⟩⟩
    ·
     rw [if_neg c11] at H
     have Vw_ : (z3_.toList == xy_.toList) = false := beq_eq_false_iff_ne.mpr c11
     have ds_ : (z3_.toList != xy_.toList) = true := bne_iff_ne.mpr c11
     have H' := q0_.mk H
     clear H
     have hnb20 := k0_.out
     have hnc20 := xS_.out
     have F3_ : w5.cell? ⟨zs_, 0, none⟩ = some (.int .i64 z1_) := (q1_ zx_.out 0).trans rfl
     have F2_ : w5.cell? ⟨zs_, 1, none⟩ = some (.bool z5_) := (q1_ zx_.out 1).trans rfl
     have F1_ : w5.cell? ⟨zs_, 2, none⟩ = some (.string z3_) := (q1_ zx_.out 2).trans rfl
     have F0_ : w5.cell? ⟨zs_, 3, none⟩ = some (.slice zj_ z0_.length z9_) := (q1_ zx_.out 3).trans rfl
     have fS_ : w5.cell? ⟨zs_, 4, none⟩ = some (.slice zz_ z2_.length zq_) := (q1_ zx_.out 4).trans rfl
     have h4_ := q3_ zx_.out 0
     have h0_ := q3_ zx_.out 1
     have GS_ := q3_ zx_.out 2
     have Gs_ := q3_ zx_.out 3
     have GR_ := q3_ zx_.out 4
     have Xs_ : w5.cell? ⟨jX_, 0, none⟩ = some (.int .i64 xv_) := (q1_ zv_.out 0).trans rfl
     have XR_ : w5.cell? ⟨jX_, 1, none⟩ = some (.bool x2_) := (q1_ zv_.out 1).trans rfl
     have Xr_ : w5.cell? ⟨jX_, 2, none⟩ = some (.string xy_) := (q1_ zv_.out 2).trans rfl
     have XP_ : w5.cell? ⟨jX_, 3, none⟩ = some (.slice Z3_ jj_.length wK_) := (q1_ zv_.out 3).trans rfl
     have Xp_ : w5.cell? ⟨jX_, 4, none⟩ = some (.slice wY_ x7_.length wX_) := (q1_ zv_.out 4).trans rfl
     have Xy_ := q3_ zv_.out 0
     have Xk_ := q3_ zv_.out 1
     have Xx_ := q3_ zv_.out 2
     have Xj_ := q3_ zv_.out 3
     have Xz_ := q3_ zv_.out 4
     go_wp2
     go_meet
     case rel => exact ⟨_, (true), (by first | rfl | (simp; done) | (simp [*]; done)), H', ⟨by first | omega | exact Nat.le_refl _⟩, ⟨by (with_reducible repeat (first | refine q9_ ?_ _ | refine qz_ ?_ | refine q8_ ?_ _)); exact zx_.out⟩, ⟨by (with_reducible repeat (first | refine q9_ ?_ _ | refine qz_ ?_ | refine q8_ ?_ _)); exact zv_.out⟩, ⟨by repeat (first | (with_reducible first | exact HB.out | apply q6_ | apply q5_ | apply q7_ | refine qq_ ?_ Z0_.out | refine qq_ ?_ Zb_.out) | exact HB.out)⟩⟩
  ·
   rw [if_neg c6] at H
   have Fy_ : (z1_ == xv_) = false := beq_eq_false_iff_ne.mpr c6
   have c6b1 : (z1_ != xv_) = true := bne_iff_ne.mpr c6
   (first | rw [Fy_] | (simp only [i64_w, i32_w]; rw [Fy_]) | skip)
   have H' := q0_.mk H
   clear H
   have hnb23 := k0_.out
   have hnc23 := xS_.out
   have wq_ : w5.cell? ⟨zs_, 0, none⟩ = some (.int .i64 z1_) := (q1_ zx_.out 0).trans rfl
   have w9_ : w5.cell? ⟨zs_, 1, none⟩ = some (.bool z5_) := (q1_ zx_.out 1).trans rfl
   have w8_ : w5.cell? ⟨zs_, 2, none⟩ = some (.string z3_) := (q1_ zx_.out 2).trans rfl
   have w7_ : w5.cell? ⟨zs_, 3, none⟩ = some (.slice zj_ z0_.length z9_) := (q1_ zx_.out 3).trans rfl
   have w6_ : w5.cell? ⟨zs_, 4, none⟩ = some (.slice zz_ z2_.length zq_) := (q1_ zx_.out 4).trans rfl
   have vb_ := q3_ zx_.out 0
   have vF_ := q3_ zx_.out 1
   have vf_ := q3_ zx_.out 2
   have vH_ := q3_ zx_.out 3
   have vh_ := q3_ zx_.out 4
   have ZH_ : w5.cell? ⟨jX_, 0, none⟩ = some (.int .i64 xv_) := (q1_ zv_.out 0).trans rfl
   have Zh_ : w5.cell? ⟨jX_, 1, none⟩ = some (.bool x2_) := (q1_ zv_.out 1).trans rfl
   have yR_ : w5.cell? ⟨jX_, 2, none⟩ = some (.string xy_) := (q1_ zv_.out 2).trans rfl
   have yr_ : w5.cell? ⟨jX_, 3, none⟩ = some (.slice Z3_ jj_.length wK_) := (q1_ zv_.out 3).trans rfl
   have yP_ : w5.cell? ⟨jX_, 4, none⟩ = some (.slice wY_ x7_.length wX_) := (q1_ zv_.out 4).trans rfl
   have yg_ := q3_ zv_.out 0
   have yW_ := q3_ zv_.out 1
   have yV_ := q3_ zv_.out 2
   have yY_ := q3_ zv_.out 3
   have yK_ := q3_ zv_.out 4
   go_wp2
   go_meet
   case rel => exact ⟨_, (true), (by first | rfl | (simp; done) | (simp [*]; done)), H', ⟨by first | omega | exact Nat.le_refl _⟩, ⟨by (with_reducible repeat (first | refine q9_ ?_ _ | refine qz_ ?_ | refine q8_ ?_ _)); exact zx_.out⟩, ⟨by (with_reducible repeat (first | refine q9_ ?_ _ | refine qz_ ?_ | refine q8_ ?_ _)); exact zv_.out⟩, ⟨by repeat (first | (with_reducible first | exact HB.out | apply q6_ | apply q5_ | apply q7_ | refine qq_ ?_ Z0_.out | refine qq_ ?_ Zb_.out) | exact HB.out)⟩⟩
 case rest =>
  clear HC3
  try clear c1
  try clear c2
  try clear p2
  try clear c6
  try clear Fy_
  try clear c6b1
  try clear c7
  try clear py_
  try clear c7b1
  try clear c7b2
  try clear c8
  try clear c11
  try clear Vw_
  try clear ds_
  try clear c13
  try clear c14
  try clear c17
  try clear c20
  try clear c23
  try clear wy_
  try clear wk_
  try clear wx_
  try clear wj_
  try clear wz_
  try clear v2_
  try clear v1_
  try clear v0_
  try clear yS_
  try clear ys_
  try clear Qs_
  try clear QR_
  try clear Qr_
  try clear QP_
  try clear Qp_
  try clear kf_
  try clear kH_
  try clear kh_
  try clear kG_
  try clear kg_
  try clear Yp_
  try clear YD_
  try clear Yd_
  try clear YB_
  try clear Yb_
  try clear F3_
  try clear F2_
  try clear F1_
  try clear F0_
  try clear fS_
  try clear Xs_
  try clear XR_
  try clear Xr_
  try clear XP_
  try clear Xp_
  try clear wq_
  try clear w9_
  try clear w8_
  try clear w7_
  try clear w6_
  try clear ZH_
  try clear Zh_
  try clear yR_
  try clear yr_
  try clear yP_
  try clear XW_
  try clear XV_
  try clear XY_
  try clear XK_
  try clear XX_
  try clear vP_
  try clear vp_
  try clear vD_
  try clear vd_
  try clear vB_
  try clear yF_
  try clear yf_
  try clear yH_
  try clear yh_
  try clear yG_
  try clear QD_
  try clear Qd_
  try clear QB_
  try clear Qb_
  try clear QF_
  try clear kW_
  try clear kV_
  try clear kY_
  try clear kK_
  try clear kX_
  try clear Yz_
  try clear Yq_
  try clear Y9_
  try clear Y8_
  try clear Y7_
  try clear h4_
  try clear h0_
  try clear GS_
  try clear Gs_
  try clear GR_
  try clear Xy_
  try clear Xk_
  try clear Xx_
  try clear Xj_
  try clear Xz_
  try clear vb_
  try clear vF_
  try clear vf_
  try clear vH_
  try clear vh_
  try clear yg_
  try clear yW_
  try clear yV_
  try clear yY_
  try clear yK_
  try clear X0_
  try clear JS_
  try clear Js_
  try clear JR_
  try clear Jr_
  obtain ⟨kq, DS_, rfl, HA, HJ2, zx_, zv_, HB⟩ := hcut
  cases kq with
  | zero => exact absurd HA.out (by simp [colophonref10_Equal.j0])
  | succ kj2 =>
   have H := HA.out
   clear HA
   simp only [colophonref10_Equal.j0] at H
   by_cases c26 : DS_ = true
   ·
    subst c26
    have H1 : (some false) = some r := by rw [if_pos rfl] at H; exact H
    clear H
    have H := H1
    clear H1
    obtain rfl := Option.some.inj H
    go_wp2
    go_ret
    exact ⟨by first | rfl | (simp [qk_, qy_] <;> rfl) | (simp [qk_, qy_] <;> decide +kernel) | (simp [*, qk_, qy_] <;> rfl), by repeat (first | (with_reducible first | exact HB.out | apply q6_ | apply q5_ | apply q7_ | refine qq_ ?_ Z0_.out | refine qq_ ?_ Zb_.out) | exact HB.out)⟩
   ·
    replace c26 := Bool.eq_false_iff.mpr c26
    subst c26
    have H1 : (colophonref10_Equal.l0 kj2 0 z1_ z5_ z3_ z0_ z2_ xv_ x2_ xy_ jj_ x7_) = some r := by rw [if_neg (show ¬ (false = true) by decide)] at H; exact H
    clear H
    have H := H1
    clear H1
    have H' := q0_.mk H
    clear H
    go_wp2
    go_loopg [5] kj2 (fun kq v5 w' => ∃ (zS_ : Int), v5 = .int .i64 zS_ ∧ q0_ (colophonref10_Equal.l0 kq zS_ z1_ z5_ z3_ z0_ z2_ xv_ x2_ xy_ jj_ x7_ = some r) ∧ q0_ (kq ≤ kj2) ∧ q0_ (w'.heap[zs_]? = some (.cells #[.int .i64 z1_, .bool z5_, .string z3_, (.slice zj_ z0_.length z9_), (.slice zz_ z2_.length zq_)] 25 (0, 0))) ∧ q0_ (w'.heap[jX_]? = some (.cells #[.int .i64 xv_, .bool x2_, .string xy_, (.slice Z3_ jj_.length wK_), (.slice wY_ x7_.length wX_)] 25 (0, 0))) ∧ q0_ (Below w.heap.size w w'))
    case atStart => exact ⟨(0), (by first | rfl | (simp; done) | (simp [*]; done)), H', ⟨Nat.le_refl _⟩, ⟨by (with_reducible repeat (first | refine q9_ ?_ _ | refine qz_ ?_ | refine q8_ ?_ _)); exact zx_.out⟩, ⟨by (with_reducible repeat (first | refine q9_ ?_ _ | refine qz_ ?_ | refine q8_ ?_ _)); exact zv_.out⟩, ⟨by repeat (first | (with_reducible first | exact HB.out | apply q6_ | apply q5_ | apply q7_ | refine qq_ ?_ Z0_.out | refine qq_ ?_ Zb_.out) | exact HB.out)⟩⟩
    case round =>
     clear H'
     try clear c1
     try clear c2
     try clear p2
     try clear c6
     try clear Fy_
     try clear c6b1
     try clear c7
     try clear py_
     try clear c7b1
     try clear c7b2
     try clear c8
     try clear c11
     try clear Vw_
     try clear ds_
     try clear c13
     try clear c14
     try clear c17
     try clear c20
     try clear c23
     try clear c26
     try clear wy_
     try clear wk_
     try clear wx_
     try clear wj_
     try clear wz_
     try clear v2_
     try clear v1_
     try clear v0_
     try clear yS_
     try clear ys_
     try clear Qs_
     try clear QR_
     try clear Qr_
     try clear QP_
     try clear Qp_
     try clear kf_
     try clear kH_
     try clear kh_
     try clear kG_
     try clear kg_
     try clear Yp_
     try clear YD_
     try clear Yd_
     try clear YB_
     try clear Yb_
     try clear F3_
     try clear F2_
     try clear F1_
     try clear F0_
     try clear fS_
     try clear Xs_
     try clear XR_
     try clear Xr_
     try clear XP_
     try clear Xp_
     try clear wq_
     try clear w9_
     try clear w8_
     try clear w7_
     try clear w6_
     try clear ZH_
     try clear Zh_
     try clear yR_
     try clear yr_
     try clear yP_
     try clear XW_
     try clear XV_
     try clear XY_
     try clear XK_
     try clear XX_
     try clear vP_
     try clear vp_
     try clear vD_
     try clear vd_
     try clear vB_
     try clear yF_
     try clear yf_
     try clear yH_
     try clear yh_
     try clear yG_
     try clear QD_
     try clear Qd_
     try clear QB_
     try clear Qb_
     try clear QF_
     try clear kW_
     try clear kV_
     try clear kY_
     try clear kK_
     try clear kX_
     try clear Yz_
     try clear Yq_
     try clear Y9_
     try clear Y8_
     try clear Y7_
     try clear h4_
     try clear h0_
     try clear GS_
     try clear Gs_
     try clear GR_
     try clear Xy_
     try clear Xk_
     try clear Xx_
     try clear Xj_
     try clear Xz_
     try clear vb_
     try clear vF_
     try clear vf_
     try clear vH_
     try clear vh_
     try clear yg_
     try clear yW_
     try clear yV_
     try clear yY_
     try clear yK_
     try clear X0_
     try clear JS_
     try clear Js_
     try clear JR_
     try clear Jr_
     try clear p2
     obtain ⟨zS_, rfl, HA, HK2, zx_, zv_, HB⟩ := hrel
     cases gk with
     | zero => exact absurd HA.out (by simp [colophonref10_Equal.l0])
     | succ k2 =>
      have H := HA.out
      clear HA
      simp only [colophonref10_Equal.l0] at H
      by_cases c27 : zS_ < (z0_.length : Int)
      ·
       rw [if_pos c27] at H
       have bV_ : decide (zS_ < (z0_.length : Int)) = true := decide_eq_true c27
       clear c27
       by_cases c28 : 0 ≤ zS_
       ·
        rw [if_pos c28] at H
        have Fv_ : decide (0 ≤ zS_) = true := decide_eq_true c28
        clear c28
        by_cases c29 : zS_ < (jj_.length : Int)
        ·
         rw [if_pos c29] at H
         have c29b0 : decide (zS_ < (jj_.length : Int)) = true := decide_eq_true c29
         clear c29
         replace H := Option.bind_eq_some_iff.mp H
         obtain ⟨t251, A300, H⟩ := H
         replace H : (if t251 = true then (colophonref10_Equal.l0 k2 (wrap64 (zS_ + 1)) z1_ z5_ z3_ z0_ z2_ xv_ x2_ xy_ jj_ x7_) else (some false)) = some r := H
         have A30 := q0_.mk A300
         clear A300
         by_cases c31 : t251 = true
         ·
          subst c31
          have H1 : (colophonref10_Equal.l0 k2 (wrap64 (zS_ + 1)) z1_ z5_ z3_ z0_ z2_ xv_ x2_ xy_ jj_ x7_) = some r := by rw [if_pos rfl] at H; exact H
          clear H
          have H := H1
          clear H1
          have H' := q0_.mk H
          clear H
          have hnb32 := k0_.out
          have hnc32 := xS_.out
          have XD_ : wr.cell? ⟨zs_, 0, none⟩ = some (.int .i64 z1_) := (q1_ zx_.out 0).trans rfl
          have Xd_ : wr.cell? ⟨zs_, 1, none⟩ = some (.bool z5_) := (q1_ zx_.out 1).trans rfl
          have XB_ : wr.cell? ⟨zs_, 2, none⟩ = some (.string z3_) := (q1_ zx_.out 2).trans rfl
          have Xb_ : wr.cell? ⟨zs_, 3, none⟩ = some (.slice zj_ z0_.length z9_) := (q1_ zx_.out 3).trans rfl
          have XF_ : wr.cell? ⟨zs_, 4, none⟩ = some (.slice zz_ z2_.length zq_) := (q1_ zx_.out 4).trans rfl
          have Xq_ := q3_ zx_.out 0
          have X9_ := q3_ zx_.out 1
          have X8_ := q3_ zx_.out 2
          have X7_ := q3_ zx_.out 3
          have X6_ := q3_ zx_.out 4
          try go_wp2
          have n0_ := q0_.mk (qz_ zx_.out)
          have n1_ := q0_.mk (qz_ zv_.out)
          have n2_ := q0_.mk (q7_ HB.out)
          clear zx_
          clear zv_
          clear HB
          have zx_ := n0_
          have zv_ := n1_
          have HB := n2_
          clear n0_ n1_ n2_
          have R5_ : 0 ≤ (zS_ : Int) := of_decide_eq_true (by first | (with_reducible assumption) | assumption)
          have rp_ : zS_ < (z0_.length : Int) := of_decide_eq_true (by first | (with_reducible assumption) | assumption)
          obtain ⟨kd_, VV_, Vy_, VY_, Vk_, e249, kJ_, kZ_, kQ_, kw_, kv_, J9_, JW_, J8_, JV_⟩ := at_T25 x3_.out zS_ R5_ rp_
          have yw_ := kv_
          have yQ_ := kw_
          have yZ_ := kQ_
          have yJ_ := kZ_
          have yX_ := kJ_
          cases e249
          replace kJ_ := (HB.out.cell (World.block_lt_of_cell? w _ kJ_)).trans kJ_
          replace kZ_ := (HB.out.cell (World.block_lt_of_cell? w _ kZ_)).trans kZ_
          replace kQ_ := (HB.out.cell (World.block_lt_of_cell? w _ kQ_)).trans kQ_
          replace kw_ := (HB.out.cell (World.block_lt_of_cell? w _ kw_)).trans kw_
          replace kv_ := (HB.out.cell (World.block_lt_of_cell? w _ kv_)).trans kv_
          have KQ_ := q0_.mk JW_
          have Fd_ := q0_.mk J9_
          clear JW_ J9_
          have Kw_ := q0_.mk JV_
          have FB_ := q0_.mk J8_
          clear JV_ J8_
          replace R5_ := eq_true R5_
          replace rp_ := eq_true rp_
          have R4_ : 0 ≤ (zS_ : Int) := of_decide_eq_true (by first | (with_reducible assumption) | assumption)
          have rD_ : zS_ < (jj_.length : Int) := of_decide_eq_true (by first | (with_reducible assumption) | assumption)
          obtain ⟨kB_, VK_, Vx_, VX_, Vj_, e250, ky_, kk_, kx_, kj_, kz_, J7_, JY_, J6_, JK_⟩ := at_T25 Pw_.out zS_ R4_ rD_
          have yj_ := kz_
          have yx_ := kj_
          have yk_ := kx_
          have yy_ := kk_
          have yv_ := ky_
          cases e250
          replace ky_ := (HB.out.cell (World.block_lt_of_cell? w _ ky_)).trans ky_
          replace kk_ := (HB.out.cell (World.block_lt_of_cell? w _ kk_)).trans kk_
          replace kx_ := (HB.out.cell (World.block_lt_of_cell? w _ kx_)).trans kx_
          replace kj_ := (HB.out.cell (World.block_lt_of_cell? w _ kj_)).trans kj_
          replace kz_ := (HB.out.cell (World.block_lt_of_cell? w _ kz_)).trans kz_
          have Kv_ := q0_.mk JY_
          have Fb_ := q0_.mk J7_
          clear JY_ J7_
          have Ky_ := q0_.mk JK_
          have FF_ := q0_.mk J6_
          clear JK_ J6_
          replace R4_ := eq_true R4_
          replace rD_ := eq_true rD_
          refine start_ (n := 12) (S := fun w' => w'.cell? ⟨zs_, 0, none⟩ = some (.int .i64 z1_) ∧ w'.cell? ⟨zs_, 1, none⟩ = some (.bool z5_) ∧ w'.cell? ⟨zs_, 2, none⟩ = some (.string z3_) ∧ w'.cell? ⟨zs_, 3, none⟩ = some (.slice (some kd_) z0_.length z9_) ∧ w'.cell? ⟨zs_, 4, none⟩ = some (.slice zz_ z2_.length zq_) ∧ w'.cell? ⟨jX_, 0, none⟩ = some (.int .i64 xv_) ∧ w'.cell? ⟨jX_, 1, none⟩ = some (.bool x2_) ∧ w'.cell? ⟨jX_, 2, none⟩ = some (.string xy_) ∧ w'.cell? ⟨jX_, 3, none⟩ = some (.slice (some kB_) jj_.length wK_) ∧ w'.cell? ⟨jX_, 4, none⟩ = some (.slice wY_ x7_.length wX_) ∧ w'.cell? (kd_.add ((zS_).toNat * 5)) = some (.int .i64 ((qj_ z0_ zS_).f0)) ∧ w'.cell? ⟨(kd_.add ((zS_).toNat * 5)).block, (kd_.add ((zS_).toNat * 5)).off + 1, none⟩ = some (.bool ((qj_ z0_ zS_).f1)) ∧ w'.cell? ⟨(kd_.add ((zS_).toNat * 5)).block, (kd_.add ((zS_).toNat * 5)).off + 2, none⟩ = some (.string ((qj_ z0_ zS_).f2)) ∧ w'.cell? ⟨(kd_.add ((zS_).toNat * 5)).block, (kd_.add ((zS_).toNat * 5)).off + 3, none⟩ = some (.slice VV_ ((qj_ z0_ zS_).f3).length Vy_) ∧ w'.cell? ⟨(kd_.add ((zS_).toNat * 5)).block, (kd_.add ((zS_).toNat * 5)).off + 4, none⟩ = some (.slice VY_ ((qj_ z0_ zS_).f4).length Vk_) ∧ w'.cell? (kB_.add ((zS_).toNat * 5)) = some (.int .i64 ((qj_ jj_ zS_).f0)) ∧ w'.cell? ⟨(kB_.add ((zS_).toNat * 5)).block, (kB_.add ((zS_).toNat * 5)).off + 1, none⟩ = some (.bool ((qj_ jj_ zS_).f1)) ∧ w'.cell? ⟨(kB_.add ((zS_).toNat * 5)).block, (kB_.add ((zS_).toNat * 5)).off + 2, none⟩ = some (.string ((qj_ jj_ zS_).f2)) ∧ w'.cell? ⟨(kB_.add ((zS_).toNat * 5)).block, (kB_.add ((zS_).toNat * 5)).off + 3, none⟩ = some (.slice VK_ ((qj_ jj_ zS_).f3).length Vx_) ∧ w'.cell? ⟨(kB_.add ((zS_).toNat * 5)).block, (kB_.add ((zS_).toNat * 5)).off + 4, none⟩ = some (.slice VX_ ((qj_ jj_ zS_).f4).length Vj_)) (ds := []) #[false, false, false, false, false, false, false, false, false, false, false, false] (by kernel_rfl) rfl rfl ⟨(q1_ zx_.out 0).trans rfl, (q1_ zx_.out 1).trans rfl, (q1_ zx_.out 2).trans rfl, (q1_ zx_.out 3).trans rfl, (q1_ zx_.out 4).trans rfl, (q1_ zv_.out 0).trans rfl, (q1_ zv_.out 1).trans rfl, (q1_ zv_.out 2).trans rfl, (q1_ zv_.out 3).trans rfl, (q1_ zv_.out 4).trans rfl, ((HB.out.cell (World.block_lt_of_cell? w _ yX_)).trans yX_), ((HB.out.cell (World.block_lt_of_cell? w _ yJ_)).trans yJ_), ((HB.out.cell (World.block_lt_of_cell? w _ yZ_)).trans yZ_), ((HB.out.cell (World.block_lt_of_cell? w _ yQ_)).trans yQ_), ((HB.out.cell (World.block_lt_of_cell? w _ yw_)).trans yw_), ((HB.out.cell (World.block_lt_of_cell? w _ yv_)).trans yv_), ((HB.out.cell (World.block_lt_of_cell? w _ yy_)).trans yy_), ((HB.out.cell (World.block_lt_of_cell? w _ yk_)).trans yk_), ((HB.out.cell (World.block_lt_of_cell? w _ yx_)).trans yx_), ((HB.out.cell (World.block_lt_of_cell? w _ yj_)).trans yj_)⟩ (fun hHeld => ?_); refine with_tabW colophonref10_Equal.tab6 colophonref10_Equal.bits6 (fun HT_ HW_ => ?_)
          generalize wr.drew = w34 at zx_ zv_ HB KQ_ Kw_ Kv_ Ky_ kJ_ kZ_ kQ_ kw_ kv_ ky_ kk_ kx_ kj_ kz_ hHeld ⊢
          refine pure_ (i := 0) (N := some 49) (v := ?_) (a' := ?_) #[true, false, false, false, false, false, false, false, false, false, false, false] rfl rfl (any_of HT_.out (by kernel_rfl)) (fun _ _ _ h => h) (Or.inl ⟨by rfl, ?_⟩) ?_ ?_
          rotate_left
          ·
           intro w'
           go_simp
           with_reducible rfl
          rotate_left
          ·
           simp only [Act.put, List.setIfInBounds_toArray, List.set_cons_zero, List.set_cons_succ, i64_w, i32_w]
           rfl
          refine pure_ (i := 2) (N := some 51) (v := ?_) (a' := ?_) #[true, false, true, false, false, false, false, false, false, false, false, false] rfl rfl (any_of HT_.out (by kernel_rfl)) (fun _ _ _ h => h) (Or.inl ⟨by rfl, ?_⟩) ?_ ?_
          rotate_left
          ·
           intro w'
           go_simp
           with_reducible rfl
          rotate_left
          ·
           simp only [Act.put, List.setIfInBounds_toArray, List.set_cons_zero, List.set_cons_succ, i64_w, i32_w]
           rfl
          refine pure_ (i := 5) (N := some 54) (v := ?_) (a' := ?_) #[true, false, true, false, false, true, false, false, false, false, false, false] rfl rfl (any_of HT_.out (by kernel_rfl)) (fun _ _ _ h => h) (Or.inl ⟨by rfl, ?_⟩) ?_ ?_
          rotate_left
          ·
           intro w'
           go_simp
           with_reducible rfl
          rotate_left
          ·
           simp only [Act.put, List.setIfInBounds_toArray, List.set_cons_zero, List.set_cons_succ, i64_w, i32_w]
           rfl
          refine pure_ (i := 7) (N := some 56) (v := ?_) (a' := ?_) #[true, false, true, false, false, true, false, true, false, false, false, false] rfl rfl (any_of HT_.out (by kernel_rfl)) (fun _ _ _ h => h) (Or.inl ⟨by rfl, ?_⟩) ?_ ?_
          rotate_left
          ·
           intro w'
           go_simp
           with_reducible rfl
          rotate_left
          ·
           simp only [Act.put, List.setIfInBounds_toArray, List.set_cons_zero, List.set_cons_succ, i64_w, i32_w]
           rfl
          refine take_ (i := 1) (N := some 50) (v := ?_) (a' := ?_) #[true, true, true, false, false, true, false, true, false, false, false, false] rfl rfl (take_ofW HT_.out HW_.out (by kernel_rfl)) (fun _ _ _ h => h) (Or.inl ⟨by rfl, ?_⟩) hHeld ?_ ?_
          rotate_left
          ·
           rintro w' ⟨s0, s1, s2, s3, s4, s5, s6, s7, s8, s9, s10, s11, s12, s13, s14, s15, s16, s17, s18, s19⟩
           go_simp
           with_reducible rfl
          rotate_left
          ·
           simp only [Act.put, List.setIfInBounds_toArray, List.set_cons_zero, List.set_cons_succ, i64_w, i32_w]
           rfl
          refine pure_ (i := 3) (N := some 52) (v := ?_) (a' := ?_) #[true, true, true, true, false, true, false, true, false, false, false, false] rfl rfl (any_of HT_.out (by kernel_rfl)) (fun _ _ _ h => h) (Or.inl ⟨by rfl, ?_⟩) ?_ ?_
          rotate_left
          ·
           intro w'
           go_simp
           with_reducible rfl
          rotate_left
          ·
           simp only [Act.put, List.setIfInBounds_toArray, List.set_cons_zero, List.set_cons_succ, i64_w, i32_w]
           rfl
          refine take_ (i := 4) (N := some 53) (v := ?_) (a' := ?_) #[true, true, true, true, true, true, false, true, false, false, false, false] rfl rfl (take_ofW HT_.out HW_.out (by kernel_rfl)) (fun _ _ _ h => h) (Or.inl ⟨by rfl, ?_⟩) hHeld ?_ ?_
          rotate_left
          ·
           rintro w' ⟨s0, s1, s2, s3, s4, s5, s6, s7, s8, s9, s10, s11, s12, s13, s14, s15, s16, s17, s18, s19⟩
           go_simp
           with_reducible rfl
          rotate_left
          ·
           simp only [Act.put, List.setIfInBounds_toArray, List.set_cons_zero, List.set_cons_succ, i64_w, i32_w]
           rfl
          refine take_ (i := 6) (N := some 55) (v := ?_) (a' := ?_) #[true, true, true, true, true, true, true, true, false, false, false, false] rfl rfl (take_ofW HT_.out HW_.out (by kernel_rfl)) (fun _ _ _ h => h) (Or.inl ⟨by rfl, ?_⟩) hHeld ?_ ?_
          rotate_left
          ·
           rintro w' ⟨s0, s1, s2, s3, s4, s5, s6, s7, s8, s9, s10, s11, s12, s13, s14, s15, s16, s17, s18, s19⟩
           go_simp
           with_reducible rfl
          rotate_left
          ·
           simp only [Act.put, List.setIfInBounds_toArray, List.set_cons_zero, List.set_cons_succ, i64_w, i32_w]
           rfl
          refine pure_ (i := 8) (N := some 57) (v := ?_) (a' := ?_) #[true, true, true, true, true, true, true, true, true, false, false, false] rfl rfl (any_of HT_.out (by kernel_rfl)) (fun _ _ _ h => h) (Or.inl ⟨by rfl, ?_⟩) ?_ ?_
          rotate_left
          ·
           intro w'
           go_simp
           with_reducible rfl
          rotate_left
          ·
           simp only [Act.put, List.setIfInBounds_toArray, List.set_cons_zero, List.set_cons_succ, i64_w, i32_w]
           rfl
          refine take_ (i := 9) (N := some 58) (v := ?_) (a' := ?_) #[true, true, true, true, true, true, true, true, true, true, false, false] rfl rfl (take_ofW HT_.out HW_.out (by kernel_rfl)) (fun _ _ _ h => h) (Or.inl ⟨by rfl, ?_⟩) hHeld ?_ ?_
          rotate_left
          ·
           rintro w' ⟨s0, s1, s2, s3, s4, s5, s6, s7, s8, s9, s10, s11, s12, s13, s14, s15, s16, s17, s18, s19⟩
           go_simp
           with_reducible rfl
          rotate_left
          ·
           simp only [Act.put, List.setIfInBounds_toArray, List.set_cons_zero, List.set_cons_succ, i64_w, i32_w]
           rfl
          refine one_ (i := 10) (N := some 59) #[true, true, true, true, true, true, true, true, true, true, true, false] rfl rfl (one_of HT_.out (by kernel_rfl)) (by decide) (fun K hK => ?_)
          refine goes_ Tryd.func20 (by kernel_rfl) rfl #[.agg #[.int .i64 ((qj_ z0_ zS_).f0), .bool ((qj_ z0_ zS_).f1), .string ((qj_ z0_ zS_).f2), .slice VV_ ((qj_ z0_ zS_).f3).length Vy_, .slice VY_ ((qj_ z0_ zS_).f4).length Vk_], .agg #[.int .i64 ((qj_ jj_ zS_).f0), .bool ((qj_ jj_ zS_).f1), .string ((qj_ jj_ zS_).f2), .slice VK_ ((qj_ jj_ zS_).f3).length Vx_, .slice VX_ ((qj_ jj_ zS_).f4).length Vj_]] (by rfl) rfl rfl (by (try simp only [List.map_toArray, List.map_cons, List.map_nil]); first | done | rfl | (simp only [List.length_drop, List.length_take]; rfl)) ?_
          with_reducible refine (ih k2 (by have := HJ2.out; have := HK2.out; omega) ((qj_ z0_ zS_).f0) ((qj_ z0_ zS_).f1) ((qj_ z0_ zS_).f2) _ _ ((qj_ z0_ zS_).f3) _ _ ((qj_ z0_ zS_).f4) ((qj_ jj_ zS_).f0) ((qj_ jj_ zS_).f1) ((qj_ jj_ zS_).f2) _ _ ((qj_ jj_ zS_).f3) _ _ ((qj_ jj_ zS_).f4) true _ ?zQ_ ?zZ_ ?zY_ ?zK_ ?W2_ ?W1_ ?W0_ ?VS_ A30.out).mono ?_
          (case zQ_ => repeat (first | exact (Kd.qD_ KQ_.out HB.out) | (with_reducible refine Kd.qP_ ?_ _) | (with_reducible refine Kd.qr_ ?_ _) | (with_reducible refine Kd.qR_ ?_)))
          (case zZ_ => exact Fd_.out)
          (case zY_ => repeat (first | exact (Kd.qD_ Kw_.out HB.out) | (with_reducible refine Kd.qP_ ?_ _) | (with_reducible refine Kd.qr_ ?_ _) | (with_reducible refine Kd.qR_ ?_)))
          (case zK_ => exact FB_.out)
          (case W2_ => repeat (first | exact (Kd.qD_ Kv_.out HB.out) | (with_reducible refine Kd.qP_ ?_ _) | (with_reducible refine Kd.qr_ ?_ _) | (with_reducible refine Kd.qR_ ?_)))
          (case W1_ => exact Fb_.out)
          (case W0_ => repeat (first | exact (Kd.qD_ Ky_.out HB.out) | (with_reducible refine Kd.qP_ ?_ _) | (with_reducible refine Kd.qr_ ?_ _) | (with_reducible refine Kd.qR_ ?_)))
          (case VS_ => exact FF_.out)
          rintro e w35 ⟨rfl, hb⟩
          refine ⟨_, rfl, ?_⟩
          have n0_ := q0_.mk (q2_ (g := zs_) (o := .cells #[.int .i64 z1_, .bool z5_, .string z3_, .slice (some kd_) z0_.length z9_, .slice zz_ z2_.length zq_] 25 (0, 0)) (by (with_reducible repeat (first | refine q9_ ?_ _ | refine qz_ ?_ | refine q8_ ?_ _)); exact zx_.out) hb)
          have n1_ := q0_.mk (q2_ (g := jX_) (o := .cells #[.int .i64 xv_, .bool x2_, .string xy_, .slice (some kB_) jj_.length wK_, .slice wY_ x7_.length wX_] 25 (0, 0)) (by (with_reducible repeat (first | refine q9_ ?_ _ | refine qz_ ?_ | refine q8_ ?_ _)); exact zv_.out) hb)
          have n2_ := q0_.mk (q4_ (by repeat (first | (with_reducible first | exact HB.out | apply q6_ | apply q5_ | apply q7_ | refine qq_ ?_ Z0_.out | refine qq_ ?_ Zb_.out) | exact HB.out)) hb)
          clear zx_
          clear zv_
          clear HB
          have zx_ := n0_
          have zv_ := n1_
          have HB := n2_
          clear n0_ n1_ n2_
          (try clear hb)
          (try clear hb2)
          (try clear hk)
          (try clear hi)
          refine hK.out _ _ ⟨(q1_ zx_.out 0).trans rfl, (q1_ zx_.out 1).trans rfl, (q1_ zx_.out 2).trans rfl, (q1_ zx_.out 3).trans rfl, (q1_ zx_.out 4).trans rfl, (q1_ zv_.out 0).trans rfl, (q1_ zv_.out 1).trans rfl, (q1_ zv_.out 2).trans rfl, (q1_ zv_.out 3).trans rfl, (q1_ zv_.out 4).trans rfl, ((HB.out.cell (World.block_lt_of_cell? w _ yX_)).trans yX_), ((HB.out.cell (World.block_lt_of_cell? w _ yJ_)).trans yJ_), ((HB.out.cell (World.block_lt_of_cell? w _ yZ_)).trans yZ_), ((HB.out.cell (World.block_lt_of_cell? w _ yQ_)).trans yQ_), ((HB.out.cell (World.block_lt_of_cell? w _ yw_)).trans yw_), ((HB.out.cell (World.block_lt_of_cell? w _ yv_)).trans yv_), ((HB.out.cell (World.block_lt_of_cell? w _ yy_)).trans yy_), ((HB.out.cell (World.block_lt_of_cell? w _ yk_)).trans yk_), ((HB.out.cell (World.block_lt_of_cell? w _ yx_)).trans yx_), ((HB.out.cell (World.block_lt_of_cell? w _ yj_)).trans yj_)⟩ (fun hHeld => ?_)
          clear hK K
          refine norm_ (a' := ?_) ?_ ?_
          rotate_left
          ·
           show Act.put _ (some 59) _ = _
           simp only [Act.put, List.setIfInBounds_toArray, List.set_cons_zero, List.set_cons_succ, i64_w, i32_w]
           rfl
          refine pure_ (i := 11) (N := some 60) (v := ?_) (a' := ?_) #[true, true, true, true, true, true, true, true, true, true, true, true] rfl rfl (any_of HT_.out (by kernel_rfl)) (fun _ _ _ h => h) (Or.inl ⟨by rfl, ?_⟩) ?_ ?_
          rotate_left
          ·
           intro w'
           go_simp
           with_reducible rfl
          rotate_left
          ·
           simp only [Act.put, List.setIfInBounds_toArray, List.set_cons_zero, List.set_cons_succ, i64_w, i32_w]
           rfl
          refine done_ (done_of HT_.out (by kernel_rfl)) ?_
          try go_wp2
          go_roundg k2
          case measure => have := HJ2.out; have := HK2.out; omega
          case rel => exact ⟨(wrap64 (zS_ + 1)), (by first | rfl | (simp; done) | (simp [*]; done)), H', ⟨by have := HJ2.out; have := HK2.out; omega⟩, ⟨by (with_reducible repeat (first | refine q9_ ?_ _ | refine qz_ ?_ | refine q8_ ?_ _)); exact zx_.out⟩, ⟨by (with_reducible repeat (first | refine q9_ ?_ _ | refine qz_ ?_ | refine q8_ ?_ _)); exact zv_.out⟩, ⟨by repeat (first | (with_reducible first | exact HB.out | apply q6_ | apply q5_ | apply q7_ | refine qq_ ?_ Z0_.out | refine qq_ ?_ Zb_.out) | exact HB.out)⟩⟩
         ·
          replace c31 := Bool.eq_false_iff.mpr c31
          subst c31
          have H1 : (some false) = some r := by rw [if_neg (show ¬ (false = true) by decide)] at H; exact H
          clear H
          have H := H1
          clear H1
          obtain rfl := Option.some.inj H
          have hnb36 := k0_.out
          have hnc36 := xS_.out
          have Rr_ : wr.cell? ⟨zs_, 0, none⟩ = some (.int .i64 z1_) := (q1_ zx_.out 0).trans rfl
          have RP_ : wr.cell? ⟨zs_, 1, none⟩ = some (.bool z5_) := (q1_ zx_.out 1).trans rfl
          have Rp_ : wr.cell? ⟨zs_, 2, none⟩ = some (.string z3_) := (q1_ zx_.out 2).trans rfl
          have RD_ : wr.cell? ⟨zs_, 3, none⟩ = some (.slice zj_ z0_.length z9_) := (q1_ zx_.out 3).trans rfl
          have Rd_ : wr.cell? ⟨zs_, 4, none⟩ = some (.slice zz_ z2_.length zq_) := (q1_ zx_.out 4).trans rfl
          have Rh_ := q3_ zx_.out 0
          have RG_ := q3_ zx_.out 1
          have Rg_ := q3_ zx_.out 2
          have RW_ := q3_ zx_.out 3
          have RV_ := q3_ zx_.out 4
          try go_wp2
          have n0_ := q0_.mk (qz_ zx_.out)
          have n1_ := q0_.mk (qz_ zv_.out)
          have n2_ := q0_.mk (q7_ HB.out)
          clear zx_
          clear zv_
          clear HB
          have zx_ := n0_
          have zv_ := n1_
          have HB := n2_
          clear n0_ n1_ n2_
          have R5_ : 0 ≤ (zS_ : Int) := of_decide_eq_true (by first | (with_reducible assumption) | assumption)
          have rp_ : zS_ < (z0_.length : Int) := of_decide_eq_true (by first | (with_reducible assumption) | assumption)
          obtain ⟨kd_, VV_, Vy_, VY_, Vk_, e249, kJ_, kZ_, kQ_, kw_, kv_, J9_, JW_, J8_, JV_⟩ := at_T25 x3_.out zS_ R5_ rp_
          have yw_ := kv_
          have yQ_ := kw_
          have yZ_ := kQ_
          have yJ_ := kZ_
          have yX_ := kJ_
          cases e249
          replace kJ_ := (HB.out.cell (World.block_lt_of_cell? w _ kJ_)).trans kJ_
          replace kZ_ := (HB.out.cell (World.block_lt_of_cell? w _ kZ_)).trans kZ_
          replace kQ_ := (HB.out.cell (World.block_lt_of_cell? w _ kQ_)).trans kQ_
          replace kw_ := (HB.out.cell (World.block_lt_of_cell? w _ kw_)).trans kw_
          replace kv_ := (HB.out.cell (World.block_lt_of_cell? w _ kv_)).trans kv_
          have KQ_ := q0_.mk JW_
          have Fd_ := q0_.mk J9_
          clear JW_ J9_
          have Kw_ := q0_.mk JV_
          have FB_ := q0_.mk J8_
          clear JV_ J8_
          replace R5_ := eq_true R5_
          replace rp_ := eq_true rp_
          have R4_ : 0 ≤ (zS_ : Int) := of_decide_eq_true (by first | (with_reducible assumption) | assumption)
          have rD_ : zS_ < (jj_.length : Int) := of_decide_eq_true (by first | (with_reducible assumption) | assumption)
          obtain ⟨kB_, VK_, Vx_, VX_, Vj_, e250, ky_, kk_, kx_, kj_, kz_, J7_, JY_, J6_, JK_⟩ := at_T25 Pw_.out zS_ R4_ rD_
          have yj_ := kz_
          have yx_ := kj_
          have yk_ := kx_
          have yy_ := kk_
          have yv_ := ky_
          cases e250
          replace ky_ := (HB.out.cell (World.block_lt_of_cell? w _ ky_)).trans ky_
          replace kk_ := (HB.out.cell (World.block_lt_of_cell? w _ kk_)).trans kk_
          replace kx_ := (HB.out.cell (World.block_lt_of_cell? w _ kx_)).trans kx_
          replace kj_ := (HB.out.cell (World.block_lt_of_cell? w _ kj_)).trans kj_
          replace kz_ := (HB.out.cell (World.block_lt_of_cell? w _ kz_)).trans kz_
          have Kv_ := q0_.mk JY_
          have Fb_ := q0_.mk J7_
          clear JY_ J7_
          have Ky_ := q0_.mk JK_
          have FF_ := q0_.mk J6_
          clear JK_ J6_
          replace R4_ := eq_true R4_
          replace rD_ := eq_true rD_
          refine start_ (n := 12) (S := fun w' => w'.cell? ⟨zs_, 0, none⟩ = some (.int .i64 z1_) ∧ w'.cell? ⟨zs_, 1, none⟩ = some (.bool z5_) ∧ w'.cell? ⟨zs_, 2, none⟩ = some (.string z3_) ∧ w'.cell? ⟨zs_, 3, none⟩ = some (.slice (some kd_) z0_.length z9_) ∧ w'.cell? ⟨zs_, 4, none⟩ = some (.slice zz_ z2_.length zq_) ∧ w'.cell? ⟨jX_, 0, none⟩ = some (.int .i64 xv_) ∧ w'.cell? ⟨jX_, 1, none⟩ = some (.bool x2_) ∧ w'.cell? ⟨jX_, 2, none⟩ = some (.string xy_) ∧ w'.cell? ⟨jX_, 3, none⟩ = some (.slice (some kB_) jj_.length wK_) ∧ w'.cell? ⟨jX_, 4, none⟩ = some (.slice wY_ x7_.length wX_) ∧ w'.cell? (kd_.add ((zS_).toNat * 5)) = some (.int .i64 ((qj_ z0_ zS_).f0)) ∧ w'.cell? ⟨(kd_.add ((zS_).toNat * 5)).block, (kd_.add ((zS_).toNat * 5)).off + 1, none⟩ = some (.bool ((qj_ z0_ zS_).f1)) ∧ w'.cell? ⟨(kd_.add ((zS_).toNat * 5)).block, (kd_.add ((zS_).toNat * 5)).off + 2, none⟩ = some (.string ((qj_ z0_ zS_).f2)) ∧ w'.cell? ⟨(kd_.add ((zS_).toNat * 5)).block, (kd_.add ((zS_).toNat * 5)).off + 3, none⟩ = some (.slice VV_ ((qj_ z0_ zS_).f3).length Vy_) ∧ w'.cell? ⟨(kd_.add ((zS_).toNat * 5)).block, (kd_.add ((zS_).toNat * 5)).off + 4, none⟩ = some (.slice VY_ ((qj_ z0_ zS_).f4).length Vk_) ∧ w'.cell? (kB_.add ((zS_).toNat * 5)) = some (.int .i64 ((qj_ jj_ zS_).f0)) ∧ w'.cell? ⟨(kB_.add ((zS_).toNat * 5)).block, (kB_.add ((zS_).toNat * 5)).off + 1, none⟩ = some (.bool ((qj_ jj_ zS_).f1)) ∧ w'.cell? ⟨(kB_.add ((zS_).toNat * 5)).block, (kB_.add ((zS_).toNat * 5)).off + 2, none⟩ = some (.string ((qj_ jj_ zS_).f2)) ∧ w'.cell? ⟨(kB_.add ((zS_).toNat * 5)).block, (kB_.add ((zS_).toNat * 5)).off + 3, none⟩ = some (.slice VK_ ((qj_ jj_ zS_).f3).length Vx_) ∧ w'.cell? ⟨(kB_.add ((zS_).toNat * 5)).block, (kB_.add ((zS_).toNat * 5)).off + 4, none⟩ = some (.slice VX_ ((qj_ jj_ zS_).f4).length Vj_)) (ds := []) #[false, false, false, false, false, false, false, false, false, false, false, false] (by kernel_rfl) rfl rfl ⟨(q1_ zx_.out 0).trans rfl, (q1_ zx_.out 1).trans rfl, (q1_ zx_.out 2).trans rfl, (q1_ zx_.out 3).trans rfl, (q1_ zx_.out 4).trans rfl, (q1_ zv_.out 0).trans rfl, (q1_ zv_.out 1).trans rfl, (q1_ zv_.out 2).trans rfl, (q1_ zv_.out 3).trans rfl, (q1_ zv_.out 4).trans rfl, ((HB.out.cell (World.block_lt_of_cell? w _ yX_)).trans yX_), ((HB.out.cell (World.block_lt_of_cell? w _ yJ_)).trans yJ_), ((HB.out.cell (World.block_lt_of_cell? w _ yZ_)).trans yZ_), ((HB.out.cell (World.block_lt_of_cell? w _ yQ_)).trans yQ_), ((HB.out.cell (World.block_lt_of_cell? w _ yw_)).trans yw_), ((HB.out.cell (World.block_lt_of_cell? w _ yv_)).trans yv_), ((HB.out.cell (World.block_lt_of_cell? w _ yy_)).trans yy_), ((HB.out.cell (World.block_lt_of_cell? w _ yk_)).trans yk_), ((HB.out.cell (World.block_lt_of_cell? w _ yx_)).trans yx_), ((HB.out.cell (World.block_lt_of_cell? w _ yj_)).trans yj_)⟩ (fun hHeld => ?_); refine with_tabW colophonref10_Equal.tab6 colophonref10_Equal.bits6 (fun HT_ HW_ => ?_)
          generalize wr.drew = w38 at zx_ zv_ HB KQ_ Kw_ Kv_ Ky_ kJ_ kZ_ kQ_ kw_ kv_ ky_ kk_ kx_ kj_ kz_ hHeld ⊢
          refine pure_ (i := 0) (N := some 49) (v := ?_) (a' := ?_) #[true, false, false, false, false, false, false, false, false, false, false, false] rfl rfl (any_of HT_.out (by kernel_rfl)) (fun _ _ _ h => h) (Or.inl ⟨by rfl, ?_⟩) ?_ ?_
          rotate_left
          ·
           intro w'
           go_simp
           with_reducible rfl
          rotate_left
          ·
           simp only [Act.put, List.setIfInBounds_toArray, List.set_cons_zero, List.set_cons_succ, i64_w, i32_w]
           rfl
          refine pure_ (i := 2) (N := some 51) (v := ?_) (a' := ?_) #[true, false, true, false, false, false, false, false, false, false, false, false] rfl rfl (any_of HT_.out (by kernel_rfl)) (fun _ _ _ h => h) (Or.inl ⟨by rfl, ?_⟩) ?_ ?_
          rotate_left
          ·
           intro w'
           go_simp
           with_reducible rfl
          rotate_left
          ·
           simp only [Act.put, List.setIfInBounds_toArray, List.set_cons_zero, List.set_cons_succ, i64_w, i32_w]
           rfl
          refine pure_ (i := 5) (N := some 54) (v := ?_) (a' := ?_) #[true, false, true, false, false, true, false, false, false, false, false, false] rfl rfl (any_of HT_.out (by kernel_rfl)) (fun _ _ _ h => h) (Or.inl ⟨by rfl, ?_⟩) ?_ ?_
          rotate_left
          ·
           intro w'
           go_simp
           with_reducible rfl
          rotate_left
          ·
           simp only [Act.put, List.setIfInBounds_toArray, List.set_cons_zero, List.set_cons_succ, i64_w, i32_w]
           rfl
          refine pure_ (i := 7) (N := some 56) (v := ?_) (a' := ?_) #[true, false, true, false, false, true, false, true, false, false, false, false] rfl rfl (any_of HT_.out (by kernel_rfl)) (fun _ _ _ h => h) (Or.inl ⟨by rfl, ?_⟩) ?_ ?_
          rotate_left
          ·
           intro w'
           go_simp
           with_reducible rfl
          rotate_left
          ·
           simp only [Act.put, List.setIfInBounds_toArray, List.set_cons_zero, List.set_cons_succ, i64_w, i32_w]
           rfl
          refine take_ (i := 1) (N := some 50) (v := ?_) (a' := ?_) #[true, true, true, false, false, true, false, true, false, false, false, false] rfl rfl (take_ofW HT_.out HW_.out (by kernel_rfl)) (fun _ _ _ h => h) (Or.inl ⟨by rfl, ?_⟩) hHeld ?_ ?_
          rotate_left
          ·
           rintro w' ⟨s0, s1, s2, s3, s4, s5, s6, s7, s8, s9, s10, s11, s12, s13, s14, s15, s16, s17, s18, s19⟩
           go_simp
           with_reducible rfl
          rotate_left
          ·
           simp only [Act.put, List.setIfInBounds_toArray, List.set_cons_zero, List.set_cons_succ, i64_w, i32_w]
           rfl
          refine pure_ (i := 3) (N := some 52) (v := ?_) (a' := ?_) #[true, true, true, true, false, true, false, true, false, false, false, false] rfl rfl (any_of HT_.out (by kernel_rfl)) (fun _ _ _ h => h) (Or.inl ⟨by rfl, ?_⟩) ?_ ?_
          rotate_left
          ·
           intro w'
           go_simp
           with_reducible rfl
          rotate_left
          ·
           simp only [Act.put, List.setIfInBounds_toArray, List.set_cons_zero, List.set_cons_succ, i64_w, i32_w]
           rfl
          refine take_ (i := 4) (N := some 53) (v := ?_) (a' := ?_) #[true, true, true, true, true, true, false, true, false, false, false, false] rfl rfl (take_ofW HT_.out HW_.out (by kernel_rfl)) (fun _ _ _ h => h) (Or.inl ⟨by rfl, ?_⟩) hHeld ?_ ?_
          rotate_left
          ·
           rintro w' ⟨s0, s1, s2, s3, s4, s5, s6, s7, s8, s9, s10, s11, s12, s13, s14, s15, s16, s17, s18, s19⟩
           go_simp
           with_reducible rfl
          rotate_left
          ·
           simp only [Act.put, List.setIfInBounds_toArray, List.set_cons_zero, List.set_cons_succ, i64_w, i32_w]
           rfl
          refine take_ (i := 6) (N := some 55) (v := ?_) (a' := ?_) #[true, true, true, true, true, true, true, true, false, false, false, false] rfl rfl (take_ofW HT_.out HW_.out (by kernel_rfl)) (fun _ _ _ h => h) (Or.inl ⟨by rfl, ?_⟩) hHeld ?_ ?_
          rotate_left
          ·
           rintro w' ⟨s0, s1, s2, s3, s4, s5, s6, s7, s8, s9, s10, s11, s12, s13, s14, s15, s16, s17, s18, s19⟩
           go_simp
           with_reducible rfl
          rotate_left
          ·
           simp only [Act.put, List.setIfInBounds_toArray, List.set_cons_zero, List.set_cons_succ, i64_w, i32_w]
           rfl
          refine pure_ (i := 8) (N := some 57) (v := ?_) (a' := ?_) #[true, true, true, true, true, true, true, true, true, false, false, false] rfl rfl (any_of HT_.out (by kernel_rfl)) (fun _ _ _ h => h) (Or.inl ⟨by rfl, ?_⟩) ?_ ?_
          rotate_left
          ·
           intro w'
           go_simp
           with_reducible rfl
          rotate_left
          ·
           simp only [Act.put, List.setIfInBounds_toArray, List.set_cons_zero, List.set_cons_succ, i64_w, i32_w]
           rfl
          refine take_ (i := 9) (N := some 58) (v := ?_) (a' := ?_) #[true, true, true, true, true, true, true, true, true, true, false, false] rfl rfl (take_ofW HT_.out HW_.out (by kernel_rfl)) (fun _ _ _ h => h) (Or.inl ⟨by rfl, ?_⟩) hHeld ?_ ?_
          rotate_left
          ·
           rintro w' ⟨s0, s1, s2, s3, s4, s5, s6, s7, s8, s9, s10, s11, s12, s13, s14, s15, s16, s17, s18, s19⟩
           go_simp
           with_reducible rfl
          rotate_left
          ·
           simp only [Act.put, List.setIfInBounds_toArray, List.set_cons_zero, List.set_cons_succ, i64_w, i32_w]
           rfl
          refine one_ (i := 10) (N := some 59) #[true, true, true, true, true, true, true, true, true, true, true, false] rfl rfl (one_of HT_.out (by kernel_rfl)) (by decide) (fun K hK => ?_)
          refine goes_ Tryd.func20 (by kernel_rfl) rfl #[.agg #[.int .i64 ((qj_ z0_ zS_).f0), .bool ((qj_ z0_ zS_).f1), .string ((qj_ z0_ zS_).f2), .slice VV_ ((qj_ z0_ zS_).f3).length Vy_, .slice VY_ ((qj_ z0_ zS_).f4).length Vk_], .agg #[.int .i64 ((qj_ jj_ zS_).f0), .bool ((qj_ jj_ zS_).f1), .string ((qj_ jj_ zS_).f2), .slice VK_ ((qj_ jj_ zS_).f3).length Vx_, .slice VX_ ((qj_ jj_ zS_).f4).length Vj_]] (by rfl) rfl rfl (by (try simp only [List.map_toArray, List.map_cons, List.map_nil]); first | done | rfl | (simp only [List.length_drop, List.length_take]; rfl)) ?_
          with_reducible refine (ih k2 (by have := HJ2.out; have := HK2.out; omega) ((qj_ z0_ zS_).f0) ((qj_ z0_ zS_).f1) ((qj_ z0_ zS_).f2) _ _ ((qj_ z0_ zS_).f3) _ _ ((qj_ z0_ zS_).f4) ((qj_ jj_ zS_).f0) ((qj_ jj_ zS_).f1) ((qj_ jj_ zS_).f2) _ _ ((qj_ jj_ zS_).f3) _ _ ((qj_ jj_ zS_).f4) false _ ?zQ_ ?zZ_ ?zY_ ?zK_ ?W2_ ?W1_ ?W0_ ?VS_ A30.out).mono ?_
          (case zQ_ => repeat (first | exact (Kd.qD_ KQ_.out HB.out) | (with_reducible refine Kd.qP_ ?_ _) | (with_reducible refine Kd.qr_ ?_ _) | (with_reducible refine Kd.qR_ ?_)))
          (case zZ_ => exact Fd_.out)
          (case zY_ => repeat (first | exact (Kd.qD_ Kw_.out HB.out) | (with_reducible refine Kd.qP_ ?_ _) | (with_reducible refine Kd.qr_ ?_ _) | (with_reducible refine Kd.qR_ ?_)))
          (case zK_ => exact FB_.out)
          (case W2_ => repeat (first | exact (Kd.qD_ Kv_.out HB.out) | (with_reducible refine Kd.qP_ ?_ _) | (with_reducible refine Kd.qr_ ?_ _) | (with_reducible refine Kd.qR_ ?_)))
          (case W1_ => exact Fb_.out)
          (case W0_ => repeat (first | exact (Kd.qD_ Ky_.out HB.out) | (with_reducible refine Kd.qP_ ?_ _) | (with_reducible refine Kd.qr_ ?_ _) | (with_reducible refine Kd.qR_ ?_)))
          (case VS_ => exact FF_.out)
          rintro e w39 ⟨rfl, hb⟩
          refine ⟨_, rfl, ?_⟩
          have n0_ := q0_.mk (q2_ (g := zs_) (o := .cells #[.int .i64 z1_, .bool z5_, .string z3_, .slice (some kd_) z0_.length z9_, .slice zz_ z2_.length zq_] 25 (0, 0)) (by (with_reducible repeat (first | refine q9_ ?_ _ | refine qz_ ?_ | refine q8_ ?_ _)); exact zx_.out) hb)
          have n1_ := q0_.mk (q2_ (g := jX_) (o := .cells #[.int .i64 xv_, .bool x2_, .string xy_, .slice (some kB_) jj_.length wK_, .slice wY_ x7_.length wX_] 25 (0, 0)) (by (with_reducible repeat (first | refine q9_ ?_ _ | refine qz_ ?_ | refine q8_ ?_ _)); exact zv_.out) hb)
          have n2_ := q0_.mk (q4_ (by repeat (first | (with_reducible first | exact HB.out | apply q6_ | apply q5_ | apply q7_ | refine qq_ ?_ Z0_.out | refine qq_ ?_ Zb_.out) | exact HB.out)) hb)
          clear zx_
          clear zv_
          clear HB
          have zx_ := n0_
          have zv_ := n1_
          have HB := n2_
          clear n0_ n1_ n2_
          (try clear hb)
          (try clear hb2)
          (try clear hk)
          (try clear hi)
          refine hK.out _ _ ⟨(q1_ zx_.out 0).trans rfl, (q1_ zx_.out 1).trans rfl, (q1_ zx_.out 2).trans rfl, (q1_ zx_.out 3).trans rfl, (q1_ zx_.out 4).trans rfl, (q1_ zv_.out 0).trans rfl, (q1_ zv_.out 1).trans rfl, (q1_ zv_.out 2).trans rfl, (q1_ zv_.out 3).trans rfl, (q1_ zv_.out 4).trans rfl, ((HB.out.cell (World.block_lt_of_cell? w _ yX_)).trans yX_), ((HB.out.cell (World.block_lt_of_cell? w _ yJ_)).trans yJ_), ((HB.out.cell (World.block_lt_of_cell? w _ yZ_)).trans yZ_), ((HB.out.cell (World.block_lt_of_cell? w _ yQ_)).trans yQ_), ((HB.out.cell (World.block_lt_of_cell? w _ yw_)).trans yw_), ((HB.out.cell (World.block_lt_of_cell? w _ yv_)).trans yv_), ((HB.out.cell (World.block_lt_of_cell? w _ yy_)).trans yy_), ((HB.out.cell (World.block_lt_of_cell? w _ yk_)).trans yk_), ((HB.out.cell (World.block_lt_of_cell? w _ yx_)).trans yx_), ((HB.out.cell (World.block_lt_of_cell? w _ yj_)).trans yj_)⟩ (fun hHeld => ?_)
          clear hK K
          refine norm_ (a' := ?_) ?_ ?_
          rotate_left
          ·
           show Act.put _ (some 59) _ = _
           simp only [Act.put, List.setIfInBounds_toArray, List.set_cons_zero, List.set_cons_succ, i64_w, i32_w]
           rfl
          refine pure_ (i := 11) (N := some 60) (v := ?_) (a' := ?_) #[true, true, true, true, true, true, true, true, true, true, true, true] rfl rfl (any_of HT_.out (by kernel_rfl)) (fun _ _ _ h => h) (Or.inl ⟨by rfl, ?_⟩) ?_ ?_
          rotate_left
          ·
           intro w'
           go_simp
           with_reducible rfl
          rotate_left
          ·
           simp only [Act.put, List.setIfInBounds_toArray, List.set_cons_zero, List.set_cons_succ, i64_w, i32_w]
           rfl
          refine done_ (done_of HT_.out (by kernel_rfl)) ?_
          try go_wp2
          go_ret
          exact ⟨by first | rfl | (simp [qk_, qy_] <;> rfl) | (simp [qk_, qy_] <;> decide +kernel) | (simp [*, qk_, qy_] <;> rfl), by repeat (first | (with_reducible first | exact HB.out | apply q6_ | apply q5_ | apply q7_ | refine qq_ ?_ Z0_.out | refine qq_ ?_ Zb_.out) | exact HB.out)⟩
        ·
         rw [if_neg c29] at H
         exact absurd H (by simp)
       ·
        rw [if_neg c28] at H
        exact absurd H (by simp)
      ·
       rw [if_neg c27] at H
       have bV_ : decide (zS_ < (z0_.length : Int)) = false := decide_eq_false c27
       clear c27
       obtain rfl := Option.some.inj H
       have hnb40 := k0_.out
       have hnc40 := xS_.out
       have Yv_ : wr.cell? ⟨zs_, 0, none⟩ = some (.int .i64 z1_) := (q1_ zx_.out 0).trans rfl
       have Yy_ : wr.cell? ⟨zs_, 1, none⟩ = some (.bool z5_) := (q1_ zx_.out 1).trans rfl
       have Yk_ : wr.cell? ⟨zs_, 2, none⟩ = some (.string z3_) := (q1_ zx_.out 2).trans rfl
       have Yx_ : wr.cell? ⟨zs_, 3, none⟩ = some (.slice zj_ z0_.length z9_) := (q1_ zx_.out 3).trans rfl
       have Yj_ : wr.cell? ⟨zs_, 4, none⟩ = some (.slice zz_ z2_.length zq_) := (q1_ zx_.out 4).trans rfl
       have KB_ := q3_ zx_.out 0
       have Kb_ := q3_ zx_.out 1
       have KF_ := q3_ zx_.out 2
       have Kf_ := q3_ zx_.out 3
       have KH_ := q3_ zx_.out 4
       go_wp2
       go_ret
       exact ⟨by first | rfl | (simp [qk_, qy_] <;> rfl) | (simp [qk_, qy_] <;> decide +kernel) | (simp [*, qk_, qy_] <;> rfl), by repeat (first | (with_reducible first | exact HB.out | apply q6_ | apply q5_ | apply q7_ | refine qq_ ?_ Z0_.out | refine qq_ ?_ Zb_.out) | exact HB.out)⟩
end Go.Proofs.YtfpmompdgmklmaaDoor.P
