import Derived.Test.YtfpmompdgmklmaaDoorP0
import Derived.Test.YtfpmompdgmklmaaDoorP6
namespace Go.Proofs.YtfpmompdgmklmaaDoor.P
attribute [-simp] List.length_drop List.length_take ByteArray.size_append
open Go.RowKit Go.Proofs.YtfpmompdgmklmaaDoorW.PrintWords Go.Proofs.YtfpmompdgmklmaaDoorW.PrintLast Go.Proofs.YtfpmompdgmklmaaDoorW.PrintMore
attribute [local go_sem] max2_int min2_int max_two min_two max_three min_three max_four min_four   -- for this text's walks alone
set_option linter.unusedVariables false
set_option linter.unusedSimpArgs false
/-! ### colophonref10_Get: function 25 -/
def colophonref10_Get.l0 : Nat → ByteArray → Int → Int → Bool → ByteArray → List (S25) → List ByteArray → Option (Int × Bool × ByteArray × (List (S25)) × List ByteArray × Bool)
 | 0, _, _, _, _, _, _, _ => none
 | k + 1, x1, x6, rj_, rz_, rq_, wd_, VG_ => if x6 ≥ 0 then (if 0 ≤ x6 then (if x6 < (VG_.length : Int) then (if (rdOf ByteArray.empty VG_ x6).toList = x1.toList then (if x6 < (wd_.length : Int) then ((colophonref10_Copy.f k ((qj_ wd_ x6).f0) ((qj_ wd_ x6).f1) ((qj_ wd_ x6).f2) ((qj_ wd_ x6).f3) ((qj_ wd_ x6).f4)).bind fun D4_ => (some (D4_.1, D4_.2.1, D4_.2.2.1, D4_.2.2.2.1, D4_.2.2.2.2, true))) else (none)) else (colophonref10_Get.l0 k x1 (wrap64 (x6 - 1)) rj_ rz_ rq_ wd_ VG_)) else (none)) else (none)) else (some (0, false, (⟨#[]⟩ : ByteArray), ([] : List (S25)), ([] : List ByteArray), false))
def colophonref10_Get.f (k : Nat) (z1_ : Int) (z5_ : Bool) (z3_ : ByteArray) (z0_ : List (S25)) (z2_ : List ByteArray) (a1 : ByteArray) : Option (Int × Bool × ByteArray × (List (S25)) × List ByteArray × Bool) := if z1_ = 5 then (colophonref10_Get.l0 k a1 (wrap64 ((mn (z2_.length : Int) (z0_.length : Int)) - 1)) z1_ z5_ z3_ z0_ z2_) else (some (0, false, (⟨#[]⟩ : ByteArray), ([] : List (S25)), ([] : List ByteArray), false))
theorem colophonref10_Get.mono_l : ∀ k, (∀ y0 y1 y2 y3 y4 y5 y6, LeO (colophonref10_Get.l0 k y0 y1 y2 y3 y4 y5 y6) (colophonref10_Get.l0 (k + 1) y0 y1 y2 y3 y4 y5 y6))
 | 0 => fun _ _ _ _ _ _ _ r h => by simp [colophonref10_Get.l0] at h
 | k + 1 => by
  have ih0 := colophonref10_Get.mono_l k
  ·
   intro y0 y1 y2 y3 y4 y5 y6
   unfold colophonref10_Get.l0
   repeat' first
   | (with_reducible exact ih0 _ _ _ _ _ _ _)
   | (with_reducible exact colophonref10_Copy.mono _ _ _ _ _ _)
   | (with_reducible exact LeO.refl _)
   | (with_reducible exact LeO.none _)
   | (with_reducible refine LeO.ite ?_ ?_)
   | (with_reducible refine LeO.bind ?_ (fun _ => ?_))
   | exact ih0 _ _ _ _ _ _ _
   | exact colophonref10_Copy.mono _ _ _ _ _ _
   | exact LeO.none _
   | refine LeO.ite ?_ ?_
   | refine LeO.bind ?_ (fun _ => ?_)
theorem colophonref10_Get.mono : ∀ a0 a1 a2 a3 a4 a5 k, LeO (colophonref10_Get.f k a0 a1 a2 a3 a4 a5) (colophonref10_Get.f (k + 1) a0 a1 a2 a3 a4 a5) := by
 intro a0 a1 a2 a3 a4 a5 k
 have ih0 := colophonref10_Get.mono_l k
 unfold colophonref10_Get.f
 repeat' first
   | (with_reducible exact ih0 _ _ _ _ _ _ _)
   | (with_reducible exact colophonref10_Copy.mono _ _ _ _ _ _)
   | (with_reducible exact LeO.refl _)
   | (with_reducible exact LeO.none _)
   | (with_reducible refine LeO.ite ?_ ?_)
   | (with_reducible refine LeO.bind ?_ (fun _ => ?_))
   | exact ih0 _ _ _ _ _ _ _
   | exact colophonref10_Copy.mono _ _ _ _ _ _
   | exact LeO.none _
   | refine LeO.ite ?_ ?_
   | refine LeO.bind ?_ (fun _ => ?_)
set_option maxHeartbeats 8000000 in
set_option maxRecDepth 100000 in
theorem colophonref10_Get.calls (k : Nat) (z1_ : Int) (z5_ : Bool) (z3_ : ByteArray) (zj_ : Option Addr) (z9_ : Nat) (z0_ : List (S25)) (zz_ : Option Addr) (zq_ : Nat) (z2_ : List ByteArray) (a1 : ByteArray) (r1 : Int) (r2 : Bool) (r3 : ByteArray) (r4 : List (S25)) (r5 : List ByteArray) (r6 : Bool) (w : World) (jk_ : Kd.C k25 w zj_ z0_.length z0_) (jv_ : z0_.length ≤ z9_) (jx_ : Kd.C Kd.string w zz_ z2_.length z2_) (jy_ : z2_.length ≤ zq_) (h : colophonref10_Get.f k z1_ z5_ z3_ z0_ z2_ a1 = some (r1, r2, r3, r4, r5, r6)) :
  Calls Tryd.prog 25 #[.agg #[.int .i64 z1_, .bool z5_, .string z3_, .slice zj_ z0_.length z9_, .slice zz_ z2_.length zq_], .string a1] w fun e w' => ∃ v3_ v4_ : Value, e = .returned (.tuple #[.agg #[.int .i64 r1, .bool r2, .string r3, v3_, v4_], .bool r6]) ∧ Kd.R k25 25 w' w.heap.size (fun k_ => some k_ ≠ (v4_ : Value).ownBlock) v3_ r4 ∧ Kd.R Kd.string 9 w' w.heap.size (fun _ => True) v4_ r5 ∧ Below w.heap.size w w' := by
 have kP_ := Tryd.underlying25
 have x3_ := q0_.mk jk_
 have k4_ := q0_.mk jv_
 clear jk_ jv_
 have xX_ := q0_.mk jx_
 have xr_ := q0_.mk jy_
 clear jx_ jy_
 have HB := q0_.mk (Below.refl w.heap.size w)
 have H : (if z1_ = 5 then (colophonref10_Get.l0 k a1 (wrap64 ((mn (z2_.length : Int) (z0_.length : Int)) - 1)) z1_ z5_ z3_ z0_ z2_) else (some (0, false, (⟨#[]⟩ : ByteArray), ([] : List (S25)), ([] : List ByteArray), false))) = some (r1, r2, r3, r4, r5, r6) := h
 clear h
 by_cases c3 : z1_ = 5
 ·
  rw [if_pos c3] at H
  have Z5_ : (z1_ == 5) = true := beq_iff_eq.mpr c3
  have Kg_ : (z1_ != 5) = false := bne_eq_false_iff_eq.mpr c3
  clear c3
  obtain ⟨ji4, WK_⟩ : ∃ j_ : Int, (mn (z2_.length : Int) (z0_.length : Int)) = j_ := ⟨_, rfl⟩
  replace H : (colophonref10_Get.l0 k a1 (wrap64 ((ji4) - 1)) z1_ z5_ z3_ z0_ z2_) = some (r1, r2, r3, r4, r5, r6) := by first | (rw [WK_] at H; exact H) | (simp only [WK_] at H ⊢; exact H)
  (try (have hji4l : 0 ≤ ji4 := by (rw [← WK_]; unfold mn; (repeat' split) <;> omega)))
  (try (have hji4m : 0 ≤ ji4 := by omega))
  have hji4_ : (if (z0_.length : Int) < (z2_.length : Int) then (z0_.length : Int) else (z2_.length : Int)) = ji4 := WK_
  have hji4_n : (if z0_.length < z2_.length then (z0_.length : Int) else (z2_.length : Int)) = ji4 := by rw [← hji4_]; simp only [Int.ofNat_lt]
  have H' := q0_.mk H
  clear H
  go_enter Tryd.func25, Tryd.ntmps25
  go_wp2_with (first | ((with_reducible refine qZ_ (N := 2) rfl ?_); refine qJ_ ?hg (N := 2) ?hd (cs := #[.int .i64 z1_, .bool z5_, .string z3_, .slice zj_ z0_.length z9_, .slice zz_ z2_.length zq_]) (t := 25) ?hr ?_; (case hd => rfl); (case hg => rfl); (case hr => first | (go_simp; done) | (go_simp; rfl)); intro jr_ hg w5 hbox hb; have n0_ := q0_.mk (q4_ (by repeat (first | (with_reducible first | exact HB.out | apply q6_ | apply q5_ | apply q7_) | exact HB.out)) hb); have n1_ := q0_.mk (hbox); have n2_ := q0_.mk ((by rw [hg]; exact (qw_ (by repeat (first | (with_reducible first | exact HB.out | apply q6_ | apply q5_ | apply q7_) | exact HB.out))) : w.heap.size ≤ jr_)); have n3_ := q0_.mk ((by rw [hg]; exact (qw_ (by repeat (first | (with_reducible first | exact HB.out | apply q6_ | apply q5_ | apply q7_) | exact HB.out))) : w.heap.size ≤ jr_)); clear HB; have HB := n0_; have j1_ := n1_; have GW261 := n2_; have QS_ := n3_; clear n0_ n1_ n2_ n3_; clear hb hbox hg) | ((with_reducible refine qZ_ (N := 4) rfl ?_); refine qJ_ ?hg (N := 4) ?hd (cs := #[.int .i64 0, .bool false, .string (⟨#[]⟩ : ByteArray), .slice none 0 0, .slice none 0 0]) (t := 25) ?hr ?_; (case hd => rfl); (case hg => rfl); (case hr => first | (go_simp; done) | (go_simp; rfl)); intro jh_ hg w6 hbox hb; have n0_ := q0_.mk (q2_ (g := jr_) (o := .cells #[.int .i64 z1_, .bool z5_, .string z3_, .slice zj_ z0_.length z9_, .slice zz_ z2_.length zq_] 25 (0, 0)) (by (with_reducible repeat (first | refine q9_ ?_ _ | refine qz_ ?_ | refine q8_ ?_ _)); exact j1_.out) hb); have n1_ := q0_.mk (q4_ (by repeat (first | (with_reducible first | exact HB.out | apply q6_ | apply q5_ | apply q7_ | refine qq_ ?_ QS_.out) | exact HB.out)) hb); have n2_ := q0_.mk (hbox); have n3_ := q0_.mk ((by rw [hg]; exact (qw_ (by repeat (first | (with_reducible first | exact HB.out | apply q6_ | apply q5_ | apply q7_ | refine qq_ ?_ QS_.out) | exact HB.out))) : w.heap.size ≤ jh_)); have n4_ := q0_.mk ((by rw [hg]; exact (qw_ (by repeat (first | (with_reducible first | exact HB.out | apply q6_ | apply q5_ | apply q7_ | refine qq_ ?_ QS_.out) | exact HB.out))) : w.heap.size ≤ jh_)); have n5_ := q0_.mk ((by rw [hg]; exact Nat.ne_of_lt (qY_ (g := jr_) (o := .cells #[.int .i64 z1_, .bool z5_, .string z3_, .slice zj_ z0_.length z9_, .slice zz_ z2_.length zq_] 25 (0, 0)) (by (with_reducible repeat (first | refine q9_ ?_ _ | refine qz_ ?_ | refine q8_ ?_ _)); exact j1_.out)) : jr_ ≠ jh_)); have n6_ := q0_.mk ((by rw [hg]; exact Nat.ne_of_gt (qY_ (g := jr_) (o := .cells #[.int .i64 z1_, .bool z5_, .string z3_, .slice zj_ z0_.length z9_, .slice zz_ z2_.length zq_] 25 (0, 0)) (by (with_reducible repeat (first | refine q9_ ?_ _ | refine qz_ ?_ | refine q8_ ?_ _)); exact j1_.out)) : jh_ ≠ jr_)); clear j1_; clear HB; have j1_ := n0_; have HB := n1_; have jY_ := n2_; have GW262 := n3_; have Ys_ := n4_; have y6_ := n5_; have y5_ := n6_; clear n0_ n1_ n2_ n3_ n4_ n5_ n6_; clear hb hbox hg; have hnb7 := y6_.out; have hnc7 := y5_.out; have dz_ : w6.cell? ⟨jr_, 0, none⟩ = some (.int .i64 z1_) := (q1_ j1_.out 0).trans rfl; have dq_ : w6.cell? ⟨jr_, 1, none⟩ = some (.bool z5_) := (q1_ j1_.out 1).trans rfl; have d9_ : w6.cell? ⟨jr_, 2, none⟩ = some (.string z3_) := (q1_ j1_.out 2).trans rfl; have d8_ : w6.cell? ⟨jr_, 3, none⟩ = some (.slice zj_ z0_.length z9_) := (q1_ j1_.out 3).trans rfl; have d7_ : w6.cell? ⟨jr_, 4, none⟩ = some (.slice zz_ z2_.length zq_) := (q1_ j1_.out 4).trans rfl; have Bh_ := q3_ j1_.out 0; have BG_ := q3_ j1_.out 1; have Bg_ := q3_ j1_.out 2; have BW_ := q3_ j1_.out 3; have BV_ := q3_ j1_.out 4))
  go_loopg [6] k (fun kq v6 w' => ∃ (x0_ : Int) (xh_ : Int) (x8_ : Bool) (jW_ : ByteArray), v6 = .int .i64 x0_ ∧ q0_ (colophonref10_Get.l0 kq a1 x0_ z1_ z5_ z3_ z0_ z2_ = some (r1, r2, r3, r4, r5, r6)) ∧ q0_ (kq ≤ k) ∧ q0_ (w'.heap[jr_]? = some (.cells #[.int .i64 z1_, .bool z5_, .string z3_, (.slice zj_ z0_.length z9_), (.slice zz_ z2_.length zq_)] 25 (0, 0))) ∧ q0_ (w'.heap[jh_]? = some (.cells #[.int .i64 xh_, .bool x8_, .string jW_, (.slice none 0 0), (.slice none 0 0)] 25 (0, 0))) ∧ q0_ (Below w.heap.size w w'))
  case atStart => exact ⟨(wrap64 ((ji4) - 1)), (0), (false), ((⟨#[]⟩ : ByteArray)), (by first | rfl | (simp; done) | (simp only [← WK_] <;> (first | rfl | simp)) | (simp [*]; done)), H', ⟨Nat.le_refl _⟩, ⟨by (with_reducible repeat (first | refine q9_ ?_ _ | refine qz_ ?_ | refine q8_ ?_ _)); exact j1_.out⟩, ⟨by (with_reducible repeat (first | refine q9_ ?_ _ | refine qz_ ?_ | refine q8_ ?_ _)); exact jY_.out⟩, ⟨by repeat (first | (with_reducible first | exact HB.out | apply q6_ | apply q5_ | apply q7_ | refine qq_ ?_ QS_.out | refine qq_ ?_ Ys_.out) | exact HB.out)⟩⟩
  case round =>
   clear H'
   try clear c2
   try clear p2
   try clear c3
   try clear Z5_
   try clear Kg_
   try clear p6
   try clear c7
   try clear dz_
   try clear dq_
   try clear d9_
   try clear d8_
   try clear d7_
   try clear Bh_
   try clear BG_
   try clear Bg_
   try clear BW_
   try clear BV_
   obtain ⟨x0_, xh_, x8_, jW_, rfl, HA, HK1, j1_, jY_, HB⟩ := hrel
   cases gk with
   | zero => exact absurd HA.out (by simp [colophonref10_Get.l0])
   | succ k1 =>
    have H := HA.out
    clear HA
    simp only [colophonref10_Get.l0] at H
    by_cases c9 : x0_ ≥ 0
    ·
     rw [if_pos c9] at H
     have r3_ : decide (0 ≤ x0_) = true := decide_eq_true c9
     clear c9
     by_cases c10 : 0 ≤ x0_
     ·
      rw [if_pos c10] at H
      have dS_ : decide (0 ≤ x0_) = true := decide_eq_true c10
      clear c10
      by_cases c11 : x0_ < (z2_.length : Int)
      ·
       rw [if_pos c11] at H
       have Vw_ : decide (x0_ < (z2_.length : Int)) = true := decide_eq_true c11
       clear c11
       by_cases c12 : (rdOf ByteArray.empty z2_ x0_).toList = a1.toList
       ·
        rw [if_pos c12] at H
        have dR_ : ((rdOf ByteArray.empty z2_ x0_).toList == a1.toList) = true := beq_iff_eq.mpr c12
        have c12b1 : ((rdOf ByteArray.empty z2_ x0_).toList != a1.toList) = false := bne_eq_false_iff_eq.mpr c12
        clear c12
        by_cases c13 : x0_ < (z0_.length : Int)
        ·
         rw [if_pos c13] at H
         have c13b0 : decide (x0_ < (z0_.length : Int)) = true := decide_eq_true c13
         clear c13
         replace H := Option.bind_eq_some_iff.mp H
         obtain ⟨⟨p4_, Pp_, rH_, t268, t271⟩, A140, H⟩ := H
         replace H : (some (p4_, Pp_, rH_, t268, t271, true)) = some (r1, r2, r3, r4, r5, r6) := H
         have A14 := q0_.mk A140
         clear A140
         simp only [Option.some.injEq, Prod.mk.injEq] at H
         obtain ⟨rfl, rfl, rfl, rfl, rfl, rfl⟩ := H
         have hnb15 := y6_.out
         have hnc15 := y5_.out
         have Qs_ : wr.cell? ⟨jr_, 0, none⟩ = some (.int .i64 z1_) := (q1_ j1_.out 0).trans rfl
         have QR_ : wr.cell? ⟨jr_, 1, none⟩ = some (.bool z5_) := (q1_ j1_.out 1).trans rfl
         have Qr_ : wr.cell? ⟨jr_, 2, none⟩ = some (.string z3_) := (q1_ j1_.out 2).trans rfl
         have QP_ : wr.cell? ⟨jr_, 3, none⟩ = some (.slice zj_ z0_.length z9_) := (q1_ j1_.out 3).trans rfl
         have Qp_ : wr.cell? ⟨jr_, 4, none⟩ = some (.slice zz_ z2_.length zq_) := (q1_ j1_.out 4).trans rfl
         have QD_ := q3_ j1_.out 0
         have Qd_ := q3_ j1_.out 1
         have QB_ := q3_ j1_.out 2
         have Qb_ := q3_ j1_.out 3
         have QF_ := q3_ j1_.out 4
         have R3_ : 0 ≤ (x0_ : Int) := of_decide_eq_true (by first | (with_reducible assumption) | assumption)
         have rd_ : x0_ < (z2_.length : Int) := of_decide_eq_true (by first | (with_reducible assumption) | assumption)
         obtain ⟨ad263, e263, Q4_⟩ := Kd.at_string xX_.out x0_ R3_ rd_
         cases e263
         replace Q4_ := (HB.out.cell (World.block_lt_of_cell? w _ Q4_)).trans Q4_
         replace R3_ := eq_true R3_
         replace rd_ := eq_true rd_
         have p264 : 0 ≤ (x0_ : Int) := of_decide_eq_true (by first | (with_reducible assumption) | assumption)
         have q264 : x0_ < (z0_.length : Int) := of_decide_eq_true (by first | (with_reducible assumption) | assumption)
         obtain ⟨ad264, A264_3, c264_3, A264_4, c264_4, e264, W7_, W6_, W5_, W4_, W3_, B5_, By_, B4_, Bk_⟩ := at_T25 x3_.out x0_ p264 q264
         cases e264
         replace W7_ := (HB.out.cell (World.block_lt_of_cell? w _ W7_)).trans W7_
         replace W6_ := (HB.out.cell (World.block_lt_of_cell? w _ W6_)).trans W6_
         replace W5_ := (HB.out.cell (World.block_lt_of_cell? w _ W5_)).trans W5_
         replace W4_ := (HB.out.cell (World.block_lt_of_cell? w _ W4_)).trans W4_
         replace W3_ := (HB.out.cell (World.block_lt_of_cell? w _ W3_)).trans W3_
         have HR264_3 := q0_.mk By_
         have HC264_3 := q0_.mk B5_
         clear By_ B5_
         have HR264_4 := q0_.mk Bk_
         have HC264_4 := q0_.mk B4_
         clear Bk_ B4_
         replace p264 := eq_true p264
         replace q264 := eq_true q264
         go_wp2_with (first | ((with_reducible refine qh_ (f := 15) rfl ?_); refine goesL_ (some 35) rfl rfl Tryd.func15 (by kernel_rfl) rfl #[.agg #[.int .i64 ((qj_ z0_ x0_).f0), .bool ((qj_ z0_ x0_).f1), .string ((qj_ z0_ x0_).f2), .slice A264_3 ((qj_ z0_ x0_).f3).length c264_3, .slice A264_4 ((qj_ z0_ x0_).f4).length c264_4]] rfl (by (try simp only [List.map_toArray, List.map_cons, List.map_nil]); first | done | rfl | (simp only [List.length_drop, List.length_take]; rfl)) ?_; (with_reducible refine (colophonref10_Copy.calls k1 ((qj_ z0_ x0_).f0) ((qj_ z0_ x0_).f1) ((qj_ z0_ x0_).f2) _ _ ((qj_ z0_ x0_).f3) _ _ ((qj_ z0_ x0_).f4) p4_ Pp_ rH_ t268 t271 _ ?zQ_ ?zZ_ ?zY_ ?zK_ A14.out).mono ?_); (case zQ_ => repeat (first | exact (Kd.qD_ HR264_3.out HB.out) | (with_reducible refine Kd.qP_ ?_ _) | (with_reducible refine Kd.qr_ ?_ _) | (with_reducible refine Kd.qR_ ?_))); (case zZ_ => exact HC264_3.out); (case zY_ => repeat (first | exact (Kd.qD_ HR264_4.out HB.out) | (with_reducible refine Kd.qP_ ?_ _) | (with_reducible refine Kd.qr_ ?_ _) | (with_reducible refine Kd.qR_ ?_))); (case zK_ => exact HC264_4.out); rintro e w17 ⟨v269, v272, rfl, ho0, ho1, hb⟩; refine ⟨_, rfl, ?_⟩; have n0_ := q0_.mk (Kd.R_lower (Kd.R_newB (Kd.R_newB ho0 (g := jr_) (o := .cells #[.int .i64 z1_, .bool z5_, .string z3_, .slice (some ad264) z0_.length z9_, .slice (some ad263) z2_.length zq_] 25 (0, 0)) (by (with_reducible repeat (first | refine q9_ ?_ _ | refine qz_ ?_ | refine q8_ ?_ _)); exact j1_.out)) (g := jh_) (o := .cells #[.int .i64 xh_, .bool x8_, .string jW_, .slice none 0 0, .slice none 0 0] 25 (0, 0)) (by (with_reducible repeat (first | refine q9_ ?_ _ | refine qz_ ?_ | refine q8_ ?_ _)); exact jY_.out)) (qw_ (by repeat (first | (with_reducible first | exact HB.out | apply q6_ | apply q5_ | apply q7_ | refine qq_ ?_ QS_.out | refine qq_ ?_ Ys_.out) | exact HB.out)))); have n1_ := q0_.mk (Kd.R_lower ho1 (qw_ (by repeat (first | (with_reducible first | exact HB.out | apply q6_ | apply q5_ | apply q7_ | refine qq_ ?_ QS_.out | refine qq_ ?_ Ys_.out) | exact HB.out)))); have n2_ := q0_.mk (q2_ (g := jr_) (o := .cells #[.int .i64 z1_, .bool z5_, .string z3_, .slice (some ad264) z0_.length z9_, .slice (some ad263) z2_.length zq_] 25 (0, 0)) (by (with_reducible repeat (first | refine q9_ ?_ _ | refine qz_ ?_ | refine q8_ ?_ _)); exact j1_.out) hb); have n3_ := q0_.mk (q2_ (g := jh_) (o := .cells #[.int .i64 xh_, .bool x8_, .string jW_, .slice none 0 0, .slice none 0 0] 25 (0, 0)) (by (with_reducible repeat (first | refine q9_ ?_ _ | refine qz_ ?_ | refine q8_ ?_ _)); exact jY_.out) hb); have n4_ := q0_.mk (q4_ (by repeat (first | (with_reducible first | exact HB.out | apply q6_ | apply q5_ | apply q7_ | refine qq_ ?_ QS_.out | refine qq_ ?_ Ys_.out) | exact HB.out)) hb); clear j1_; clear jY_; clear HB; have HO270 := n0_; have HO273 := n1_; have j1_ := n2_; have jY_ := n3_; have HB := n4_; clear n0_ n1_ n2_ n3_ n4_; (try clear hb); (try clear hb2); (try clear hk); (try clear hi); (try clear ho0); (try clear ho1); have kf_ : w17.cell? ⟨jh_, 0, none⟩ = some (.int .i64 xh_) := (q1_ jY_.out 0).trans rfl; have kH_ : w17.cell? ⟨jh_, 1, none⟩ = some (.bool x8_) := (q1_ jY_.out 1).trans rfl; have kh_ : w17.cell? ⟨jh_, 2, none⟩ = some (.string jW_) := (q1_ jY_.out 2).trans rfl; have kG_ : w17.cell? ⟨jh_, 3, none⟩ = some (.slice none 0 0) := (q1_ jY_.out 3).trans rfl; have kg_ : w17.cell? ⟨jh_, 4, none⟩ = some (.slice none 0 0) := (q1_ jY_.out 4).trans rfl; have kW_ := q3_ jY_.out 0; have kV_ := q3_ jY_.out 1; have kY_ := q3_ jY_.out 2; have kK_ := q3_ jY_.out 3; have kX_ := q3_ jY_.out 4; obtain ⟨PY_, pk_, eo19⟩ := Kd.qp_ HO270.out; subst eo19; obtain ⟨PK_, px_, eo20⟩ := Kd.qp_ HO273.out; subst eo20))
         refine bodyPost_ret (results_ct rfl _ _ jh_ 25 #[.int .i64 p4_, .bool Pp_, .string rH_, .slice PY_ t268.length pk_, .slice PK_ t271.length px_] (0, 0) _ rfl (by (with_reducible repeat (first | refine q9_ ?_ _ | refine qz_ ?_ | refine q8_ ?_ _)); refine qv_ (cs := #[.int .i64 p4_, .bool Pp_, .string rH_, .slice PY_ t268.length pk_, .slice none 0 0]) ?_ 4 _ rfl; (with_reducible repeat (first | refine q9_ ?_ _ | refine qz_ ?_ | refine q8_ ?_ _)); refine qv_ (cs := #[.int .i64 p4_, .bool Pp_, .string rH_, .slice none 0 0, .slice none 0 0]) ?_ 3 _ rfl; (with_reducible repeat (first | refine q9_ ?_ _ | refine qz_ ?_ | refine q8_ ?_ _)); refine qv_ (cs := #[.int .i64 p4_, .bool Pp_, .string jW_, .slice none 0 0, .slice none 0 0]) ?_ 2 _ rfl; (with_reducible repeat (first | refine q9_ ?_ _ | refine qz_ ?_ | refine q8_ ?_ _)); refine qv_ (cs := #[.int .i64 p4_, .bool x8_, .string jW_, .slice none 0 0, .slice none 0 0]) ?_ 1 _ rfl; (with_reducible repeat (first | refine q9_ ?_ _ | refine qz_ ?_ | refine q8_ ?_ _)); refine qv_ (cs := #[.int .i64 xh_, .bool x8_, .string jW_, .slice none 0 0, .slice none 0 0]) ?_ 0 _ rfl; (with_reducible repeat (first | refine q9_ ?_ _ | refine qz_ ?_ | refine q8_ ?_ _)); exact jY_.out) Tryd.underlying25 rfl (by kernel_rfl)) rfl ?_
         exact ⟨_, _, by first | rfl | (simp [qk_, qy_] <;> rfl) | (simp [qk_, qy_] <;> decide +kernel) | (simp only [← WK_]; first | rfl | (simp [qk_, qy_] <;> rfl) | (simp [qk_, qy_] <;> decide +kernel)) | (simp [*, qk_, qy_] <;> rfl), by (with_reducible repeat (first | apply Kd.R_alloc | apply Kd.R_drewN | apply Kd.R_drew)); exact Kd.qd_ (Kd.qs_ (p := ⟨jh_, 4, none⟩) (Kd.qs_ (p := ⟨jh_, 3, none⟩) (Kd.qs_ (p := ⟨jh_, 2, none⟩) (Kd.qs_ (p := ⟨jh_, 1, none⟩) (Kd.qs_ (p := ⟨jh_, 0, none⟩) (Kd.qd_ HO270.out (fun k_ hk => (⟨hk, hk.2⟩ : _ ∧ k_ ≠ jh_))) (fun _ hk => hk.2) (.int .i64 p4_)) (fun _ hk => hk.2) (.bool Pp_)) (fun _ hk => hk.2) (.string rH_)) (fun _ hk => hk.2) (.slice PY_ t268.length pk_)) (fun _ hk => hk.2) (.slice PK_ t271.length px_)) (fun _ hk => hk.1.1.1), by (with_reducible repeat (first | apply Kd.R_alloc | apply Kd.R_drewN | apply Kd.R_drew)); exact Kd.qd_ (Kd.qs_ (p := ⟨jh_, 4, none⟩) (Kd.qs_ (p := ⟨jh_, 3, none⟩) (Kd.qs_ (p := ⟨jh_, 2, none⟩) (Kd.qs_ (p := ⟨jh_, 1, none⟩) (Kd.qs_ (p := ⟨jh_, 0, none⟩) (Kd.R_types HO273.out jY_.out (by decide)) (fun _ hk => hk.2) (.int .i64 p4_)) (fun _ hk => hk.2) (.bool Pp_)) (fun _ hk => hk.2) (.string rH_)) (fun _ hk => hk.2) (.slice PY_ t268.length pk_)) (fun _ hk => hk.2) (.slice PK_ t271.length px_)) (fun _ hk => trivial), by repeat (first | (with_reducible first | exact HB.out | apply q6_ | apply q5_ | apply q7_ | refine qq_ ?_ QS_.out | refine qq_ ?_ Ys_.out) | exact HB.out)⟩
        ·
         rw [if_neg c13] at H
         exact absurd H (by simp)
       ·
        rw [if_neg c12] at H
        have dR_ : ((rdOf ByteArray.empty z2_ x0_).toList == a1.toList) = false := beq_eq_false_iff_ne.mpr c12
        have c12b1 : ((rdOf ByteArray.empty z2_ x0_).toList != a1.toList) = true := bne_iff_ne.mpr c12
        have H' := q0_.mk H
        clear H
        have hnb21 := y6_.out
        have hnc21 := y5_.out
        have Xs_ : wr.cell? ⟨jr_, 0, none⟩ = some (.int .i64 z1_) := (q1_ j1_.out 0).trans rfl
        have XR_ : wr.cell? ⟨jr_, 1, none⟩ = some (.bool z5_) := (q1_ j1_.out 1).trans rfl
        have Xr_ : wr.cell? ⟨jr_, 2, none⟩ = some (.string z3_) := (q1_ j1_.out 2).trans rfl
        have XP_ : wr.cell? ⟨jr_, 3, none⟩ = some (.slice zj_ z0_.length z9_) := (q1_ j1_.out 3).trans rfl
        have Xp_ : wr.cell? ⟨jr_, 4, none⟩ = some (.slice zz_ z2_.length zq_) := (q1_ j1_.out 4).trans rfl
        have Xy_ := q3_ j1_.out 0
        have Xk_ := q3_ j1_.out 1
        have Xx_ := q3_ j1_.out 2
        have Xj_ := q3_ j1_.out 3
        have Xz_ := q3_ j1_.out 4
        have R3_ : 0 ≤ (x0_ : Int) := of_decide_eq_true (by first | (with_reducible assumption) | assumption)
        have rd_ : x0_ < (z2_.length : Int) := of_decide_eq_true (by first | (with_reducible assumption) | assumption)
        obtain ⟨ad263, e263, Q4_⟩ := Kd.at_string xX_.out x0_ R3_ rd_
        cases e263
        replace Q4_ := (HB.out.cell (World.block_lt_of_cell? w _ Q4_)).trans Q4_
        replace R3_ := eq_true R3_
        replace rd_ := eq_true rd_
        go_wp2
        go_roundg k1
        case measure => have := HK1.out; omega
        case rel => exact ⟨(wrap64 (x0_ - 1)), (xh_), (x8_), (jW_), (by first | rfl | (simp; done) | (simp [*]; done)), H', ⟨by have := HK1.out; omega⟩, ⟨by (with_reducible repeat (first | refine q9_ ?_ _ | refine qz_ ?_ | refine q8_ ?_ _)); exact j1_.out⟩, ⟨by (with_reducible repeat (first | refine q9_ ?_ _ | refine qz_ ?_ | refine q8_ ?_ _)); exact jY_.out⟩, ⟨by repeat (first | (with_reducible first | exact HB.out | apply q6_ | apply q5_ | apply q7_ | refine qq_ ?_ QS_.out | refine qq_ ?_ Ys_.out) | exact HB.out)⟩⟩
      ·
       rw [if_neg c11] at H
       exact absurd H (by simp)
     ·
      rw [if_neg c10] at H
      exact absurd H (by simp)
    ·
     rw [if_neg c9] at H
     have r3_ : decide (0 ≤ x0_) = false := decide_eq_false c9
     clear c9
     simp only [Option.some.injEq, Prod.mk.injEq] at H
     obtain ⟨rfl, rfl, rfl, rfl, rfl, rfl⟩ := H
     have hnb23 := y5_.out
     have hnc23 := y6_.out
     have wq_ : wr.cell? ⟨jh_, 0, none⟩ = some (.int .i64 xh_) := (q1_ jY_.out 0).trans rfl
     have w9_ : wr.cell? ⟨jh_, 1, none⟩ = some (.bool x8_) := (q1_ jY_.out 1).trans rfl
     have w8_ : wr.cell? ⟨jh_, 2, none⟩ = some (.string jW_) := (q1_ jY_.out 2).trans rfl
     have w7_ : wr.cell? ⟨jh_, 3, none⟩ = some (.slice none 0 0) := (q1_ jY_.out 3).trans rfl
     have w6_ : wr.cell? ⟨jh_, 4, none⟩ = some (.slice none 0 0) := (q1_ jY_.out 4).trans rfl
     have vb_ := q3_ jY_.out 0
     have vF_ := q3_ jY_.out 1
     have vf_ := q3_ jY_.out 2
     have vH_ := q3_ jY_.out 3
     have vh_ := q3_ jY_.out 4
     go_wp2
     refine bodyPost_ret (results_ct rfl _ _ jh_ 25 #[.int .i64 0, .bool false, .string (⟨#[]⟩ : ByteArray), .slice none 0 0, .slice none 0 0] (0, 0) _ rfl (by (with_reducible repeat (first | refine q9_ ?_ _ | refine qz_ ?_ | refine q8_ ?_ _)); refine qv_ (cs := #[.int .i64 0, .bool false, .string (⟨#[]⟩ : ByteArray), .slice none 0 0, .slice none 0 0]) ?_ 4 _ rfl; (with_reducible repeat (first | refine q9_ ?_ _ | refine qz_ ?_ | refine q8_ ?_ _)); refine qv_ (cs := #[.int .i64 0, .bool false, .string (⟨#[]⟩ : ByteArray), .slice none 0 0, .slice none 0 0]) ?_ 3 _ rfl; (with_reducible repeat (first | refine q9_ ?_ _ | refine qz_ ?_ | refine q8_ ?_ _)); refine qv_ (cs := #[.int .i64 0, .bool false, .string jW_, .slice none 0 0, .slice none 0 0]) ?_ 2 _ rfl; (with_reducible repeat (first | refine q9_ ?_ _ | refine qz_ ?_ | refine q8_ ?_ _)); refine qv_ (cs := #[.int .i64 0, .bool x8_, .string jW_, .slice none 0 0, .slice none 0 0]) ?_ 1 _ rfl; (with_reducible repeat (first | refine q9_ ?_ _ | refine qz_ ?_ | refine q8_ ?_ _)); refine qv_ (cs := #[.int .i64 xh_, .bool x8_, .string jW_, .slice none 0 0, .slice none 0 0]) ?_ 0 _ rfl; (with_reducible repeat (first | refine q9_ ?_ _ | refine qz_ ?_ | refine q8_ ?_ _)); exact jY_.out) Tryd.underlying25 rfl (by kernel_rfl)) rfl ?_
     exact ⟨_, _, by first | rfl | (simp [qk_, qy_] <;> rfl) | (simp [qk_, qy_] <;> decide +kernel) | (simp only [← WK_]; first | rfl | (simp [qk_, qy_] <;> rfl) | (simp [qk_, qy_] <;> decide +kernel)) | (simp [*, qk_, qy_] <;> rfl), by first | exact Kd.R_nil _ _ _ _ _ | exact Kd.N_nil _ _ _ _ _ | exact Kd.V_nil _ _ _ _ _ | exact Kd.Q_nil _ _ _ _ _ | exact Kd.S_nil _ _ _ _ _, by first | exact Kd.R_nil _ _ _ _ _ | exact Kd.N_nil _ _ _ _ _ | exact Kd.V_nil _ _ _ _ _ | exact Kd.Q_nil _ _ _ _ _ | exact Kd.S_nil _ _ _ _ _, by repeat (first | (with_reducible first | exact HB.out | apply q6_ | apply q5_ | apply q7_ | refine qq_ ?_ QS_.out | refine qq_ ?_ Ys_.out) | exact HB.out)⟩
 ·
  rw [if_neg c3] at H
  have Z5_ : (z1_ == 5) = false := beq_eq_false_iff_ne.mpr c3
  have Kg_ : (z1_ != 5) = true := bne_iff_ne.mpr c3
  simp only [Option.some.injEq, Prod.mk.injEq] at H
  obtain ⟨rfl, rfl, rfl, rfl, rfl, rfl⟩ := H
  go_enter Tryd.func25, Tryd.ntmps25
  go_wp2_with (first | ((with_reducible refine qZ_ (N := 2) rfl ?_); refine qJ_ ?hg (N := 2) ?hd (cs := #[.int .i64 z1_, .bool z5_, .string z3_, .slice zj_ z0_.length z9_, .slice zz_ z2_.length zq_]) (t := 25) ?hr ?_; (case hd => rfl); (case hg => rfl); (case hr => first | (go_simp; done) | (go_simp; rfl)); intro jr_ hg w25 hbox hb; have n0_ := q0_.mk (q4_ (by repeat (first | (with_reducible first | exact HB.out | apply q6_ | apply q5_ | apply q7_) | exact HB.out)) hb); have n1_ := q0_.mk (hbox); have n2_ := q0_.mk ((by rw [hg]; exact (qw_ (by repeat (first | (with_reducible first | exact HB.out | apply q6_ | apply q5_ | apply q7_) | exact HB.out))) : w.heap.size ≤ jr_)); have n3_ := q0_.mk ((by rw [hg]; exact (qw_ (by repeat (first | (with_reducible first | exact HB.out | apply q6_ | apply q5_ | apply q7_) | exact HB.out))) : w.heap.size ≤ jr_)); clear HB; have HB := n0_; have j1_ := n1_; have GW261 := n2_; have QS_ := n3_; clear n0_ n1_ n2_ n3_; clear hb hbox hg) | ((with_reducible refine qZ_ (N := 4) rfl ?_); refine qJ_ ?hg (N := 4) ?hd (cs := #[.int .i64 0, .bool false, .string (⟨#[]⟩ : ByteArray), .slice none 0 0, .slice none 0 0]) (t := 25) ?hr ?_; (case hd => rfl); (case hg => rfl); (case hr => first | (go_simp; done) | (go_simp; rfl)); intro jh_ hg w26 hbox hb; have n0_ := q0_.mk (q2_ (g := jr_) (o := .cells #[.int .i64 z1_, .bool z5_, .string z3_, .slice zj_ z0_.length z9_, .slice zz_ z2_.length zq_] 25 (0, 0)) (by (with_reducible repeat (first | refine q9_ ?_ _ | refine qz_ ?_ | refine q8_ ?_ _)); exact j1_.out) hb); have n1_ := q0_.mk (q4_ (by repeat (first | (with_reducible first | exact HB.out | apply q6_ | apply q5_ | apply q7_ | refine qq_ ?_ QS_.out) | exact HB.out)) hb); have n2_ := q0_.mk (hbox); have n3_ := q0_.mk ((by rw [hg]; exact (qw_ (by repeat (first | (with_reducible first | exact HB.out | apply q6_ | apply q5_ | apply q7_ | refine qq_ ?_ QS_.out) | exact HB.out))) : w.heap.size ≤ jh_)); have n4_ := q0_.mk ((by rw [hg]; exact (qw_ (by repeat (first | (with_reducible first | exact HB.out | apply q6_ | apply q5_ | apply q7_ | refine qq_ ?_ QS_.out) | exact HB.out))) : w.heap.size ≤ jh_)); have n5_ := q0_.mk ((by rw [hg]; exact Nat.ne_of_lt (qY_ (g := jr_) (o := .cells #[.int .i64 z1_, .bool z5_, .string z3_, .slice zj_ z0_.length z9_, .slice zz_ z2_.length zq_] 25 (0, 0)) (by (with_reducible repeat (first | refine q9_ ?_ _ | refine qz_ ?_ | refine q8_ ?_ _)); exact j1_.out)) : jr_ ≠ jh_)); have n6_ := q0_.mk ((by rw [hg]; exact Nat.ne_of_gt (qY_ (g := jr_) (o := .cells #[.int .i64 z1_, .bool z5_, .string z3_, .slice zj_ z0_.length z9_, .slice zz_ z2_.length zq_] 25 (0, 0)) (by (with_reducible repeat (first | refine q9_ ?_ _ | refine qz_ ?_ | refine q8_ ?_ _)); exact j1_.out)) : jh_ ≠ jr_)); clear j1_; clear HB; have j1_ := n0_; have HB := n1_; have jY_ := n2_; have GW262 := n3_; have Ys_ := n4_; have y6_ := n5_; have y5_ := n6_; clear n0_ n1_ n2_ n3_ n4_ n5_ n6_; clear hb hbox hg; have hnb27 := y6_.out; have hnc27 := y5_.out; have ZG_ : w26.cell? ⟨jr_, 0, none⟩ = some (.int .i64 z1_) := (q1_ j1_.out 0).trans rfl; have Zg_ : w26.cell? ⟨jr_, 1, none⟩ = some (.bool z5_) := (q1_ j1_.out 1).trans rfl; have ZW_ : w26.cell? ⟨jr_, 2, none⟩ = some (.string z3_) := (q1_ j1_.out 2).trans rfl; have ZV_ : w26.cell? ⟨jr_, 3, none⟩ = some (.slice zj_ z0_.length z9_) := (q1_ j1_.out 3).trans rfl; have ZY_ : w26.cell? ⟨jr_, 4, none⟩ = some (.slice zz_ z2_.length zq_) := (q1_ j1_.out 4).trans rfl; have ZK_ := q3_ j1_.out 0; have ZX_ := q3_ j1_.out 1; have ZJ_ := q3_ j1_.out 2; have ZZ_ := q3_ j1_.out 3; have ZQ_ := q3_ j1_.out 4; have w5_ : w26.cell? ⟨jh_, 0, none⟩ = some (.int .i64 0) := (q1_ jY_.out 0).trans rfl; have w4_ : w26.cell? ⟨jh_, 1, none⟩ = some (.bool false) := (q1_ jY_.out 1).trans rfl; have w3_ : w26.cell? ⟨jh_, 2, none⟩ = some (.string (⟨#[]⟩ : ByteArray)) := (q1_ jY_.out 2).trans rfl; have w2_ : w26.cell? ⟨jh_, 3, none⟩ = some (.slice none 0 0) := (q1_ jY_.out 3).trans rfl; have w1_ : w26.cell? ⟨jh_, 4, none⟩ = some (.slice none 0 0) := (q1_ jY_.out 4).trans rfl; have vG_ := q3_ jY_.out 0; have vg_ := q3_ jY_.out 1; have vW_ := q3_ jY_.out 2; have vV_ := q3_ jY_.out 3; have vY_ := q3_ jY_.out 4))
  refine bodyPost_ret (results_ct rfl _ _ jh_ 25 #[.int .i64 0, .bool false, .string (⟨#[]⟩ : ByteArray), .slice none 0 0, .slice none 0 0] (0, 0) _ rfl (by (with_reducible repeat (first | refine q9_ ?_ _ | refine qz_ ?_ | refine q8_ ?_ _)); refine qv_ (cs := #[.int .i64 0, .bool false, .string (⟨#[]⟩ : ByteArray), .slice none 0 0, .slice none 0 0]) ?_ 4 _ rfl; (with_reducible repeat (first | refine q9_ ?_ _ | refine qz_ ?_ | refine q8_ ?_ _)); refine qv_ (cs := #[.int .i64 0, .bool false, .string (⟨#[]⟩ : ByteArray), .slice none 0 0, .slice none 0 0]) ?_ 3 _ rfl; (with_reducible repeat (first | refine q9_ ?_ _ | refine qz_ ?_ | refine q8_ ?_ _)); refine qv_ (cs := #[.int .i64 0, .bool false, .string (⟨#[]⟩ : ByteArray), .slice none 0 0, .slice none 0 0]) ?_ 2 _ rfl; (with_reducible repeat (first | refine q9_ ?_ _ | refine qz_ ?_ | refine q8_ ?_ _)); refine qv_ (cs := #[.int .i64 0, .bool false, .string (⟨#[]⟩ : ByteArray), .slice none 0 0, .slice none 0 0]) ?_ 1 _ rfl; (with_reducible repeat (first | refine q9_ ?_ _ | refine qz_ ?_ | refine q8_ ?_ _)); refine qv_ (cs := #[.int .i64 0, .bool false, .string (⟨#[]⟩ : ByteArray), .slice none 0 0, .slice none 0 0]) ?_ 0 _ rfl; (with_reducible repeat (first | refine q9_ ?_ _ | refine qz_ ?_ | refine q8_ ?_ _)); exact jY_.out) Tryd.underlying25 rfl (by kernel_rfl)) rfl ?_
  exact ⟨_, _, by first | rfl | (simp [qk_, qy_] <;> rfl) | (simp [qk_, qy_] <;> decide +kernel) | (simp [*, qk_, qy_] <;> rfl), by first | exact Kd.R_nil _ _ _ _ _ | exact Kd.N_nil _ _ _ _ _ | exact Kd.V_nil _ _ _ _ _ | exact Kd.Q_nil _ _ _ _ _ | exact Kd.S_nil _ _ _ _ _, by first | exact Kd.R_nil _ _ _ _ _ | exact Kd.N_nil _ _ _ _ _ | exact Kd.V_nil _ _ _ _ _ | exact Kd.Q_nil _ _ _ _ _ | exact Kd.S_nil _ _ _ _ _, by repeat (first | (with_reducible first | exact HB.out | apply q6_ | apply q5_ | apply q7_ | refine qq_ ?_ QS_.out | refine qq_ ?_ Ys_.out) | exact HB.out)⟩
/-! ### colophonref10_List: function 28 -/
def colophonref10_List.f (k : Nat) (l0 : List (S25)) : Option (Int × Bool × ByteArray × (List (S25)) × List ByteArray) := (colophonref10_Copy.f k 4 false (⟨#[]⟩ : ByteArray) l0 ([] : List ByteArray)).bind fun K6_ => (some (K6_.1, K6_.2.1, K6_.2.2.1, K6_.2.2.2.1, K6_.2.2.2.2))
theorem colophonref10_List.mono : ∀ a0 k, LeO (colophonref10_List.f k a0) (colophonref10_List.f (k + 1) a0) := by
 intro a0 k
 unfold colophonref10_List.f
 repeat' first
   | (with_reducible exact colophonref10_Copy.mono _ _ _ _ _ _)
   | (with_reducible exact LeO.refl _)
   | (with_reducible exact LeO.none _)
   | (with_reducible refine LeO.ite ?_ ?_)
   | (with_reducible refine LeO.bind ?_ (fun _ => ?_))
   | exact colophonref10_Copy.mono _ _ _ _ _ _
   | exact LeO.none _
   | refine LeO.ite ?_ ?_
   | refine LeO.bind ?_ (fun _ => ?_)
set_option maxHeartbeats 8000000 in
set_option maxRecDepth 100000 in
theorem colophonref10_List.calls (k : Nat) (A0 : Option Addr) (c0 : Nat) (l0 : List (S25)) (r1 : Int) (r2 : Bool) (r3 : ByteArray) (r4 : List (S25)) (r5 : List ByteArray) (w : World) (hr0 : Kd.C k25 w A0 l0.length l0) (hc0 : l0.length ≤ c0) (h : colophonref10_List.f k l0 = some (r1, r2, r3, r4, r5)) :
  Calls Tryd.prog 28 #[.slice A0 l0.length c0] w fun e w' => ∃ v3_ v4_ : Value, e = .returned (.agg #[.int .i64 r1, .bool r2, .string r3, v3_, v4_]) ∧ Kd.R k25 25 w' w.heap.size (fun k_ => some k_ ≠ (v4_ : Value).ownBlock) v3_ r4 ∧ Kd.R Kd.string 9 w' w.heap.size (fun _ => True) v4_ r5 ∧ Below w.heap.size w w' := by
 have kP_ := Tryd.underlying25
 have HR0 := q0_.mk hr0
 have HC0 := q0_.mk hc0
 clear hr0 hc0
 have HB := q0_.mk (Below.refl w.heap.size w)
 have H : ((colophonref10_Copy.f k 4 false (⟨#[]⟩ : ByteArray) l0 ([] : List ByteArray)).bind fun K6_ => (some (K6_.1, K6_.2.1, K6_.2.2.1, K6_.2.2.2.1, K6_.2.2.2.2))) = some (r1, r2, r3, r4, r5) := h
 clear h
 replace H := Option.bind_eq_some_iff.mp H
 obtain ⟨⟨p3_, PD_, rh_, t280, t283⟩, A20, H⟩ := H
 replace H : (some (p3_, PD_, rh_, t280, t283)) = some (r1, r2, r3, r4, r5) := H
 have A2 := q0_.mk A20
 clear A20
 simp only [Option.some.injEq, Prod.mk.injEq] at H
 obtain ⟨rfl, rfl, rfl, rfl, rfl⟩ := H
 go_enter Tryd.func28, Tryd.ntmps28
 go_wp2_with (first | ((with_reducible refine qZ_ (N := 2) rfl ?_); refine qJ_ ?hg (N := 2) ?hd (cs := #[.int .i64 0, .bool false, .string (⟨#[]⟩ : ByteArray), .slice none 0 0, .slice none 0 0]) (t := 25) ?hr ?_; (case hd => rfl); (case hg => rfl); (case hr => first | (go_simp; done) | (go_simp; rfl)); intro y1_ hg w3 hbox hb; have n0_ := q0_.mk (q4_ (by repeat (first | (with_reducible first | exact HB.out | apply q6_ | apply q5_ | apply q7_) | exact HB.out)) hb); have n1_ := q0_.mk (hbox); have n2_ := q0_.mk ((by rw [hg]; exact (qw_ (by repeat (first | (with_reducible first | exact HB.out | apply q6_ | apply q5_ | apply q7_) | exact HB.out))) : w.heap.size ≤ y1_)); have n3_ := q0_.mk ((by rw [hg]; exact (qw_ (by repeat (first | (with_reducible first | exact HB.out | apply q6_ | apply q5_ | apply q7_) | exact HB.out))) : w.heap.size ≤ y1_)); clear HB; have HB := n0_; have wG_ := n1_; have GW276 := n2_; have PZ_ := n3_; clear n0_ n1_ n2_ n3_; clear hb hbox hg) | ((with_reducible refine qh_ (f := 15) rfl ?_); refine goesL_ (some 5) rfl rfl Tryd.func15 (by kernel_rfl) rfl #[.agg #[.int .i64 4, .bool false, .string (⟨#[]⟩ : ByteArray), .slice A0 l0.length c0, .slice none 0 0]] rfl (by (try simp only [List.map_toArray, List.map_cons, List.map_nil]); first | done | rfl | (simp only [List.length_drop, List.length_take]; rfl)) ?_; (refine (colophonref10_Copy.calls k 4 false (⟨#[]⟩ : ByteArray) _ _ l0 _ _ ([] : List ByteArray) p3_ PD_ rh_ t280 t283 _ ?zQ_ ?zZ_ ?zY_ ?zK_ A2.out).mono ?_); (case zQ_ => repeat (first | exact (Kd.qD_ HR0.out HB.out) | (with_reducible refine Kd.qP_ ?_ _) | (with_reducible refine Kd.qr_ ?_ _) | (with_reducible refine Kd.qR_ ?_))); (case zZ_ => exact HC0.out); (case zY_ => exact Kd.C_nil _ _); (case zK_ => exact Nat.le_refl _); rintro e w4 ⟨v281, v284, rfl, ho0, ho1, hb⟩; refine ⟨_, rfl, ?_⟩; have n0_ := q0_.mk (Kd.R_lower (Kd.R_newB ho0 (g := y1_) (o := .cells #[.int .i64 0, .bool false, .string (⟨#[]⟩ : ByteArray), .slice none 0 0, .slice none 0 0] 25 (0, 0)) (by (with_reducible repeat (first | refine q9_ ?_ _ | refine qz_ ?_ | refine q8_ ?_ _)); exact wG_.out)) (qw_ (by repeat (first | (with_reducible first | exact HB.out | apply q6_ | apply q5_ | apply q7_ | refine qq_ ?_ PZ_.out) | exact HB.out)))); have n1_ := q0_.mk (Kd.R_lower ho1 (qw_ (by repeat (first | (with_reducible first | exact HB.out | apply q6_ | apply q5_ | apply q7_ | refine qq_ ?_ PZ_.out) | exact HB.out)))); have n2_ := q0_.mk (q2_ (g := y1_) (o := .cells #[.int .i64 0, .bool false, .string (⟨#[]⟩ : ByteArray), .slice none 0 0, .slice none 0 0] 25 (0, 0)) (by (with_reducible repeat (first | refine q9_ ?_ _ | refine qz_ ?_ | refine q8_ ?_ _)); exact wG_.out) hb); have n3_ := q0_.mk (q4_ (by repeat (first | (with_reducible first | exact HB.out | apply q6_ | apply q5_ | apply q7_ | refine qq_ ?_ PZ_.out) | exact HB.out)) hb); clear wG_; clear HB; have HO282 := n0_; have HO285 := n1_; have wG_ := n2_; have HB := n3_; clear n0_ n1_ n2_ n3_; (try clear hb); (try clear hb2); (try clear hk); (try clear hi); (try clear ho0); (try clear ho1); have w0_ : w4.cell? ⟨y1_, 0, none⟩ = some (.int .i64 0) := (q1_ wG_.out 0).trans rfl; have vS_ : w4.cell? ⟨y1_, 1, none⟩ = some (.bool false) := (q1_ wG_.out 1).trans rfl; have vs_ : w4.cell? ⟨y1_, 2, none⟩ = some (.string (⟨#[]⟩ : ByteArray)) := (q1_ wG_.out 2).trans rfl; have vR_ : w4.cell? ⟨y1_, 3, none⟩ = some (.slice none 0 0) := (q1_ wG_.out 3).trans rfl; have vr_ : w4.cell? ⟨y1_, 4, none⟩ = some (.slice none 0 0) := (q1_ wG_.out 4).trans rfl; have vK_ := q3_ wG_.out 0; have vX_ := q3_ wG_.out 1; have vJ_ := q3_ wG_.out 2; have vZ_ := q3_ wG_.out 3; have vQ_ := q3_ wG_.out 4; obtain ⟨Ao6, co6, eo6⟩ := Kd.qp_ HO282.out; subst eo6; obtain ⟨Ao7, co7, eo7⟩ := Kd.qp_ HO285.out; subst eo7))
 refine bodyPost_ret (results_cell_row rfl _ _ y1_ 25 #[.int .i64 p3_, .bool PD_, .string rh_, .slice Ao6 t280.length co6, .slice Ao7 t283.length co7] (0, 0) _ rfl (by (with_reducible repeat (first | refine q9_ ?_ _ | refine qz_ ?_ | refine q8_ ?_ _)); refine qv_ (cs := #[.int .i64 p3_, .bool PD_, .string rh_, .slice Ao6 t280.length co6, .slice none 0 0]) ?_ 4 _ rfl; (with_reducible repeat (first | refine q9_ ?_ _ | refine qz_ ?_ | refine q8_ ?_ _)); refine qv_ (cs := #[.int .i64 p3_, .bool PD_, .string rh_, .slice none 0 0, .slice none 0 0]) ?_ 3 _ rfl; (with_reducible repeat (first | refine q9_ ?_ _ | refine qz_ ?_ | refine q8_ ?_ _)); refine qv_ (cs := #[.int .i64 p3_, .bool PD_, .string (⟨#[]⟩ : ByteArray), .slice none 0 0, .slice none 0 0]) ?_ 2 _ rfl; (with_reducible repeat (first | refine q9_ ?_ _ | refine qz_ ?_ | refine q8_ ?_ _)); refine qv_ (cs := #[.int .i64 p3_, .bool false, .string (⟨#[]⟩ : ByteArray), .slice none 0 0, .slice none 0 0]) ?_ 1 _ rfl; (with_reducible repeat (first | refine q9_ ?_ _ | refine qz_ ?_ | refine q8_ ?_ _)); refine qv_ (cs := #[.int .i64 0, .bool false, .string (⟨#[]⟩ : ByteArray), .slice none 0 0, .slice none 0 0]) ?_ 0 _ rfl; (with_reducible repeat (first | refine q9_ ?_ _ | refine qz_ ?_ | refine q8_ ?_ _)); exact wG_.out) Tryd.underlying25 rfl (by kernel_rfl)) rfl ?_
 exact ⟨_, _, by first | rfl | (simp [qk_, qy_] <;> rfl) | (simp [qk_, qy_] <;> decide +kernel) | (simp [*, qk_, qy_] <;> rfl), by (with_reducible repeat (first | apply Kd.R_alloc | apply Kd.R_drewN | apply Kd.R_drew)); exact Kd.qd_ (Kd.qs_ (p := ⟨y1_, 4, none⟩) (Kd.qs_ (p := ⟨y1_, 3, none⟩) (Kd.qs_ (p := ⟨y1_, 2, none⟩) (Kd.qs_ (p := ⟨y1_, 1, none⟩) (Kd.qs_ (p := ⟨y1_, 0, none⟩) (Kd.qd_ HO282.out (fun k_ hk => (⟨hk, hk.2⟩ : _ ∧ k_ ≠ y1_))) (fun _ hk => hk.2) (.int .i64 p3_)) (fun _ hk => hk.2) (.bool PD_)) (fun _ hk => hk.2) (.string rh_)) (fun _ hk => hk.2) (.slice Ao6 t280.length co6)) (fun _ hk => hk.2) (.slice Ao7 t283.length co7)) (fun _ hk => hk.1.1), by (with_reducible repeat (first | apply Kd.R_alloc | apply Kd.R_drewN | apply Kd.R_drew)); exact Kd.qd_ (Kd.qs_ (p := ⟨y1_, 4, none⟩) (Kd.qs_ (p := ⟨y1_, 3, none⟩) (Kd.qs_ (p := ⟨y1_, 2, none⟩) (Kd.qs_ (p := ⟨y1_, 1, none⟩) (Kd.qs_ (p := ⟨y1_, 0, none⟩) (Kd.R_types HO285.out wG_.out (by decide)) (fun _ hk => hk.2) (.int .i64 p3_)) (fun _ hk => hk.2) (.bool PD_)) (fun _ hk => hk.2) (.string rh_)) (fun _ hk => hk.2) (.slice Ao6 t280.length co6)) (fun _ hk => hk.2) (.slice Ao7 t283.length co7)) (fun _ hk => trivial), by repeat (first | (with_reducible first | exact HB.out | apply q6_ | apply q5_ | apply q7_ | refine qq_ ?_ PZ_.out) | exact HB.out)⟩
/-! ### colophonref10_Make: function 29 -/
def colophonref10_Make.f (k : Nat) (l0 : List ByteArray) (l1 : List (S25)) : Option (Int × Bool × ByteArray × (List (S25)) × List ByteArray × Int) := if (l0.length : Int) = (l1.length : Int) then ((colophonref10_Copy.f k 5 false (⟨#[]⟩ : ByteArray) l1 l0).bind fun K5_ => (some (K5_.1, K5_.2.1, K5_.2.2.1, K5_.2.2.2.1, K5_.2.2.2.2, 0))) else (some (0, false, (⟨#[]⟩ : ByteArray), ([] : List (S25)), ([] : List ByteArray), 2))
theorem colophonref10_Make.mono : ∀ a0 a1 k, LeO (colophonref10_Make.f k a0 a1) (colophonref10_Make.f (k + 1) a0 a1) := by
 intro a0 a1 k
 unfold colophonref10_Make.f
 repeat' first
   | (with_reducible exact colophonref10_Copy.mono _ _ _ _ _ _)
   | (with_reducible exact LeO.refl _)
   | (with_reducible exact LeO.none _)
   | (with_reducible refine LeO.ite ?_ ?_)
   | (with_reducible refine LeO.bind ?_ (fun _ => ?_))
   | exact colophonref10_Copy.mono _ _ _ _ _ _
   | exact LeO.none _
   | refine LeO.ite ?_ ?_
   | refine LeO.bind ?_ (fun _ => ?_)
set_option maxHeartbeats 8000000 in
set_option maxRecDepth 100000 in
theorem colophonref10_Make.calls (k : Nat) (A0 : Option Addr) (c0 : Nat) (l0 : List ByteArray) (A1 : Option Addr) (c1 : Nat) (l1 : List (S25)) (r1 : Int) (r2 : Bool) (r3 : ByteArray) (r4 : List (S25)) (r5 : List ByteArray) (r6 : Int) (w : World) (hr0 : Kd.C Kd.string w A0 l0.length l0) (hc0 : l0.length ≤ c0) (hr1 : Kd.C k25 w A1 l1.length l1) (hc1 : l1.length ≤ c1) (h : colophonref10_Make.f k l0 l1 = some (r1, r2, r3, r4, r5, r6)) :
  Calls Tryd.prog 29 #[.slice A0 l0.length c0, .slice A1 l1.length c1] w fun e w' => ∃ v3_ v4_ : Value, e = .returned (.tuple #[.agg #[.int .i64 r1, .bool r2, .string r3, v3_, v4_], .int .i64 r6]) ∧ Kd.R k25 25 w' w.heap.size (fun k_ => some k_ ≠ (v4_ : Value).ownBlock) v3_ r4 ∧ Kd.R Kd.string 9 w' w.heap.size (fun _ => True) v4_ r5 ∧ Below w.heap.size w w' := by
 have kP_ := Tryd.underlying25
 have HR0 := q0_.mk hr0
 have HC0 := q0_.mk hc0
 clear hr0 hc0
 have HR1 := q0_.mk hr1
 have HC1 := q0_.mk hc1
 clear hr1 hc1
 have HB := q0_.mk (Below.refl w.heap.size w)
 have H : (if (l0.length : Int) = (l1.length : Int) then ((colophonref10_Copy.f k 5 false (⟨#[]⟩ : ByteArray) l1 l0).bind fun K5_ => (some (K5_.1, K5_.2.1, K5_.2.2.1, K5_.2.2.2.1, K5_.2.2.2.2, 0))) else (some (0, false, (⟨#[]⟩ : ByteArray), ([] : List (S25)), ([] : List ByteArray), 2))) = some (r1, r2, r3, r4, r5, r6) := h
 clear h
 by_cases c3 : (l0.length : Int) = (l1.length : Int)
 ·
  rw [if_pos c3] at H
  have Z5_ : ((l0.length : Int) == (l1.length : Int)) = true := beq_iff_eq.mpr c3
  have Kg_ : ((l0.length : Int) != (l1.length : Int)) = false := bne_eq_false_iff_eq.mpr c3
  have bF_ : (l0.length == l1.length) = true := by first | simpa using c3 | (simp at c3 ⊢; omega)
  clear c3
  replace H := Option.bind_eq_some_iff.mp H
  obtain ⟨⟨p2_, Pd_, rG_, t290, t293⟩, A40, H⟩ := H
  replace H : (some (p2_, Pd_, rG_, t290, t293, 0)) = some (r1, r2, r3, r4, r5, r6) := H
  have A4 := q0_.mk A40
  clear A40
  simp only [Option.some.injEq, Prod.mk.injEq] at H
  obtain ⟨rfl, rfl, rfl, rfl, rfl, rfl⟩ := H
  go_enter Tryd.func29, Tryd.ntmps29
  go_wp2_with (first | ((with_reducible refine qZ_ (N := 4) rfl ?_); refine qJ_ ?hg (N := 4) ?hd (cs := #[.int .i64 0, .bool false, .string (⟨#[]⟩ : ByteArray), .slice none 0 0, .slice none 0 0]) (t := 25) ?hr ?_; (case hd => rfl); (case hg => rfl); (case hr => first | (go_simp; done) | (go_simp; rfl)); intro xg_ hg w5 hbox hb; have n0_ := q0_.mk (q4_ (by repeat (first | (with_reducible first | exact HB.out | apply q6_ | apply q5_ | apply q7_) | exact HB.out)) hb); have n1_ := q0_.mk (hbox); have n2_ := q0_.mk ((by rw [hg]; exact (qw_ (by repeat (first | (with_reducible first | exact HB.out | apply q6_ | apply q5_ | apply q7_) | exact HB.out))) : w.heap.size ≤ xg_)); have n3_ := q0_.mk ((by rw [hg]; exact (qw_ (by repeat (first | (with_reducible first | exact HB.out | apply q6_ | apply q5_ | apply q7_) | exact HB.out))) : w.heap.size ≤ xg_)); clear HB; have HB := n0_; have xD_ := n1_; have GW286 := n2_; have bh_ := n3_; clear n0_ n1_ n2_ n3_; clear hb hbox hg) | ((with_reducible refine qh_ (f := 15) rfl ?_); refine goesL_ (some 15) rfl rfl Tryd.func15 (by kernel_rfl) rfl #[.agg #[.int .i64 5, .bool false, .string (⟨#[]⟩ : ByteArray), .slice A1 l1.length c1, .slice A0 l0.length c0]] rfl (by (try simp only [List.map_toArray, List.map_cons, List.map_nil]); first | done | rfl | (simp only [List.length_drop, List.length_take]; rfl)) ?_; (with_reducible refine (colophonref10_Copy.calls k 5 false (⟨#[]⟩ : ByteArray) _ _ l1 _ _ l0 p2_ Pd_ rG_ t290 t293 _ ?zQ_ ?zZ_ ?zY_ ?zK_ A4.out).mono ?_); (case zQ_ => repeat (first | exact (Kd.qD_ HR1.out HB.out) | (with_reducible refine Kd.qP_ ?_ _) | (with_reducible refine Kd.qr_ ?_ _) | (with_reducible refine Kd.qR_ ?_))); (case zZ_ => exact HC1.out); (case zY_ => repeat (first | exact (Kd.qD_ HR0.out HB.out) | (with_reducible refine Kd.qP_ ?_ _) | (with_reducible refine Kd.qr_ ?_ _) | (with_reducible refine Kd.qR_ ?_))); (case zK_ => exact HC0.out); rintro e w6 ⟨v291, v294, rfl, ho0, ho1, hb⟩; refine ⟨_, rfl, ?_⟩; have n0_ := q0_.mk (Kd.R_lower (Kd.R_newB ho0 (g := xg_) (o := .cells #[.int .i64 0, .bool false, .string (⟨#[]⟩ : ByteArray), .slice none 0 0, .slice none 0 0] 25 (0, 0)) (by (with_reducible repeat (first | refine q9_ ?_ _ | refine qz_ ?_ | refine q8_ ?_ _)); exact xD_.out)) (qw_ (by repeat (first | (with_reducible first | exact HB.out | apply q6_ | apply q5_ | apply q7_ | refine qq_ ?_ bh_.out) | exact HB.out)))); have n1_ := q0_.mk (Kd.R_lower ho1 (qw_ (by repeat (first | (with_reducible first | exact HB.out | apply q6_ | apply q5_ | apply q7_ | refine qq_ ?_ bh_.out) | exact HB.out)))); have n2_ := q0_.mk (q2_ (g := xg_) (o := .cells #[.int .i64 0, .bool false, .string (⟨#[]⟩ : ByteArray), .slice none 0 0, .slice none 0 0] 25 (0, 0)) (by (with_reducible repeat (first | refine q9_ ?_ _ | refine qz_ ?_ | refine q8_ ?_ _)); exact xD_.out) hb); have n3_ := q0_.mk (q4_ (by repeat (first | (with_reducible first | exact HB.out | apply q6_ | apply q5_ | apply q7_ | refine qq_ ?_ bh_.out) | exact HB.out)) hb); clear xD_; clear HB; have HO292 := n0_; have HO295 := n1_; have xD_ := n2_; have HB := n3_; clear n0_ n1_ n2_ n3_; (try clear hb); (try clear hb2); (try clear hk); (try clear hi); (try clear ho0); (try clear ho1); have Xf_ : w6.cell? ⟨xg_, 0, none⟩ = some (.int .i64 0) := (q1_ xD_.out 0).trans rfl; have XH_ : w6.cell? ⟨xg_, 1, none⟩ = some (.bool false) := (q1_ xD_.out 1).trans rfl; have Xh_ : w6.cell? ⟨xg_, 2, none⟩ = some (.string (⟨#[]⟩ : ByteArray)) := (q1_ xD_.out 2).trans rfl; have XG_ : w6.cell? ⟨xg_, 3, none⟩ = some (.slice none 0 0) := (q1_ xD_.out 3).trans rfl; have Xg_ : w6.cell? ⟨xg_, 4, none⟩ = some (.slice none 0 0) := (q1_ xD_.out 4).trans rfl; have X5_ := q3_ xD_.out 0; have X4_ := q3_ xD_.out 1; have X3_ := q3_ xD_.out 2; have X2_ := q3_ xD_.out 3; have X1_ := q3_ xD_.out 4; obtain ⟨Ao8, co8, eo8⟩ := Kd.qp_ HO292.out; subst eo8; obtain ⟨Ao9, co9, eo9⟩ := Kd.qp_ HO295.out; subst eo9))
  refine bodyPost_ret (results_ct rfl _ _ xg_ 25 #[.int .i64 p2_, .bool Pd_, .string rG_, .slice Ao8 t290.length co8, .slice Ao9 t293.length co9] (0, 0) _ rfl (by (with_reducible repeat (first | refine q9_ ?_ _ | refine qz_ ?_ | refine q8_ ?_ _)); refine qv_ (cs := #[.int .i64 p2_, .bool Pd_, .string rG_, .slice Ao8 t290.length co8, .slice none 0 0]) ?_ 4 _ rfl; (with_reducible repeat (first | refine q9_ ?_ _ | refine qz_ ?_ | refine q8_ ?_ _)); refine qv_ (cs := #[.int .i64 p2_, .bool Pd_, .string rG_, .slice none 0 0, .slice none 0 0]) ?_ 3 _ rfl; (with_reducible repeat (first | refine q9_ ?_ _ | refine qz_ ?_ | refine q8_ ?_ _)); refine qv_ (cs := #[.int .i64 p2_, .bool Pd_, .string (⟨#[]⟩ : ByteArray), .slice none 0 0, .slice none 0 0]) ?_ 2 _ rfl; (with_reducible repeat (first | refine q9_ ?_ _ | refine qz_ ?_ | refine q8_ ?_ _)); refine qv_ (cs := #[.int .i64 p2_, .bool false, .string (⟨#[]⟩ : ByteArray), .slice none 0 0, .slice none 0 0]) ?_ 1 _ rfl; (with_reducible repeat (first | refine q9_ ?_ _ | refine qz_ ?_ | refine q8_ ?_ _)); refine qv_ (cs := #[.int .i64 0, .bool false, .string (⟨#[]⟩ : ByteArray), .slice none 0 0, .slice none 0 0]) ?_ 0 _ rfl; (with_reducible repeat (first | refine q9_ ?_ _ | refine qz_ ?_ | refine q8_ ?_ _)); exact xD_.out) Tryd.underlying25 rfl (by kernel_rfl)) rfl ?_
  exact ⟨_, _, by first | rfl | (simp [qk_, qy_] <;> rfl) | (simp [qk_, qy_] <;> decide +kernel) | (simp [*, qk_, qy_] <;> rfl), by (with_reducible repeat (first | apply Kd.R_alloc | apply Kd.R_drewN | apply Kd.R_drew)); exact Kd.qd_ (Kd.qs_ (p := ⟨xg_, 4, none⟩) (Kd.qs_ (p := ⟨xg_, 3, none⟩) (Kd.qs_ (p := ⟨xg_, 2, none⟩) (Kd.qs_ (p := ⟨xg_, 1, none⟩) (Kd.qs_ (p := ⟨xg_, 0, none⟩) (Kd.qd_ HO292.out (fun k_ hk => (⟨hk, hk.2⟩ : _ ∧ k_ ≠ xg_))) (fun _ hk => hk.2) (.int .i64 p2_)) (fun _ hk => hk.2) (.bool Pd_)) (fun _ hk => hk.2) (.string rG_)) (fun _ hk => hk.2) (.slice Ao8 t290.length co8)) (fun _ hk => hk.2) (.slice Ao9 t293.length co9)) (fun _ hk => hk.1.1), by (with_reducible repeat (first | apply Kd.R_alloc | apply Kd.R_drewN | apply Kd.R_drew)); exact Kd.qd_ (Kd.qs_ (p := ⟨xg_, 4, none⟩) (Kd.qs_ (p := ⟨xg_, 3, none⟩) (Kd.qs_ (p := ⟨xg_, 2, none⟩) (Kd.qs_ (p := ⟨xg_, 1, none⟩) (Kd.qs_ (p := ⟨xg_, 0, none⟩) (Kd.R_types HO295.out xD_.out (by decide)) (fun _ hk => hk.2) (.int .i64 p2_)) (fun _ hk => hk.2) (.bool Pd_)) (fun _ hk => hk.2) (.string rG_)) (fun _ hk => hk.2) (.slice Ao8 t290.length co8)) (fun _ hk => hk.2) (.slice Ao9 t293.length co9)) (fun _ hk => trivial), by repeat (first | (with_reducible first | exact HB.out | apply q6_ | apply q5_ | apply q7_ | refine qq_ ?_ bh_.out) | exact HB.out)⟩
 ·
  rw [if_neg c3] at H
  have Z5_ : ((l0.length : Int) == (l1.length : Int)) = false := beq_eq_false_iff_ne.mpr c3
  have Kg_ : ((l0.length : Int) != (l1.length : Int)) = true := bne_iff_ne.mpr c3
  have bF_ : (l0.length == l1.length) = false := by first | simpa using c3 | (simp at c3 ⊢; omega)
  simp only [Option.some.injEq, Prod.mk.injEq] at H
  obtain ⟨rfl, rfl, rfl, rfl, rfl, rfl⟩ := H
  go_enter Tryd.func29, Tryd.ntmps29
  go_wp2_with (first | ((with_reducible refine qZ_ (N := 4) rfl ?_); refine qJ_ ?hg (N := 4) ?hd (cs := #[.int .i64 0, .bool false, .string (⟨#[]⟩ : ByteArray), .slice none 0 0, .slice none 0 0]) (t := 25) ?hr ?_; (case hd => rfl); (case hg => rfl); (case hr => first | (go_simp; done) | (go_simp; rfl)); intro xg_ hg w10 hbox hb; have n0_ := q0_.mk (q4_ (by repeat (first | (with_reducible first | exact HB.out | apply q6_ | apply q5_ | apply q7_) | exact HB.out)) hb); have n1_ := q0_.mk (hbox); have n2_ := q0_.mk ((by rw [hg]; exact (qw_ (by repeat (first | (with_reducible first | exact HB.out | apply q6_ | apply q5_ | apply q7_) | exact HB.out))) : w.heap.size ≤ xg_)); have n3_ := q0_.mk ((by rw [hg]; exact (qw_ (by repeat (first | (with_reducible first | exact HB.out | apply q6_ | apply q5_ | apply q7_) | exact HB.out))) : w.heap.size ≤ xg_)); clear HB; have HB := n0_; have xD_ := n1_; have GW286 := n2_; have bh_ := n3_; clear n0_ n1_ n2_ n3_; clear hb hbox hg; have v9_ : w10.cell? ⟨xg_, 0, none⟩ = some (.int .i64 0) := (q1_ xD_.out 0).trans rfl; have v8_ : w10.cell? ⟨xg_, 1, none⟩ = some (.bool false) := (q1_ xD_.out 1).trans rfl; have v7_ : w10.cell? ⟨xg_, 2, none⟩ = some (.string (⟨#[]⟩ : ByteArray)) := (q1_ xD_.out 2).trans rfl; have v6_ : w10.cell? ⟨xg_, 3, none⟩ = some (.slice none 0 0) := (q1_ xD_.out 3).trans rfl; have v5_ : w10.cell? ⟨xg_, 4, none⟩ = some (.slice none 0 0) := (q1_ xD_.out 4).trans rfl; have yp_ := q3_ xD_.out 0; have yD_ := q3_ xD_.out 1; have yd_ := q3_ xD_.out 2; have yB_ := q3_ xD_.out 3; have yb_ := q3_ xD_.out 4))
  refine bodyPost_ret (results_ct rfl _ _ xg_ 25 #[.int .i64 0, .bool false, .string (⟨#[]⟩ : ByteArray), .slice none 0 0, .slice none 0 0] (0, 0) _ rfl (by (with_reducible repeat (first | refine q9_ ?_ _ | refine qz_ ?_ | refine q8_ ?_ _)); refine qv_ (cs := #[.int .i64 0, .bool false, .string (⟨#[]⟩ : ByteArray), .slice none 0 0, .slice none 0 0]) ?_ 4 _ rfl; (with_reducible repeat (first | refine q9_ ?_ _ | refine qz_ ?_ | refine q8_ ?_ _)); refine qv_ (cs := #[.int .i64 0, .bool false, .string (⟨#[]⟩ : ByteArray), .slice none 0 0, .slice none 0 0]) ?_ 3 _ rfl; (with_reducible repeat (first | refine q9_ ?_ _ | refine qz_ ?_ | refine q8_ ?_ _)); refine qv_ (cs := #[.int .i64 0, .bool false, .string (⟨#[]⟩ : ByteArray), .slice none 0 0, .slice none 0 0]) ?_ 2 _ rfl; (with_reducible repeat (first | refine q9_ ?_ _ | refine qz_ ?_ | refine q8_ ?_ _)); refine qv_ (cs := #[.int .i64 0, .bool false, .string (⟨#[]⟩ : ByteArray), .slice none 0 0, .slice none 0 0]) ?_ 1 _ rfl; (with_reducible repeat (first | refine q9_ ?_ _ | refine qz_ ?_ | refine q8_ ?_ _)); refine qv_ (cs := #[.int .i64 0, .bool false, .string (⟨#[]⟩ : ByteArray), .slice none 0 0, .slice none 0 0]) ?_ 0 _ rfl; (with_reducible repeat (first | refine q9_ ?_ _ | refine qz_ ?_ | refine q8_ ?_ _)); exact xD_.out) Tryd.underlying25 rfl (by kernel_rfl)) rfl ?_
  exact ⟨_, _, by first | rfl | (simp [qk_, qy_] <;> rfl) | (simp [qk_, qy_] <;> decide +kernel) | (simp [*, qk_, qy_] <;> rfl), by first | exact Kd.R_nil _ _ _ _ _ | exact Kd.N_nil _ _ _ _ _ | exact Kd.V_nil _ _ _ _ _ | exact Kd.Q_nil _ _ _ _ _ | exact Kd.S_nil _ _ _ _ _, by first | exact Kd.R_nil _ _ _ _ _ | exact Kd.N_nil _ _ _ _ _ | exact Kd.V_nil _ _ _ _ _ | exact Kd.Q_nil _ _ _ _ _ | exact Kd.S_nil _ _ _ _ _, by repeat (first | (with_reducible first | exact HB.out | apply q6_ | apply q5_ | apply q7_ | refine qq_ ?_ bh_.out) | exact HB.out)⟩
/-! ### colophonref10_digits: function 45 -/
def colophonref10_digits.f : Nat → Int → Option (ByteArray)
 | 0, _ => none
 | k + 1, a0 => (some (([(wrap64 (48 - (Int.tmod a0 10))) % 256] : List Int) : List Int)).bind fun Vg_ => (if a0 > (-10) then (some (strOfNums Vg_)) else ((colophonref10_digits.f k (wrap64 (Int.tdiv a0 10))).bind fun Vs_ => (if Vs_.size + (strOfNums Vg_).size ≤ 9223372036854775807 then (some (Vs_ ++ (strOfNums Vg_))) else (none))))
theorem colophonref10_digits.mono_l : ∀ k, (∀ y0, LeO (colophonref10_digits.f k y0) (colophonref10_digits.f (k + 1) y0))
 | 0 => fun _ r h => by simp [colophonref10_digits.f] at h
 | k + 1 => by
  have ih0 := colophonref10_digits.mono_l k
  ·
   intro y0
   unfold colophonref10_digits.f
   repeat' first
   | (with_reducible exact ih0 _)
   | (with_reducible exact LeO.refl _)
   | (with_reducible exact LeO.none _)
   | (with_reducible refine LeO.ite ?_ ?_)
   | (with_reducible refine LeO.bind ?_ (fun _ => ?_))
   | exact ih0 _
   | exact LeO.none _
   | refine LeO.ite ?_ ?_
   | refine LeO.bind ?_ (fun _ => ?_)
theorem colophonref10_digits.mono : ∀ a0 k, LeO (colophonref10_digits.f k a0) (colophonref10_digits.f (k + 1) a0) := by
 intro a0 k
 have ih0 := colophonref10_digits.mono_l k
 exact ih0 a0
set_option maxHeartbeats 8000000 in
set_option maxRecDepth 100000 in
theorem colophonref10_digits.calls (k : Nat) : ∀ (a0 : Int) (r : ByteArray) (w : World) (h : colophonref10_digits.f k a0 = some r),
  Calls Tryd.prog 45 #[.int .i64 a0] w fun e w' => e = .returned (.string r) ∧ Below w.heap.size w w' := by
 induction k using Nat.strongRecOn with
 | _ k ih =>
 intro a0 r w h
 cases k with
 | zero => exact absurd h (by simp [colophonref10_digits.f])
 | succ k =>
 simp only [colophonref10_digits.f] at h
 have HB := q0_.mk (Below.refl w.heap.size w)
 have H : ((some (([(wrap64 (48 - (Int.tmod a0 10))) % 256] : List Int) : List Int)).bind fun Vg_ => (if a0 > (-10) then (some (strOfNums Vg_)) else ((colophonref10_digits.f k (wrap64 (Int.tdiv a0 10))).bind fun Vs_ => (if Vs_.size + (strOfNums Vg_).size ≤ 9223372036854775807 then (some (Vs_ ++ (strOfNums Vg_))) else (none))))) = some r := h
 clear h
 obtain ⟨Vg_, B0_⟩ : ∃ y_ : List Int, y_ = (([(wrap64 (48 - (Int.tmod a0 10))) % 256] : List Int)) := ⟨_, rfl⟩
 replace H : (if a0 > (-10) then (some (strOfNums Vg_)) else ((colophonref10_digits.f k (wrap64 (Int.tdiv a0 10))).bind fun Vs_ => (if Vs_.size + (strOfNums Vg_).size ≤ 9223372036854775807 then (some (Vs_ ++ (strOfNums Vg_))) else (none)))) = some r := by first | (rw [B0_]; with_reducible exact H) | (have H2_ := (Option.bind_some _ _).symm.trans H; rw [B0_]; with_reducible exact H2_) | (have H2_ := (Option.bind_some _ _).symm.trans H; with_reducible exact H2_) | with_reducible exact H | (rw [B0_]; exact H) | exact H
 have Pv_ := q0_.mk B0_
 clear B0_
 by_cases c2 : a0 > (-10)
 ·
  rw [if_pos c2] at H
  have c2b0 : decide ((-10) < a0) = true := decide_eq_true c2
  clear c2
  obtain rfl := Option.some.inj H
  go_enter Tryd.func45, Tryd.ntmps45
  go_wp2_with (first | ((with_reducible refine qZ_ (N := 8) rfl ?_); refine Kd.R_lit (Kd.int .u8) _ 5 ?hg (N := 8) ?hd (xs := ([(wrap64 (48 - (Int.tmod a0 10))) % 256] : List Int)) (inner := [.int .u8 ((wrap64 (48 - (Int.tmod a0 10))) % 256)]) (ok := fun _ => True) (okp := fun _ => True) ?hr ?hp (fun _ hk => hk) trivial (Below.refl _ _) (Nat.le_refl _) (by simp) ?_; (case hd => rfl); (case hg => rfl); (case hr => first | (go_simp; done) | (go_simp; rfl)); (case hp => exact (Reps.one (show Kd.M (Kd.int .u8) _ _ _ ((wrap64 (48 - (Int.tmod a0 10))) % 256) [.int .u8 ((wrap64 (48 - (Int.tmod a0 10))) % 256)] from rfl) (Reps.none _ _))); intro v297 w3 ho4 hb hg_ hnew_; clear hg_ hnew_; (first | rw [← Pv_.out] at ho4 | (simp only [Int.reduceToNat] at ho4; rw [← Pv_.out] at ho4)); have n0_ := q0_.mk (Kd.R_lower ho4 (qw_ (by repeat (first | (with_reducible first | exact HB.out | apply q6_ | apply q5_ | apply q7_) | exact HB.out)))); have n1_ := q0_.mk (q4_ (by repeat (first | (with_reducible first | exact HB.out | apply q6_ | apply q5_ | apply q7_) | exact HB.out)) hb); clear HB; have bG_ := n0_; have HB := n1_; clear n0_ n1_; clear hb ho4; have hcv5 := own_string (P := Tryd.prog) Tryd.underlying39 Tryd.underlying5 Tryd.underlying9 (Kd.own_of_R bG_.out)))
  go_ret
  exact ⟨by first | rfl | (simp [qk_, qy_] <;> rfl) | (simp [qk_, qy_] <;> decide +kernel) | (simp [*, qk_, qy_] <;> rfl), by repeat (first | (with_reducible first | exact HB.out | apply q6_ | apply q5_ | apply q7_) | exact HB.out)⟩
 ·
  rw [if_neg c2] at H
  have c2b0 : decide ((-10) < a0) = false := decide_eq_false c2
  clear c2
  replace H := Option.bind_eq_some_iff.mp H
  obtain ⟨Vs_, A60, H⟩ := H
  replace H : (if Vs_.size + (strOfNums Vg_).size ≤ 9223372036854775807 then (some (Vs_ ++ (strOfNums Vg_))) else (none)) = some r := H
  have A6 := q0_.mk A60
  clear A60
  by_cases c7 : Vs_.size + (strOfNums Vg_).size ≤ 9223372036854775807
  ·
   rw [if_pos c7] at H
   have py_ := eq_true c7
   have c7b1 : decide (Vs_.size + (strOfNums Vg_).size ≤ 9223372036854775807) = true := decide_eq_true c7
   try have c7b2 : (9223372036854775807 < Vs_.size + (strOfNums Vg_).size) = False := eq_false (Nat.not_lt.2 c7)
   obtain rfl := Option.some.inj H
   go_enter Tryd.func45, Tryd.ntmps45
   go_wp2_with (first | ((with_reducible refine qZ_ (N := 8) rfl ?_); refine Kd.R_lit (Kd.int .u8) _ 5 ?hg (N := 8) ?hd (xs := ([(wrap64 (48 - (Int.tmod a0 10))) % 256] : List Int)) (inner := [.int .u8 ((wrap64 (48 - (Int.tmod a0 10))) % 256)]) (ok := fun _ => True) (okp := fun _ => True) ?hr ?hp (fun _ hk => hk) trivial (Below.refl _ _) (Nat.le_refl _) (by simp) ?_; (case hd => rfl); (case hg => rfl); (case hr => first | (go_simp; done) | (go_simp; rfl)); (case hp => exact (Reps.one (show Kd.M (Kd.int .u8) _ _ _ ((wrap64 (48 - (Int.tmod a0 10))) % 256) [.int .u8 ((wrap64 (48 - (Int.tmod a0 10))) % 256)] from rfl) (Reps.none _ _))); intro v297 w8 ho9 hb hg_ hnew_; clear hg_ hnew_; (first | rw [← Pv_.out] at ho9 | (simp only [Int.reduceToNat] at ho9; rw [← Pv_.out] at ho9)); have n0_ := q0_.mk (Kd.R_lower ho9 (qw_ (by repeat (first | (with_reducible first | exact HB.out | apply q6_ | apply q5_ | apply q7_) | exact HB.out)))); have n1_ := q0_.mk (q4_ (by repeat (first | (with_reducible first | exact HB.out | apply q6_ | apply q5_ | apply q7_) | exact HB.out)) hb); clear HB; have bG_ := n0_; have HB := n1_; clear n0_ n1_; clear hb ho9; have hcv10 := own_string (P := Tryd.prog) Tryd.underlying39 Tryd.underlying5 Tryd.underlying9 (Kd.own_of_R bG_.out)) | ((with_reducible refine qh_ (f := 45) rfl ?_); refine goesL_ (some 15) rfl rfl Tryd.func45 (by kernel_rfl) rfl #[.int .i64 (wrap64 (Int.tdiv a0 10))] rfl (by (try simp only [List.map_toArray, List.map_cons, List.map_nil]); first | done | rfl | (simp only [List.length_drop, List.length_take]; rfl)) ?_; (with_reducible refine (ih k (by omega) (wrap64 (Int.tdiv a0 10)) Vs_ _ A6.out).mono ?_); rintro e w11 ⟨rfl, hb⟩; refine ⟨_, rfl, ?_⟩; have n0_ := q0_.mk (Kd.R_below (by (with_reducible repeat (first | apply Kd.R_alloc | apply Kd.R_drewN | apply Kd.R_drew)); exact bG_.out) hb); have n1_ := q0_.mk (q4_ (by repeat (first | (with_reducible first | exact HB.out | apply q6_ | apply q5_ | apply q7_) | exact HB.out)) hb); clear bG_; clear HB; have bG_ := n0_; have HB := n1_; clear n0_ n1_; (try clear hb); (try clear hb2); (try clear hk); (try clear hi)))
   go_ret
   exact ⟨by first | rfl | (simp [qk_, qy_] <;> rfl) | (simp [qk_, qy_] <;> decide +kernel) | (simp [*, qk_, qy_] <;> rfl), by repeat (first | (with_reducible first | exact HB.out | apply q6_ | apply q5_ | apply q7_) | exact HB.out)⟩
  ·
   rw [if_neg c7] at H
   exact absurd H (by simp)
/-! ### colophonref10_Number: function 31 -/
def colophonref10_Number.f (k : Nat) (a0 : Int) : Option (Int × Bool × ByteArray × (List (S25)) × List ByteArray) := if a0 < 0 then ((colophonref10_digits.f k a0).bind fun VR_ => (if 1 + VR_.size ≤ 9223372036854775807 then (some (2, false, (⟨#[45]⟩ : ByteArray) ++ VR_, ([] : List (S25)), ([] : List ByteArray))) else (none))) else ((colophonref10_digits.f k (wrap64 (-a0))).bind fun p1_ => (some (2, false, p1_, ([] : List (S25)), ([] : List ByteArray))))
theorem colophonref10_Number.mono : ∀ a0 k, LeO (colophonref10_Number.f k a0) (colophonref10_Number.f (k + 1) a0) := by
 intro a0 k
 unfold colophonref10_Number.f
 repeat' first
   | (with_reducible exact colophonref10_digits.mono _ _)
   | (with_reducible exact LeO.refl _)
   | (with_reducible exact LeO.none _)
   | (with_reducible refine LeO.ite ?_ ?_)
   | (with_reducible refine LeO.bind ?_ (fun _ => ?_))
   | exact colophonref10_digits.mono _ _
   | exact LeO.none _
   | refine LeO.ite ?_ ?_
   | refine LeO.bind ?_ (fun _ => ?_)
set_option maxHeartbeats 8000000 in
set_option maxRecDepth 100000 in
theorem colophonref10_Number.calls (k : Nat) (a0 : Int) (r1 : Int) (r2 : Bool) (r3 : ByteArray) (r4 : List (S25)) (r5 : List ByteArray) (w : World) (h : colophonref10_Number.f k a0 = some (r1, r2, r3, r4, r5)) :
  Calls Tryd.prog 31 #[.int .i64 a0] w fun e w' => ∃ v3_ v4_ : Value, e = .returned (.agg #[.int .i64 r1, .bool r2, .string r3, v3_, v4_]) ∧ Kd.R k25 25 w' w.heap.size (fun k_ => some k_ ≠ (v4_ : Value).ownBlock) v3_ r4 ∧ Kd.R Kd.string 9 w' w.heap.size (fun _ => True) v4_ r5 ∧ Below w.heap.size w w' := by
 have kP_ := Tryd.underlying25
 have HB := q0_.mk (Below.refl w.heap.size w)
 have H : (if a0 < 0 then ((colophonref10_digits.f k a0).bind fun VR_ => (if 1 + VR_.size ≤ 9223372036854775807 then (some (2, false, (⟨#[45]⟩ : ByteArray) ++ VR_, ([] : List (S25)), ([] : List ByteArray))) else (none))) else ((colophonref10_digits.f k (wrap64 (-a0))).bind fun p1_ => (some (2, false, p1_, ([] : List (S25)), ([] : List ByteArray))))) = some (r1, r2, r3, r4, r5) := h
 clear h
 by_cases c2 : a0 < 0
 ·
  rw [if_pos c2] at H
  have c2b0 : decide (a0 < 0) = true := decide_eq_true c2
  clear c2
  replace H := Option.bind_eq_some_iff.mp H
  obtain ⟨VR_, A30, H⟩ := H
  replace H : (if 1 + VR_.size ≤ 9223372036854775807 then (some (2, false, (⟨#[45]⟩ : ByteArray) ++ VR_, ([] : List (S25)), ([] : List ByteArray))) else (none)) = some (r1, r2, r3, r4, r5) := H
  have A3 := q0_.mk A30
  clear A30
  by_cases c4 : 1 + VR_.size ≤ 9223372036854775807
  ·
   rw [if_pos c4] at H
   have Z2_ := eq_true c4
   have c4b1 : decide (1 + VR_.size ≤ 9223372036854775807) = true := decide_eq_true c4
   try have c4b2 : (9223372036854775807 < 1 + VR_.size) = False := eq_false (Nat.not_lt.2 c4)
   simp only [Option.some.injEq, Prod.mk.injEq] at H
   obtain ⟨rfl, rfl, rfl, rfl, rfl⟩ := H
   go_enter Tryd.func31, Tryd.ntmps31
   go_wp2_with (first | ((with_reducible refine qZ_ (N := 2) rfl ?_); refine qJ_ ?hg (N := 2) ?hd (cs := #[.int .i64 0, .bool false, .string (⟨#[]⟩ : ByteArray), .slice none 0 0, .slice none 0 0]) (t := 25) ?hr ?_; (case hd => rfl); (case hg => rfl); (case hr => first | (go_simp; done) | (go_simp; rfl)); intro vq_ hg w5 hbox hb; have n0_ := q0_.mk (q4_ (by repeat (first | (with_reducible first | exact HB.out | apply q6_ | apply q5_ | apply q7_) | exact HB.out)) hb); have n1_ := q0_.mk (hbox); have n2_ := q0_.mk ((by rw [hg]; exact (qw_ (by repeat (first | (with_reducible first | exact HB.out | apply q6_ | apply q5_ | apply q7_) | exact HB.out))) : w.heap.size ≤ vq_)); have n3_ := q0_.mk ((by rw [hg]; exact (qw_ (by repeat (first | (with_reducible first | exact HB.out | apply q6_ | apply q5_ | apply q7_) | exact HB.out))) : w.heap.size ≤ vq_)); clear HB; have HB := n0_; have xB_ := n1_; have GW300 := n2_; have Dk_ := n3_; clear n0_ n1_ n2_ n3_; clear hb hbox hg) | ((with_reducible refine qh_ (f := 45) rfl ?_); refine goesL_ (some 6) rfl rfl Tryd.func45 (by kernel_rfl) rfl #[.int .i64 a0] rfl (by (try simp only [List.map_toArray, List.map_cons, List.map_nil]); first | done | rfl | (simp only [List.length_drop, List.length_take]; rfl)) ?_; (with_reducible refine (colophonref10_digits.calls k a0 VR_ _ A3.out).mono ?_); rintro e w6 ⟨rfl, hb⟩; refine ⟨_, rfl, ?_⟩; have n0_ := q0_.mk (q2_ (g := vq_) (o := .cells #[.int .i64 0, .bool false, .string (⟨#[]⟩ : ByteArray), .slice none 0 0, .slice none 0 0] 25 (0, 0)) (by (with_reducible repeat (first | refine q9_ ?_ _ | refine qz_ ?_ | refine q8_ ?_ _)); exact xB_.out) hb); have n1_ := q0_.mk (q4_ (by repeat (first | (with_reducible first | exact HB.out | apply q6_ | apply q5_ | apply q7_ | refine qq_ ?_ Dk_.out) | exact HB.out)) hb); clear xB_; clear HB; have xB_ := n0_; have HB := n1_; clear n0_ n1_; (try clear hb); (try clear hb2); (try clear hk); (try clear hi); have Xf_ : w6.cell? ⟨vq_, 0, none⟩ = some (.int .i64 0) := (q1_ xB_.out 0).trans rfl; have XH_ : w6.cell? ⟨vq_, 1, none⟩ = some (.bool false) := (q1_ xB_.out 1).trans rfl; have Xh_ : w6.cell? ⟨vq_, 2, none⟩ = some (.string (⟨#[]⟩ : ByteArray)) := (q1_ xB_.out 2).trans rfl; have XG_ : w6.cell? ⟨vq_, 3, none⟩ = some (.slice none 0 0) := (q1_ xB_.out 3).trans rfl; have Xg_ : w6.cell? ⟨vq_, 4, none⟩ = some (.slice none 0 0) := (q1_ xB_.out 4).trans rfl; have X5_ := q3_ xB_.out 0; have X4_ := q3_ xB_.out 1; have X3_ := q3_ xB_.out 2; have X2_ := q3_ xB_.out 3; have X1_ := q3_ xB_.out 4))
   refine bodyPost_ret (results_cell_row rfl _ _ vq_ 25 #[.int .i64 2, .bool false, .string ((⟨#[45]⟩ : ByteArray) ++ VR_), .slice none 0 0, .slice none 0 0] (0, 0) _ rfl (by (with_reducible repeat (first | refine q9_ ?_ _ | refine qz_ ?_ | refine q8_ ?_ _)); refine qv_ (cs := #[.int .i64 2, .bool false, .string ((⟨#[45]⟩ : ByteArray) ++ VR_), .slice none 0 0, .slice none 0 0]) ?_ 4 _ rfl; (with_reducible repeat (first | refine q9_ ?_ _ | refine qz_ ?_ | refine q8_ ?_ _)); refine qv_ (cs := #[.int .i64 2, .bool false, .string ((⟨#[45]⟩ : ByteArray) ++ VR_), .slice none 0 0, .slice none 0 0]) ?_ 3 _ rfl; (with_reducible repeat (first | refine q9_ ?_ _ | refine qz_ ?_ | refine q8_ ?_ _)); refine qv_ (cs := #[.int .i64 2, .bool false, .string (⟨#[]⟩ : ByteArray), .slice none 0 0, .slice none 0 0]) ?_ 2 _ rfl; (with_reducible repeat (first | refine q9_ ?_ _ | refine qz_ ?_ | refine q8_ ?_ _)); refine qv_ (cs := #[.int .i64 2, .bool false, .string (⟨#[]⟩ : ByteArray), .slice none 0 0, .slice none 0 0]) ?_ 1 _ rfl; (with_reducible repeat (first | refine q9_ ?_ _ | refine qz_ ?_ | refine q8_ ?_ _)); refine qv_ (cs := #[.int .i64 0, .bool false, .string (⟨#[]⟩ : ByteArray), .slice none 0 0, .slice none 0 0]) ?_ 0 _ rfl; (with_reducible repeat (first | refine q9_ ?_ _ | refine qz_ ?_ | refine q8_ ?_ _)); exact xB_.out) Tryd.underlying25 rfl (by kernel_rfl)) rfl ?_
   exact ⟨_, _, by first | rfl | (simp [qk_, qy_] <;> rfl) | (simp [qk_, qy_] <;> decide +kernel) | (simp [*, qk_, qy_] <;> rfl), by first | exact Kd.R_nil _ _ _ _ _ | exact Kd.N_nil _ _ _ _ _ | exact Kd.V_nil _ _ _ _ _ | exact Kd.Q_nil _ _ _ _ _ | exact Kd.S_nil _ _ _ _ _, by first | exact Kd.R_nil _ _ _ _ _ | exact Kd.N_nil _ _ _ _ _ | exact Kd.V_nil _ _ _ _ _ | exact Kd.Q_nil _ _ _ _ _ | exact Kd.S_nil _ _ _ _ _, by repeat (first | (with_reducible first | exact HB.out | apply q6_ | apply q5_ | apply q7_ | refine qq_ ?_ Dk_.out) | exact HB.out)⟩
  ·
   rw [if_neg c4] at H
   exact absurd H (by simp)
 ·
  rw [if_neg c2] at H
  have c2b0 : decide (a0 < 0) = false := decide_eq_false c2
  clear c2
  replace H := Option.bind_eq_some_iff.mp H
  obtain ⟨p1_, A80, H⟩ := H
  replace H : (some (2, false, p1_, ([] : List (S25)), ([] : List ByteArray))) = some (r1, r2, r3, r4, r5) := H
  have A8 := q0_.mk A80
  clear A80
  simp only [Option.some.injEq, Prod.mk.injEq] at H
  obtain ⟨rfl, rfl, rfl, rfl, rfl⟩ := H
  go_enter Tryd.func31, Tryd.ntmps31
  go_wp2_with (first | ((with_reducible refine qZ_ (N := 2) rfl ?_); refine qJ_ ?hg (N := 2) ?hd (cs := #[.int .i64 0, .bool false, .string (⟨#[]⟩ : ByteArray), .slice none 0 0, .slice none 0 0]) (t := 25) ?hr ?_; (case hd => rfl); (case hg => rfl); (case hr => first | (go_simp; done) | (go_simp; rfl)); intro vq_ hg w9 hbox hb; have n0_ := q0_.mk (q4_ (by repeat (first | (with_reducible first | exact HB.out | apply q6_ | apply q5_ | apply q7_) | exact HB.out)) hb); have n1_ := q0_.mk (hbox); have n2_ := q0_.mk ((by rw [hg]; exact (qw_ (by repeat (first | (with_reducible first | exact HB.out | apply q6_ | apply q5_ | apply q7_) | exact HB.out))) : w.heap.size ≤ vq_)); have n3_ := q0_.mk ((by rw [hg]; exact (qw_ (by repeat (first | (with_reducible first | exact HB.out | apply q6_ | apply q5_ | apply q7_) | exact HB.out))) : w.heap.size ≤ vq_)); clear HB; have HB := n0_; have xB_ := n1_; have GW300 := n2_; have Dk_ := n3_; clear n0_ n1_ n2_ n3_; clear hb hbox hg) | ((with_reducible refine qh_ (f := 45) rfl ?_); refine goesL_ (some 11) rfl rfl Tryd.func45 (by kernel_rfl) rfl #[.int .i64 (wrap64 (-a0))] rfl (by (try simp only [List.map_toArray, List.map_cons, List.map_nil]); first | done | rfl | (simp only [List.length_drop, List.length_take]; rfl)) ?_; (with_reducible refine (colophonref10_digits.calls k (wrap64 (-a0)) p1_ _ A8.out).mono ?_); rintro e w10 ⟨rfl, hb⟩; refine ⟨_, rfl, ?_⟩; have n0_ := q0_.mk (q2_ (g := vq_) (o := .cells #[.int .i64 0, .bool false, .string (⟨#[]⟩ : ByteArray), .slice none 0 0, .slice none 0 0] 25 (0, 0)) (by (with_reducible repeat (first | refine q9_ ?_ _ | refine qz_ ?_ | refine q8_ ?_ _)); exact xB_.out) hb); have n1_ := q0_.mk (q4_ (by repeat (first | (with_reducible first | exact HB.out | apply q6_ | apply q5_ | apply q7_ | refine qq_ ?_ Dk_.out) | exact HB.out)) hb); clear xB_; clear HB; have xB_ := n0_; have HB := n1_; clear n0_ n1_; (try clear hb); (try clear hb2); (try clear hk); (try clear hi); have v9_ : w10.cell? ⟨vq_, 0, none⟩ = some (.int .i64 0) := (q1_ xB_.out 0).trans rfl; have v8_ : w10.cell? ⟨vq_, 1, none⟩ = some (.bool false) := (q1_ xB_.out 1).trans rfl; have v7_ : w10.cell? ⟨vq_, 2, none⟩ = some (.string (⟨#[]⟩ : ByteArray)) := (q1_ xB_.out 2).trans rfl; have v6_ : w10.cell? ⟨vq_, 3, none⟩ = some (.slice none 0 0) := (q1_ xB_.out 3).trans rfl; have v5_ : w10.cell? ⟨vq_, 4, none⟩ = some (.slice none 0 0) := (q1_ xB_.out 4).trans rfl; have yp_ := q3_ xB_.out 0; have yD_ := q3_ xB_.out 1; have yd_ := q3_ xB_.out 2; have yB_ := q3_ xB_.out 3; have yb_ := q3_ xB_.out 4))
  refine bodyPost_ret (results_cell_row rfl _ _ vq_ 25 #[.int .i64 2, .bool false, .string p1_, .slice none 0 0, .slice none 0 0] (0, 0) _ rfl (by (with_reducible repeat (first | refine q9_ ?_ _ | refine qz_ ?_ | refine q8_ ?_ _)); refine qv_ (cs := #[.int .i64 2, .bool false, .string p1_, .slice none 0 0, .slice none 0 0]) ?_ 4 _ rfl; (with_reducible repeat (first | refine q9_ ?_ _ | refine qz_ ?_ | refine q8_ ?_ _)); refine qv_ (cs := #[.int .i64 2, .bool false, .string p1_, .slice none 0 0, .slice none 0 0]) ?_ 3 _ rfl; (with_reducible repeat (first | refine q9_ ?_ _ | refine qz_ ?_ | refine q8_ ?_ _)); refine qv_ (cs := #[.int .i64 2, .bool false, .string (⟨#[]⟩ : ByteArray), .slice none 0 0, .slice none 0 0]) ?_ 2 _ rfl; (with_reducible repeat (first | refine q9_ ?_ _ | refine qz_ ?_ | refine q8_ ?_ _)); refine qv_ (cs := #[.int .i64 2, .bool false, .string (⟨#[]⟩ : ByteArray), .slice none 0 0, .slice none 0 0]) ?_ 1 _ rfl; (with_reducible repeat (first | refine q9_ ?_ _ | refine qz_ ?_ | refine q8_ ?_ _)); refine qv_ (cs := #[.int .i64 0, .bool false, .string (⟨#[]⟩ : ByteArray), .slice none 0 0, .slice none 0 0]) ?_ 0 _ rfl; (with_reducible repeat (first | refine q9_ ?_ _ | refine qz_ ?_ | refine q8_ ?_ _)); exact xB_.out) Tryd.underlying25 rfl (by kernel_rfl)) rfl ?_
  exact ⟨_, _, by first | rfl | (simp [qk_, qy_] <;> rfl) | (simp [qk_, qy_] <;> decide +kernel) | (simp [*, qk_, qy_] <;> rfl), by first | exact Kd.R_nil _ _ _ _ _ | exact Kd.N_nil _ _ _ _ _ | exact Kd.V_nil _ _ _ _ _ | exact Kd.Q_nil _ _ _ _ _ | exact Kd.S_nil _ _ _ _ _, by first | exact Kd.R_nil _ _ _ _ _ | exact Kd.N_nil _ _ _ _ _ | exact Kd.V_nil _ _ _ _ _ | exact Kd.Q_nil _ _ _ _ _ | exact Kd.S_nil _ _ _ _ _, by repeat (first | (with_reducible first | exact HB.out | apply q6_ | apply q5_ | apply q7_ | refine qq_ ?_ Dk_.out) | exact HB.out)⟩
end Go.Proofs.YtfpmompdgmklmaaDoor.P
