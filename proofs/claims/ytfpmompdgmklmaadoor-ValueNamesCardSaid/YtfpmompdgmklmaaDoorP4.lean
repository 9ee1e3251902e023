import Derived.Test.YtfpmompdgmklmaaDoorP0
import Derived.Test.YtfpmompdgmklmaaDoorV4
namespace Go.Proofs.YtfpmompdgmklmaaDoor.P
attribute [-simp] List.length_drop List.length_take ByteArray.size_append
open Go.RowKit Go.Proofs.YtfpmompdgmklmaaDoorW.PrintWords Go.Proofs.YtfpmompdgmklmaaDoorW.PrintLast Go.Proofs.YtfpmompdgmklmaaDoorW.PrintMore
attribute [local go_sem] max2_int min2_int max_two min_two max_three min_three max_four min_four   -- for this text's walks alone
set_option linter.unusedVariables false
set_option linter.unusedSimpArgs false
/-! ### value_Get: function 24 -/
def value_Get.l0 : Nat → ByteArray → Int → Int → Bool → ByteArray → List (S25) → List ByteArray → Option (Int × Bool × ByteArray × (List (S25)) × List ByteArray × Bool)
 | 0, _, _, _, _, _, _, _ => none
 | k + 1, x1, x6, rg_, rW_, rV_, ws_, Vr_ => if x6 ≥ 0 then (if 0 ≤ x6 then (if x6 < (Vr_.length : Int) then (if (rdOf ByteArray.empty Vr_ x6).toList = x1.toList then (if x6 < (ws_.length : Int) then ((value_Copy.f ((qj_ ws_ x6).f0) ((qj_ ws_ x6).f1) ((qj_ ws_ x6).f2) ((qj_ ws_ x6).f3) ((qj_ ws_ x6).f4)).bind fun K9_ => (some (K9_.1, K9_.2.1, K9_.2.2.1, K9_.2.2.2.1, K9_.2.2.2.2, true))) else (none)) else (value_Get.l0 k x1 (wrap64 (x6 - 1)) rg_ rW_ rV_ ws_ Vr_)) else (none)) else (none)) else (some (0, false, (⟨#[]⟩ : ByteArray), ([] : List (S25)), ([] : List ByteArray), false))
def value_Get.f (k : Nat) (z1_ : Int) (z5_ : Bool) (z3_ : ByteArray) (z0_ : List (S25)) (z2_ : List ByteArray) (a1 : ByteArray) : Option (Int × Bool × ByteArray × (List (S25)) × List ByteArray × Bool) := if z1_ = 5 then (value_Get.l0 k a1 (wrap64 ((mn (z2_.length : Int) (z0_.length : Int)) - 1)) z1_ z5_ z3_ z0_ z2_) else (some (0, false, (⟨#[]⟩ : ByteArray), ([] : List (S25)), ([] : List ByteArray), false))
theorem value_Get.mono_l : ∀ k, (∀ y0 y1 y2 y3 y4 y5 y6, LeO (value_Get.l0 k y0 y1 y2 y3 y4 y5 y6) (value_Get.l0 (k + 1) y0 y1 y2 y3 y4 y5 y6))
 | 0 => fun _ _ _ _ _ _ _ r h => by simp [value_Get.l0] at h
 | k + 1 => by
  have ih0 := value_Get.mono_l k
  ·
   intro y0 y1 y2 y3 y4 y5 y6
   unfold value_Get.l0
   repeat' first
   | (with_reducible exact ih0 _ _ _ _ _ _ _)
   | (with_reducible exact LeO.refl _)
   | (with_reducible exact LeO.none _)
   | (with_reducible refine LeO.ite ?_ ?_)
   | (with_reducible refine LeO.bind ?_ (fun _ => ?_))
   | exact ih0 _ _ _ _ _ _ _
   | exact LeO.none _
   | refine LeO.ite ?_ ?_
   | refine LeO.bind ?_ (fun _ => ?_)
theorem value_Get.mono : ∀ a0 a1 a2 a3 a4 a5 k, LeO (value_Get.f k a0 a1 a2 a3 a4 a5) (value_Get.f (k + 1) a0 a1 a2 a3 a4 a5) := by
 intro a0 a1 a2 a3 a4 a5 k
 have ih0 := value_Get.mono_l k
 unfold value_Get.f
 repeat' first
   | (with_reducible exact ih0 _ _ _ _ _ _ _)
   | (with_reducible exact LeO.refl _)
   | (with_reducible exact LeO.none _)
   | (with_reducible refine LeO.ite ?_ ?_)
   | (with_reducible refine LeO.bind ?_ (fun _ => ?_))
   | exact ih0 _ _ _ _ _ _ _
   | exact LeO.none _
   | refine LeO.ite ?_ ?_
   | refine LeO.bind ?_ (fun _ => ?_)
set_option maxHeartbeats 8000000 in
set_option maxRecDepth 100000 in
theorem value_Get.calls (k : Nat) (z1_ : Int) (z5_ : Bool) (z3_ : ByteArray) (zj_ : Option Addr) (z9_ : Nat) (z0_ : List (S25)) (zz_ : Option Addr) (zq_ : Nat) (z2_ : List ByteArray) (a1 : ByteArray) (r1 : Int) (r2 : Bool) (r3 : ByteArray) (r4 : List (S25)) (r5 : List ByteArray) (r6 : Bool) (w : World) (jk_ : Kd.C k25 w zj_ z0_.length z0_) (jv_ : z0_.length ≤ z9_) (jx_ : Kd.C Kd.string w zz_ z2_.length z2_) (jy_ : z2_.length ≤ zq_) (h : value_Get.f k z1_ z5_ z3_ z0_ z2_ a1 = some (r1, r2, r3, r4, r5, r6)) :
  Calls Tryd.prog 24 #[.agg #[.int .i64 z1_, .bool z5_, .string z3_, .slice zj_ z0_.length z9_, .slice zz_ z2_.length zq_], .string a1] w fun e w' => ∃ v3_ v4_ : Value, e = .returned (.tuple #[.agg #[.int .i64 r1, .bool r2, .string r3, v3_, v4_], .bool r6]) ∧ Kd.R k25 25 w' w.heap.size (fun k_ => some k_ ≠ (v4_ : Value).ownBlock) v3_ r4 ∧ Kd.R Kd.string 9 w' w.heap.size (fun _ => True) v4_ r5 ∧ Below w.heap.size w w' := by
 have kP_ := Tryd.underlying25
 have x3_ := q0_.mk jk_
 have k4_ := q0_.mk jv_
 clear jk_ jv_
 have xX_ := q0_.mk jx_
 have xr_ := q0_.mk jy_
 clear jx_ jy_
 have HB := q0_.mk (Below.refl w.heap.size w)
 have H : (if z1_ = 5 then (value_Get.l0 k a1 (wrap64 ((mn (z2_.length : Int) (z0_.length : Int)) - 1)) z1_ z5_ z3_ z0_ z2_) else (some (0, false, (⟨#[]⟩ : ByteArray), ([] : List (S25)), ([] : List ByteArray), false))) = some (r1, r2, r3, r4, r5, r6) := h
 clear h
 by_cases c3 : z1_ = 5
 ·
  rw [if_pos c3] at H
  have Z5_ : (z1_ == 5) = true := beq_iff_eq.mpr c3
  have Kg_ : (z1_ != 5) = false := bne_eq_false_iff_eq.mpr c3
  clear c3
  obtain ⟨ji4, WK_⟩ : ∃ j_ : Int, (mn (z2_.length : Int) (z0_.length : Int)) = j_ := ⟨_, rfl⟩
  replace H : (value_Get.l0 k a1 (wrap64 ((ji4) - 1)) z1_ z5_ z3_ z0_ z2_) = some (r1, r2, r3, r4, r5, r6) := by first | (rw [WK_] at H; exact H) | (simp only [WK_] at H ⊢; exact H)
  (try (have hji4l : 0 ≤ ji4 := by (rw [← WK_]; unfold mn; (repeat' split) <;> omega)))
  (try (have hji4m : 0 ≤ ji4 := by omega))
  have hji4_ : (if (z0_.length : Int) < (z2_.length : Int) then (z0_.length : Int) else (z2_.length : Int)) = ji4 := WK_
  have hji4_n : (if z0_.length < z2_.length then (z0_.length : Int) else (z2_.length : Int)) = ji4 := by rw [← hji4_]; simp only [Int.ofNat_lt]
  have H' := q0_.mk H
  clear H
  go_enter Tryd.func24, Tryd.ntmps24
  go_wp2_with (first | ((with_reducible refine qZ_ (N := 2) rfl ?_); refine qJ_ ?hg (N := 2) ?hd (cs := #[.int .i64 z1_, .bool z5_, .string z3_, .slice zj_ z0_.length z9_, .slice zz_ z2_.length zq_]) (t := 25) ?hr ?_; (case hd => rfl); (case hg => rfl); (case hr => first | (go_simp; done) | (go_simp; rfl)); intro js_ hg w5 hbox hb; have n0_ := q0_.mk (q4_ (by repeat (first | (with_reducible first | exact HB.out | apply q6_ | apply q5_ | apply q7_) | exact HB.out)) hb); have n1_ := q0_.mk (hbox); have n2_ := q0_.mk ((by rw [hg]; exact (qw_ (by repeat (first | (with_reducible first | exact HB.out | apply q6_ | apply q5_ | apply q7_) | exact HB.out))) : w.heap.size ≤ js_)); have n3_ := q0_.mk ((by rw [hg]; exact (qw_ (by repeat (first | (with_reducible first | exact HB.out | apply q6_ | apply q5_ | apply q7_) | exact HB.out))) : w.heap.size ≤ js_)); clear HB; have HB := n0_; have j2_ := n1_; have GW108 := n2_; have Z1_ := n3_; clear n0_ n1_ n2_ n3_; clear hb hbox hg) | ((with_reducible refine qZ_ (N := 4) rfl ?_); refine qJ_ ?hg (N := 4) ?hd (cs := #[.int .i64 0, .bool false, .string (⟨#[]⟩ : ByteArray), .slice none 0 0, .slice none 0 0]) (t := 25) ?hr ?_; (case hd => rfl); (case hg => rfl); (case hr => first | (go_simp; done) | (go_simp; rfl)); intro zp_ hg w6 hbox hb; have n0_ := q0_.mk (q2_ (g := js_) (o := .cells #[.int .i64 z1_, .bool z5_, .string z3_, .slice zj_ z0_.length z9_, .slice zz_ z2_.length zq_] 25 (0, 0)) (by (with_reducible repeat (first | refine q9_ ?_ _ | refine qz_ ?_ | refine q8_ ?_ _)); exact j2_.out) hb); have n1_ := q0_.mk (q4_ (by repeat (first | (with_reducible first | exact HB.out | apply q6_ | apply q5_ | apply q7_ | refine qq_ ?_ Z1_.out) | exact HB.out)) hb); have n2_ := q0_.mk (hbox); have n3_ := q0_.mk ((by rw [hg]; exact (qw_ (by repeat (first | (with_reducible first | exact HB.out | apply q6_ | apply q5_ | apply q7_ | refine qq_ ?_ Z1_.out) | exact HB.out))) : w.heap.size ≤ zp_)); have n4_ := q0_.mk ((by rw [hg]; exact (qw_ (by repeat (first | (with_reducible first | exact HB.out | apply q6_ | apply q5_ | apply q7_ | refine qq_ ?_ Z1_.out) | exact HB.out))) : w.heap.size ≤ zp_)); have n5_ := q0_.mk ((by rw [hg]; exact Nat.ne_of_lt (qY_ (g := js_) (o := .cells #[.int .i64 z1_, .bool z5_, .string z3_, .slice zj_ z0_.length z9_, .slice zz_ z2_.length zq_] 25 (0, 0)) (by (with_reducible repeat (first | refine q9_ ?_ _ | refine qz_ ?_ | refine q8_ ?_ _)); exact j2_.out)) : js_ ≠ zp_)); have n6_ := q0_.mk ((by rw [hg]; exact Nat.ne_of_gt (qY_ (g := js_) (o := .cells #[.int .i64 z1_, .bool z5_, .string z3_, .slice zj_ z0_.length z9_, .slice zz_ z2_.length zq_] 25 (0, 0)) (by (with_reducible repeat (first | refine q9_ ?_ _ | refine qz_ ?_ | refine q8_ ?_ _)); exact j2_.out)) : zp_ ≠ js_)); clear j2_; clear HB; have j2_ := n0_; have HB := n1_; have zV_ := n2_; have GW109 := n3_; have kp_ := n4_; have y8_ := n5_; have y7_ := n6_; clear n0_ n1_ n2_ n3_ n4_ n5_ n6_; clear hb hbox hg; have hnb7 := y8_.out; have hnc7 := y7_.out; have dz_ : w6.cell? ⟨js_, 0, none⟩ = some (.int .i64 z1_) := (q1_ j2_.out 0).trans rfl; have dq_ : w6.cell? ⟨js_, 1, none⟩ = some (.bool z5_) := (q1_ j2_.out 1).trans rfl; have d9_ : w6.cell? ⟨js_, 2, none⟩ = some (.string z3_) := (q1_ j2_.out 2).trans rfl; have d8_ : w6.cell? ⟨js_, 3, none⟩ = some (.slice zj_ z0_.length z9_) := (q1_ j2_.out 3).trans rfl; have d7_ : w6.cell? ⟨js_, 4, none⟩ = some (.slice zz_ z2_.length zq_) := (q1_ j2_.out 4).trans rfl; have Bh_ := q3_ j2_.out 0; have BG_ := q3_ j2_.out 1; have Bg_ := q3_ j2_.out 2; have BW_ := q3_ j2_.out 3; have BV_ := q3_ j2_.out 4))
  go_loopg [6] k (fun kq v6 w' => ∃ (x0_ : Int) (xH_ : Int) (xq_ : Bool) (jG_ : ByteArray), v6 = .int .i64 x0_ ∧ q0_ (value_Get.l0 kq a1 x0_ z1_ z5_ z3_ z0_ z2_ = some (r1, r2, r3, r4, r5, r6)) ∧ q0_ (kq ≤ k) ∧ q0_ (w'.heap[js_]? = some (.cells #[.int .i64 z1_, .bool z5_, .string z3_, (.slice zj_ z0_.length z9_), (.slice zz_ z2_.length zq_)] 25 (0, 0))) ∧ q0_ (w'.heap[zp_]? = some (.cells #[.int .i64 xH_, .bool xq_, .string jG_, (.slice none 0 0), (.slice none 0 0)] 25 (0, 0))) ∧ q0_ (Below w.heap.size w w'))
  case atStart => exact ⟨(wrap64 ((ji4) - 1)), (0), (false), ((⟨#[]⟩ : ByteArray)), (by first | rfl | (simp; done) | (simp only [← WK_] <;> (first | rfl | simp)) | (simp [*]; done)), H', ⟨Nat.le_refl _⟩, ⟨by (with_reducible repeat (first | refine q9_ ?_ _ | refine qz_ ?_ | refine q8_ ?_ _)); exact j2_.out⟩, ⟨by (with_reducible repeat (first | refine q9_ ?_ _ | refine qz_ ?_ | refine q8_ ?_ _)); exact zV_.out⟩, ⟨by repeat (first | (with_reducible first | exact HB.out | apply q6_ | apply q5_ | apply q7_ | refine qq_ ?_ Z1_.out | refine qq_ ?_ kp_.out) | exact HB.out)⟩⟩
  case round =>
   clear H'
   try clear c2
   try clear p2
   try clear c3
   try clear Z5_
   try clear Kg_
   try clear p6
   try clear c7
   try clear dz_
   try clear dq_
   try clear d9_
   try clear d8_
   try clear d7_
   try clear Bh_
   try clear BG_
   try clear Bg_
   try clear BW_
   try clear BV_
   obtain ⟨x0_, xH_, xq_, jG_, rfl, HA, HK1, j2_, zV_, HB⟩ := hrel
   cases gk with
   | zero => exact absurd HA.out (by simp [value_Get.l0])
   | succ k1 =>
    have H := HA.out
    clear HA
    simp only [value_Get.l0] at H
    by_cases c9 : x0_ ≥ 0
    ·
     rw [if_pos c9] at H
     have r3_ : decide (0 ≤ x0_) = true := decide_eq_true c9
     clear c9
     by_cases c10 : 0 ≤ x0_
     ·
      rw [if_pos c10] at H
      have dS_ : decide (0 ≤ x0_) = true := decide_eq_true c10
      clear c10
      by_cases c11 : x0_ < (z2_.length : Int)
      ·
       rw [if_pos c11] at H
       have Vw_ : decide (x0_ < (z2_.length : Int)) = true := decide_eq_true c11
       clear c11
       by_cases c12 : (rdOf ByteArray.empty z2_ x0_).toList = a1.toList
       ·
        rw [if_pos c12] at H
        have dR_ : ((rdOf ByteArray.empty z2_ x0_).toList == a1.toList) = true := beq_iff_eq.mpr c12
        have c12b1 : ((rdOf ByteArray.empty z2_ x0_).toList != a1.toList) = false := bne_eq_false_iff_eq.mpr c12
        clear c12
        by_cases c13 : x0_ < (z0_.length : Int)
        ·
         rw [if_pos c13] at H
         have c13b0 : decide (x0_ < (z0_.length : Int)) = true := decide_eq_true c13
         clear c13
         replace H := Option.bind_eq_some_iff.mp H
         obtain ⟨⟨p8_, PR_, rB_, t115, t118⟩, A140, H⟩ := H
         replace H : (some (p8_, PR_, rB_, t115, t118, true)) = some (r1, r2, r3, r4, r5, r6) := H
         have A14 := q0_.mk A140
         clear A140
         simp only [Option.some.injEq, Prod.mk.injEq] at H
         obtain ⟨rfl, rfl, rfl, rfl, rfl, rfl⟩ := H
         have hnb15 := y8_.out
         have hnc15 := y7_.out
         have Qs_ : wr.cell? ⟨js_, 0, none⟩ = some (.int .i64 z1_) := (q1_ j2_.out 0).trans rfl
         have QR_ : wr.cell? ⟨js_, 1, none⟩ = some (.bool z5_) := (q1_ j2_.out 1).trans rfl
         have Qr_ : wr.cell? ⟨js_, 2, none⟩ = some (.string z3_) := (q1_ j2_.out 2).trans rfl
         have QP_ : wr.cell? ⟨js_, 3, none⟩ = some (.slice zj_ z0_.length z9_) := (q1_ j2_.out 3).trans rfl
         have Qp_ : wr.cell? ⟨js_, 4, none⟩ = some (.slice zz_ z2_.length zq_) := (q1_ j2_.out 4).trans rfl
         have QD_ := q3_ j2_.out 0
         have Qd_ := q3_ j2_.out 1
         have QB_ := q3_ j2_.out 2
         have Qb_ := q3_ j2_.out 3
         have QF_ := q3_ j2_.out 4
         have Rz_ : 0 ≤ (x0_ : Int) := of_decide_eq_true (by first | (with_reducible assumption) | assumption)
         have R0_ : x0_ < (z2_.length : Int) := of_decide_eq_true (by first | (with_reducible assumption) | assumption)
         obtain ⟨ad110, e110, QJ_⟩ := Kd.at_string xX_.out x0_ Rz_ R0_
         cases e110
         replace QJ_ := (HB.out.cell (World.block_lt_of_cell? w _ QJ_)).trans QJ_
         replace Rz_ := eq_true Rz_
         replace R0_ := eq_true R0_
         have p111 : 0 ≤ (x0_ : Int) := of_decide_eq_true (by first | (with_reducible assumption) | assumption)
         have q111 : x0_ < (z0_.length : Int) := of_decide_eq_true (by first | (with_reducible assumption) | assumption)
         obtain ⟨ad111, A111_3, c111_3, A111_4, c111_4, e111, Ww_, Wv_, Wy_, Wk_, Wx_, Bz_, BX_, Bq_, BJ_⟩ := at_T25 x3_.out x0_ p111 q111
         cases e111
         replace Ww_ := (HB.out.cell (World.block_lt_of_cell? w _ Ww_)).trans Ww_
         replace Wv_ := (HB.out.cell (World.block_lt_of_cell? w _ Wv_)).trans Wv_
         replace Wy_ := (HB.out.cell (World.block_lt_of_cell? w _ Wy_)).trans Wy_
         replace Wk_ := (HB.out.cell (World.block_lt_of_cell? w _ Wk_)).trans Wk_
         replace Wx_ := (HB.out.cell (World.block_lt_of_cell? w _ Wx_)).trans Wx_
         have HR111_3 := q0_.mk BX_
         have HC111_3 := q0_.mk Bz_
         clear BX_ Bz_
         have HR111_4 := q0_.mk BJ_
         have HC111_4 := q0_.mk Bq_
         clear BJ_ Bq_
         replace p111 := eq_true p111
         replace q111 := eq_true q111
         go_wp2_with (first | ((with_reducible refine qh_ (f := 21) rfl ?_); refine goesL_ (some 35) rfl rfl Tryd.func21 (by kernel_rfl) rfl #[.agg #[.int .i64 ((qj_ z0_ x0_).f0), .bool ((qj_ z0_ x0_).f1), .string ((qj_ z0_ x0_).f2), .slice A111_3 ((qj_ z0_ x0_).f3).length c111_3, .slice A111_4 ((qj_ z0_ x0_).f4).length c111_4]] rfl (by (try simp only [List.map_toArray, List.map_cons, List.map_nil]); first | done | rfl | (simp only [List.length_drop, List.length_take]; rfl)) ?_; (with_reducible refine (value_Copy.calls ((qj_ z0_ x0_).f0) ((qj_ z0_ x0_).f1) ((qj_ z0_ x0_).f2) _ _ ((qj_ z0_ x0_).f3) _ _ ((qj_ z0_ x0_).f4) p8_ PR_ rB_ t115 t118 _ ?zQ_ ?zZ_ ?zY_ ?zK_ A14.out).mono ?_); (case zQ_ => repeat (first | exact (Kd.qD_ HR111_3.out HB.out) | (with_reducible refine Kd.qP_ ?_ _) | (with_reducible refine Kd.qr_ ?_ _) | (with_reducible refine Kd.qR_ ?_))); (case zZ_ => exact HC111_3.out); (case zY_ => repeat (first | exact (Kd.qD_ HR111_4.out HB.out) | (with_reducible refine Kd.qP_ ?_ _) | (with_reducible refine Kd.qr_ ?_ _) | (with_reducible refine Kd.qR_ ?_))); (case zK_ => exact HC111_4.out); rintro e w17 ⟨v116, v119, rfl, ho0, ho1, hb⟩; refine ⟨_, rfl, ?_⟩; have n0_ := q0_.mk (Kd.R_lower (Kd.R_newB (Kd.R_newB ho0 (g := js_) (o := .cells #[.int .i64 z1_, .bool z5_, .string z3_, .slice (some ad111) z0_.length z9_, .slice (some ad110) z2_.length zq_] 25 (0, 0)) (by (with_reducible repeat (first | refine q9_ ?_ _ | refine qz_ ?_ | refine q8_ ?_ _)); exact j2_.out)) (g := zp_) (o := .cells #[.int .i64 xH_, .bool xq_, .string jG_, .slice none 0 0, .slice none 0 0] 25 (0, 0)) (by (with_reducible repeat (first | refine q9_ ?_ _ | refine qz_ ?_ | refine q8_ ?_ _)); exact zV_.out)) (qw_ (by repeat (first | (with_reducible first | exact HB.out | apply q6_ | apply q5_ | apply q7_ | refine qq_ ?_ Z1_.out | refine qq_ ?_ kp_.out) | exact HB.out)))); have n1_ := q0_.mk (Kd.R_lower ho1 (qw_ (by repeat (first | (with_reducible first | exact HB.out | apply q6_ | apply q5_ | apply q7_ | refine qq_ ?_ Z1_.out | refine qq_ ?_ kp_.out) | exact HB.out)))); have n2_ := q0_.mk (q2_ (g := js_) (o := .cells #[.int .i64 z1_, .bool z5_, .string z3_, .slice (some ad111) z0_.length z9_, .slice (some ad110) z2_.length zq_] 25 (0, 0)) (by (with_reducible repeat (first | refine q9_ ?_ _ | refine qz_ ?_ | refine q8_ ?_ _)); exact j2_.out) hb); have n3_ := q0_.mk (q2_ (g := zp_) (o := .cells #[.int .i64 xH_, .bool xq_, .string jG_, .slice none 0 0, .slice none 0 0] 25 (0, 0)) (by (with_reducible repeat (first | refine q9_ ?_ _ | refine qz_ ?_ | refine q8_ ?_ _)); exact zV_.out) hb); have n4_ := q0_.mk (q4_ (by repeat (first | (with_reducible first | exact HB.out | apply q6_ | apply q5_ | apply q7_ | refine qq_ ?_ Z1_.out | refine qq_ ?_ kp_.out) | exact HB.out)) hb); clear j2_; clear zV_; clear HB; have HO117 := n0_; have HO120 := n1_; have j2_ := n2_; have zV_ := n3_; have HB := n4_; clear n0_ n1_ n2_ n3_ n4_; (try clear hb); (try clear hb2); (try clear hk); (try clear hi); (try clear ho0); (try clear ho1); have kf_ : w17.cell? ⟨zp_, 0, none⟩ = some (.int .i64 xH_) := (q1_ zV_.out 0).trans rfl; have kH_ : w17.cell? ⟨zp_, 1, none⟩ = some (.bool xq_) := (q1_ zV_.out 1).trans rfl; have kh_ : w17.cell? ⟨zp_, 2, none⟩ = some (.string jG_) := (q1_ zV_.out 2).trans rfl; have kG_ : w17.cell? ⟨zp_, 3, none⟩ = some (.slice none 0 0) := (q1_ zV_.out 3).trans rfl; have kg_ : w17.cell? ⟨zp_, 4, none⟩ = some (.slice none 0 0) := (q1_ zV_.out 4).trans rfl; have kW_ := q3_ zV_.out 0; have kV_ := q3_ zV_.out 1; have kY_ := q3_ zV_.out 2; have kK_ := q3_ zV_.out 3; have kX_ := q3_ zV_.out 4; obtain ⟨PY_, pk_, eo19⟩ := Kd.qp_ HO117.out; subst eo19; obtain ⟨PK_, px_, eo20⟩ := Kd.qp_ HO120.out; subst eo20))
         refine bodyPost_ret (results_ct rfl _ _ zp_ 25 #[.int .i64 p8_, .bool PR_, .string rB_, .slice PY_ t115.length pk_, .slice PK_ t118.length px_] (0, 0) _ rfl (by (with_reducible repeat (first | refine q9_ ?_ _ | refine qz_ ?_ | refine q8_ ?_ _)); refine qv_ (cs := #[.int .i64 p8_, .bool PR_, .string rB_, .slice PY_ t115.length pk_, .slice none 0 0]) ?_ 4 _ rfl; (with_reducible repeat (first | refine q9_ ?_ _ | refine qz_ ?_ | refine q8_ ?_ _)); refine qv_ (cs := #[.int .i64 p8_, .bool PR_, .string rB_, .slice none 0 0, .slice none 0 0]) ?_ 3 _ rfl; (with_reducible repeat (first | refine q9_ ?_ _ | refine qz_ ?_ | refine q8_ ?_ _)); refine qv_ (cs := #[.int .i64 p8_, .bool PR_, .string jG_, .slice none 0 0, .slice none 0 0]) ?_ 2 _ rfl; (with_reducible repeat (first | refine q9_ ?_ _ | refine qz_ ?_ | refine q8_ ?_ _)); refine qv_ (cs := #[.int .i64 p8_, .bool xq_, .string jG_, .slice none 0 0, .slice none 0 0]) ?_ 1 _ rfl; (with_reducible repeat (first | refine q9_ ?_ _ | refine qz_ ?_ | refine q8_ ?_ _)); refine qv_ (cs := #[.int .i64 xH_, .bool xq_, .string jG_, .slice none 0 0, .slice none 0 0]) ?_ 0 _ rfl; (with_reducible repeat (first | refine q9_ ?_ _ | refine qz_ ?_ | refine q8_ ?_ _)); exact zV_.out) Tryd.underlying25 rfl (by kernel_rfl)) rfl ?_
         exact ⟨_, _, by first | rfl | (simp [qk_, qy_] <;> rfl) | (simp [qk_, qy_] <;> decide +kernel) | (simp only [← WK_]; first | rfl | (simp [qk_, qy_] <;> rfl) | (simp [qk_, qy_] <;> decide +kernel)) | (simp [*, qk_, qy_] <;> rfl), by (with_reducible repeat (first | apply Kd.R_alloc | apply Kd.R_drewN | apply Kd.R_drew)); exact Kd.qd_ (Kd.qs_ (p := ⟨zp_, 4, none⟩) (Kd.qs_ (p := ⟨zp_, 3, none⟩) (Kd.qs_ (p := ⟨zp_, 2, none⟩) (Kd.qs_ (p := ⟨zp_, 1, none⟩) (Kd.qs_ (p := ⟨zp_, 0, none⟩) (Kd.qd_ HO117.out (fun k_ hk => (⟨hk, hk.2⟩ : _ ∧ k_ ≠ zp_))) (fun _ hk => hk.2) (.int .i64 p8_)) (fun _ hk => hk.2) (.bool PR_)) (fun _ hk => hk.2) (.string rB_)) (fun _ hk => hk.2) (.slice PY_ t115.length pk_)) (fun _ hk => hk.2) (.slice PK_ t118.length px_)) (fun _ hk => hk.1.1.1), by (with_reducible repeat (first | apply Kd.R_alloc | apply Kd.R_drewN | apply Kd.R_drew)); exact Kd.qd_ (Kd.qs_ (p := ⟨zp_, 4, none⟩) (Kd.qs_ (p := ⟨zp_, 3, none⟩) (Kd.qs_ (p := ⟨zp_, 2, none⟩) (Kd.qs_ (p := ⟨zp_, 1, none⟩) (Kd.qs_ (p := ⟨zp_, 0, none⟩) (Kd.R_types HO120.out zV_.out (by decide)) (fun _ hk => hk.2) (.int .i64 p8_)) (fun _ hk => hk.2) (.bool PR_)) (fun _ hk => hk.2) (.string rB_)) (fun _ hk => hk.2) (.slice PY_ t115.length pk_)) (fun _ hk => hk.2) (.slice PK_ t118.length px_)) (fun _ hk => trivial), by repeat (first | (with_reducible first | exact HB.out | apply q6_ | apply q5_ | apply q7_ | refine qq_ ?_ Z1_.out | refine qq_ ?_ kp_.out) | exact HB.out)⟩
        ·
         rw [if_neg c13] at H
         exact absurd H (by simp)
       ·
        rw [if_neg c12] at H
        have dR_ : ((rdOf ByteArray.empty z2_ x0_).toList == a1.toList) = false := beq_eq_false_iff_ne.mpr c12
        have c12b1 : ((rdOf ByteArray.empty z2_ x0_).toList != a1.toList) = true := bne_iff_ne.mpr c12
        have H' := q0_.mk H
        clear H
        have hnb21 := y8_.out
        have hnc21 := y7_.out
        have Xs_ : wr.cell? ⟨js_, 0, none⟩ = some (.int .i64 z1_) := (q1_ j2_.out 0).trans rfl
        have XR_ : wr.cell? ⟨js_, 1, none⟩ = some (.bool z5_) := (q1_ j2_.out 1).trans rfl
        have Xr_ : wr.cell? ⟨js_, 2, none⟩ = some (.string z3_) := (q1_ j2_.out 2).trans rfl
        have XP_ : wr.cell? ⟨js_, 3, none⟩ = some (.slice zj_ z0_.length z9_) := (q1_ j2_.out 3).trans rfl
        have Xp_ : wr.cell? ⟨js_, 4, none⟩ = some (.slice zz_ z2_.length zq_) := (q1_ j2_.out 4).trans rfl
        have Xy_ := q3_ j2_.out 0
        have Xk_ := q3_ j2_.out 1
        have Xx_ := q3_ j2_.out 2
        have Xj_ := q3_ j2_.out 3
        have Xz_ := q3_ j2_.out 4
        have Rz_ : 0 ≤ (x0_ : Int) := of_decide_eq_true (by first | (with_reducible assumption) | assumption)
        have R0_ : x0_ < (z2_.length : Int) := of_decide_eq_true (by first | (with_reducible assumption) | assumption)
        obtain ⟨ad110, e110, QJ_⟩ := Kd.at_string xX_.out x0_ Rz_ R0_
        cases e110
        replace QJ_ := (HB.out.cell (World.block_lt_of_cell? w _ QJ_)).trans QJ_
        replace Rz_ := eq_true Rz_
        replace R0_ := eq_true R0_
        go_wp2
        go_roundg k1
        case measure => have := HK1.out; omega
        case rel => exact ⟨(wrap64 (x0_ - 1)), (xH_), (xq_), (jG_), (by first | rfl | (simp; done) | (simp [*]; done)), H', ⟨by have := HK1.out; omega⟩, ⟨by (with_reducible repeat (first | refine q9_ ?_ _ | refine qz_ ?_ | refine q8_ ?_ _)); exact j2_.out⟩, ⟨by (with_reducible repeat (first | refine q9_ ?_ _ | refine qz_ ?_ | refine q8_ ?_ _)); exact zV_.out⟩, ⟨by repeat (first | (with_reducible first | exact HB.out | apply q6_ | apply q5_ | apply q7_ | refine qq_ ?_ Z1_.out | refine qq_ ?_ kp_.out) | exact HB.out)⟩⟩
      ·
       rw [if_neg c11] at H
       exact absurd H (by simp)
     ·
      rw [if_neg c10] at H
      exact absurd H (by simp)
    ·
     rw [if_neg c9] at H
     have r3_ : decide (0 ≤ x0_) = false := decide_eq_false c9
     clear c9
     simp only [Option.some.injEq, Prod.mk.injEq] at H
     obtain ⟨rfl, rfl, rfl, rfl, rfl, rfl⟩ := H
     have hnb23 := y7_.out
     have hnc23 := y8_.out
     have wq_ : wr.cell? ⟨zp_, 0, none⟩ = some (.int .i64 xH_) := (q1_ zV_.out 0).trans rfl
     have w9_ : wr.cell? ⟨zp_, 1, none⟩ = some (.bool xq_) := (q1_ zV_.out 1).trans rfl
     have w8_ : wr.cell? ⟨zp_, 2, none⟩ = some (.string jG_) := (q1_ zV_.out 2).trans rfl
     have w7_ : wr.cell? ⟨zp_, 3, none⟩ = some (.slice none 0 0) := (q1_ zV_.out 3).trans rfl
     have w6_ : wr.cell? ⟨zp_, 4, none⟩ = some (.slice none 0 0) := (q1_ zV_.out 4).trans rfl
     have vb_ := q3_ zV_.out 0
     have vF_ := q3_ zV_.out 1
     have vf_ := q3_ zV_.out 2
     have vH_ := q3_ zV_.out 3
     have vh_ := q3_ zV_.out 4
     go_wp2
     refine bodyPost_ret (results_ct rfl _ _ zp_ 25 #[.int .i64 0, .bool false, .string (⟨#[]⟩ : ByteArray), .slice none 0 0, .slice none 0 0] (0, 0) _ rfl (by (with_reducible repeat (first | refine q9_ ?_ _ | refine qz_ ?_ | refine q8_ ?_ _)); refine qv_ (cs := #[.int .i64 0, .bool false, .string (⟨#[]⟩ : ByteArray), .slice none 0 0, .slice none 0 0]) ?_ 4 _ rfl; (with_reducible repeat (first | refine q9_ ?_ _ | refine qz_ ?_ | refine q8_ ?_ _)); refine qv_ (cs := #[.int .i64 0, .bool false, .string (⟨#[]⟩ : ByteArray), .slice none 0 0, .slice none 0 0]) ?_ 3 _ rfl; (with_reducible repeat (first | refine q9_ ?_ _ | refine qz_ ?_ | refine q8_ ?_ _)); refine qv_ (cs := #[.int .i64 0, .bool false, .string jG_, .slice none 0 0, .slice none 0 0]) ?_ 2 _ rfl; (with_reducible repeat (first | refine q9_ ?_ _ | refine qz_ ?_ | refine q8_ ?_ _)); refine qv_ (cs := #[.int .i64 0, .bool xq_, .string jG_, .slice none 0 0, .slice none 0 0]) ?_ 1 _ rfl; (with_reducible repeat (first | refine q9_ ?_ _ | refine qz_ ?_ | refine q8_ ?_ _)); refine qv_ (cs := #[.int .i64 xH_, .bool xq_, .string jG_, .slice none 0 0, .slice none 0 0]) ?_ 0 _ rfl; (with_reducible repeat (first | refine q9_ ?_ _ | refine qz_ ?_ | refine q8_ ?_ _)); exact zV_.out) Tryd.underlying25 rfl (by kernel_rfl)) rfl ?_
     exact ⟨_, _, by first | rfl | (simp [qk_, qy_] <;> rfl) | (simp [qk_, qy_] <;> decide +kernel) | (simp only [← WK_]; first | rfl | (simp [qk_, qy_] <;> rfl) | (simp [qk_, qy_] <;> decide +kernel)) | (simp [*, qk_, qy_] <;> rfl), by first | exact Kd.R_nil _ _ _ _ _ | exact Kd.N_nil _ _ _ _ _ | exact Kd.V_nil _ _ _ _ _ | exact Kd.Q_nil _ _ _ _ _ | exact Kd.S_nil _ _ _ _ _, by first | exact Kd.R_nil _ _ _ _ _ | exact Kd.N_nil _ _ _ _ _ | exact Kd.V_nil _ _ _ _ _ | exact Kd.Q_nil _ _ _ _ _ | exact Kd.S_nil _ _ _ _ _, by repeat (first | (with_reducible first | exact HB.out | apply q6_ | apply q5_ | apply q7_ | refine qq_ ?_ Z1_.out | refine qq_ ?_ kp_.out) | exact HB.out)⟩
 ·
  rw [if_neg c3] at H
  have Z5_ : (z1_ == 5) = false := beq_eq_false_iff_ne.mpr c3
  have Kg_ : (z1_ != 5) = true := bne_iff_ne.mpr c3
  simp only [Option.some.injEq, Prod.mk.injEq] at H
  obtain ⟨rfl, rfl, rfl, rfl, rfl, rfl⟩ := H
  go_enter Tryd.func24, Tryd.ntmps24
  go_wp2_with (first | ((with_reducible refine qZ_ (N := 2) rfl ?_); refine qJ_ ?hg (N := 2) ?hd (cs := #[.int .i64 z1_, .bool z5_, .string z3_, .slice zj_ z0_.length z9_, .slice zz_ z2_.length zq_]) (t := 25) ?hr ?_; (case hd => rfl); (case hg => rfl); (case hr => first | (go_simp; done) | (go_simp; rfl)); intro js_ hg w25 hbox hb; have n0_ := q0_.mk (q4_ (by repeat (first | (with_reducible first | exact HB.out | apply q6_ | apply q5_ | apply q7_) | exact HB.out)) hb); have n1_ := q0_.mk (hbox); have n2_ := q0_.mk ((by rw [hg]; exact (qw_ (by repeat (first | (with_reducible first | exact HB.out | apply q6_ | apply q5_ | apply q7_) | exact HB.out))) : w.heap.size ≤ js_)); have n3_ := q0_.mk ((by rw [hg]; exact (qw_ (by repeat (first | (with_reducible first | exact HB.out | apply q6_ | apply q5_ | apply q7_) | exact HB.out))) : w.heap.size ≤ js_)); clear HB; have HB := n0_; have j2_ := n1_; have GW108 := n2_; have Z1_ := n3_; clear n0_ n1_ n2_ n3_; clear hb hbox hg) | ((with_reducible refine qZ_ (N := 4) rfl ?_); refine qJ_ ?hg (N := 4) ?hd (cs := #[.int .i64 0, .bool false, .string (⟨#[]⟩ : ByteArray), .slice none 0 0, .slice none 0 0]) (t := 25) ?hr ?_; (case hd => rfl); (case hg => rfl); (case hr => first | (go_simp; done) | (go_simp; rfl)); intro zp_ hg w26 hbox hb; have n0_ := q0_.mk (q2_ (g := js_) (o := .cells #[.int .i64 z1_, .bool z5_, .string z3_, .slice zj_ z0_.length z9_, .slice zz_ z2_.length zq_] 25 (0, 0)) (by (with_reducible repeat (first | refine q9_ ?_ _ | refine qz_ ?_ | refine q8_ ?_ _)); exact j2_.out) hb); have n1_ := q0_.mk (q4_ (by repeat (first | (with_reducible first | exact HB.out | apply q6_ | apply q5_ | apply q7_ | refine qq_ ?_ Z1_.out) | exact HB.out)) hb); have n2_ := q0_.mk (hbox); have n3_ := q0_.mk ((by rw [hg]; exact (qw_ (by repeat (first | (with_reducible first | exact HB.out | apply q6_ | apply q5_ | apply q7_ | refine qq_ ?_ Z1_.out) | exact HB.out))) : w.heap.size ≤ zp_)); have n4_ := q0_.mk ((by rw [hg]; exact (qw_ (by repeat (first | (with_reducible first | exact HB.out | apply q6_ | apply q5_ | apply q7_ | refine qq_ ?_ Z1_.out) | exact HB.out))) : w.heap.size ≤ zp_)); have n5_ := q0_.mk ((by rw [hg]; exact Nat.ne_of_lt (qY_ (g := js_) (o := .cells #[.int .i64 z1_, .bool z5_, .string z3_, .slice zj_ z0_.length z9_, .slice zz_ z2_.length zq_] 25 (0, 0)) (by (with_reducible repeat (first | refine q9_ ?_ _ | refine qz_ ?_ | refine q8_ ?_ _)); exact j2_.out)) : js_ ≠ zp_)); have n6_ := q0_.mk ((by rw [hg]; exact Nat.ne_of_gt (qY_ (g := js_) (o := .cells #[.int .i64 z1_, .bool z5_, .string z3_, .slice zj_ z0_.length z9_, .slice zz_ z2_.length zq_] 25 (0, 0)) (by (with_reducible repeat (first | refine q9_ ?_ _ | refine qz_ ?_ | refine q8_ ?_ _)); exact j2_.out)) : zp_ ≠ js_)); clear j2_; clear HB; have j2_ := n0_; have HB := n1_; have zV_ := n2_; have GW109 := n3_; have kp_ := n4_; have y8_ := n5_; have y7_ := n6_; clear n0_ n1_ n2_ n3_ n4_ n5_ n6_; clear hb hbox hg; have hnb27 := y8_.out; have hnc27 := y7_.out; have ZG_ : w26.cell? ⟨js_, 0, none⟩ = some (.int .i64 z1_) := (q1_ j2_.out 0).trans rfl; have Zg_ : w26.cell? ⟨js_, 1, none⟩ = some (.bool z5_) := (q1_ j2_.out 1).trans rfl; have ZW_ : w26.cell? ⟨js_, 2, none⟩ = some (.string z3_) := (q1_ j2_.out 2).trans rfl; have ZV_ : w26.cell? ⟨js_, 3, none⟩ = some (.slice zj_ z0_.length z9_) := (q1_ j2_.out 3).trans rfl; have ZY_ : w26.cell? ⟨js_, 4, none⟩ = some (.slice zz_ z2_.length zq_) := (q1_ j2_.out 4).trans rfl; have ZK_ := q3_ j2_.out 0; have ZX_ := q3_ j2_.out 1; have ZJ_ := q3_ j2_.out 2; have ZZ_ := q3_ j2_.out 3; have ZQ_ := q3_ j2_.out 4; have w5_ : w26.cell? ⟨zp_, 0, none⟩ = some (.int .i64 0) := (q1_ zV_.out 0).trans rfl; have w4_ : w26.cell? ⟨zp_, 1, none⟩ = some (.bool false) := (q1_ zV_.out 1).trans rfl; have w3_ : w26.cell? ⟨zp_, 2, none⟩ = some (.string (⟨#[]⟩ : ByteArray)) := (q1_ zV_.out 2).trans rfl; have w2_ : w26.cell? ⟨zp_, 3, none⟩ = some (.slice none 0 0) := (q1_ zV_.out 3).trans rfl; have w1_ : w26.cell? ⟨zp_, 4, none⟩ = some (.slice none 0 0) := (q1_ zV_.out 4).trans rfl; have vG_ := q3_ zV_.out 0; have vg_ := q3_ zV_.out 1; have vW_ := q3_ zV_.out 2; have vV_ := q3_ zV_.out 3; have vY_ := q3_ zV_.out 4))
  refine bodyPost_ret (results_ct rfl _ _ zp_ 25 #[.int .i64 0, .bool false, .string (⟨#[]⟩ : ByteArray), .slice none 0 0, .slice none 0 0] (0, 0) _ rfl (by (with_reducible repeat (first | refine q9_ ?_ _ | refine qz_ ?_ | refine q8_ ?_ _)); refine qv_ (cs := #[.int .i64 0, .bool false, .string (⟨#[]⟩ : ByteArray), .slice none 0 0, .slice none 0 0]) ?_ 4 _ rfl; (with_reducible repeat (first | refine q9_ ?_ _ | refine qz_ ?_ | refine q8_ ?_ _)); refine qv_ (cs := #[.int .i64 0, .bool false, .string (⟨#[]⟩ : ByteArray), .slice none 0 0, .slice none 0 0]) ?_ 3 _ rfl; (with_reducible repeat (first | refine q9_ ?_ _ | refine qz_ ?_ | refine q8_ ?_ _)); refine qv_ (cs := #[.int .i64 0, .bool false, .string (⟨#[]⟩ : ByteArray), .slice none 0 0, .slice none 0 0]) ?_ 2 _ rfl; (with_reducible repeat (first | refine q9_ ?_ _ | refine qz_ ?_ | refine q8_ ?_ _)); refine qv_ (cs := #[.int .i64 0, .bool false, .string (⟨#[]⟩ : ByteArray), .slice none 0 0, .slice none 0 0]) ?_ 1 _ rfl; (with_reducible repeat (first | refine q9_ ?_ _ | refine qz_ ?_ | refine q8_ ?_ _)); refine qv_ (cs := #[.int .i64 0, .bool false, .string (⟨#[]⟩ : ByteArray), .slice none 0 0, .slice none 0 0]) ?_ 0 _ rfl; (with_reducible repeat (first | refine q9_ ?_ _ | refine qz_ ?_ | refine q8_ ?_ _)); exact zV_.out) Tryd.underlying25 rfl (by kernel_rfl)) rfl ?_
  exact ⟨_, _, by first | rfl | (simp [qk_, qy_] <;> rfl) | (simp [qk_, qy_] <;> decide +kernel) | (simp [*, qk_, qy_] <;> rfl), by first | exact Kd.R_nil _ _ _ _ _ | exact Kd.N_nil _ _ _ _ _ | exact Kd.V_nil _ _ _ _ _ | exact Kd.Q_nil _ _ _ _ _ | exact Kd.S_nil _ _ _ _ _, by first | exact Kd.R_nil _ _ _ _ _ | exact Kd.N_nil _ _ _ _ _ | exact Kd.V_nil _ _ _ _ _ | exact Kd.Q_nil _ _ _ _ _ | exact Kd.S_nil _ _ _ _ _, by repeat (first | (with_reducible first | exact HB.out | apply q6_ | apply q5_ | apply q7_ | refine qq_ ?_ Z1_.out | refine qq_ ?_ kp_.out) | exact HB.out)⟩
end Go.Proofs.YtfpmompdgmklmaaDoor.P
