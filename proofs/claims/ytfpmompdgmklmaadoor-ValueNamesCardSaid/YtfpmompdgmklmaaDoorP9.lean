import Derived.Test.YtfpmompdgmklmaaDoorP0
import Derived.Test.YtfpmompdgmklmaaDoorP7
import Derived.Test.YtfpmompdgmklmaaDoorP8
namespace Go.Proofs.YtfpmompdgmklmaaDoor.P
attribute [-simp] List.length_drop List.length_take ByteArray.size_append
open Go.RowKit Go.Proofs.YtfpmompdgmklmaaDoorW.PrintWords Go.Proofs.YtfpmompdgmklmaaDoorW.PrintLast Go.Proofs.YtfpmompdgmklmaaDoorW.PrintMore
attribute [local go_sem] max2_int min2_int max_two min_two max_three min_three max_four min_four   -- for this text's walks alone
set_option linter.unusedVariables false
set_option linter.unusedSimpArgs false
/-! ### colophonref10_Check: function 17 -/
def colophonref10_Check.f (k : Nat) (z1_ : Int) (z5_ : Bool) (z3_ : ByteArray) (z0_ : List (S25)) (z2_ : List ByteArray) : Option (Int) := (colophonref10_May.f k z1_ z5_ z3_ z0_ z2_).bind fun t242 => (if t242 = true then ((colophonref10_Depth.f k z1_ z5_ z3_ z0_ z2_).bind fun b9_ => (if b9_ > 128 then (some 111) else (some 0))) else (some 2))
theorem colophonref10_Check.mono : ∀ a0 a1 a2 a3 a4 k, LeO (colophonref10_Check.f k a0 a1 a2 a3 a4) (colophonref10_Check.f (k + 1) a0 a1 a2 a3 a4) := by
 intro a0 a1 a2 a3 a4 k
 unfold colophonref10_Check.f
 repeat' first
   | (with_reducible exact colophonref10_Depth.mono _ _ _ _ _ _)
   | (with_reducible exact colophonref10_May.mono _ _ _ _ _ _)
   | (with_reducible exact LeO.refl _)
   | (with_reducible exact LeO.none _)
   | (with_reducible refine LeO.ite ?_ ?_)
   | (with_reducible refine LeO.bind ?_ (fun _ => ?_))
   | exact colophonref10_Depth.mono _ _ _ _ _ _
   | exact colophonref10_May.mono _ _ _ _ _ _
   | exact LeO.none _
   | refine LeO.ite ?_ ?_
   | refine LeO.bind ?_ (fun _ => ?_)
set_option maxHeartbeats 8000000 in
set_option maxRecDepth 100000 in
theorem colophonref10_Check.calls (k : Nat) (z1_ : Int) (z5_ : Bool) (z3_ : ByteArray) (zj_ : Option Addr) (z9_ : Nat) (z0_ : List (S25)) (zz_ : Option Addr) (zq_ : Nat) (z2_ : List ByteArray) (r : Int) (w : World) (jk_ : Kd.C k25 w zj_ z0_.length z0_) (jv_ : z0_.length ≤ z9_) (jx_ : Kd.C Kd.string w zz_ z2_.length z2_) (jy_ : z2_.length ≤ zq_) (h : colophonref10_Check.f k z1_ z5_ z3_ z0_ z2_ = some r) :
  Calls Tryd.prog 17 #[.agg #[.int .i64 z1_, .bool z5_, .string z3_, .slice zj_ z0_.length z9_, .slice zz_ z2_.length zq_]] w fun e w' => e = .returned (.int .i64 r) ∧ Below w.heap.size w w' := by
 have kP_ := Tryd.underlying25
 have x3_ := q0_.mk jk_
 have k4_ := q0_.mk jv_
 clear jk_ jv_
 have xX_ := q0_.mk jx_
 have xr_ := q0_.mk jy_
 clear jx_ jy_
 have HB := q0_.mk (Below.refl w.heap.size w)
 have H : ((colophonref10_May.f k z1_ z5_ z3_ z0_ z2_).bind fun t242 => (if t242 = true then ((colophonref10_Depth.f k z1_ z5_ z3_ z0_ z2_).bind fun b9_ => (if b9_ > 128 then (some 111) else (some 0))) else (some 2))) = some r := h
 clear h
 replace H := Option.bind_eq_some_iff.mp H
 obtain ⟨t242, A20, H⟩ := H
 replace H : (if t242 = true then ((colophonref10_Depth.f k z1_ z5_ z3_ z0_ z2_).bind fun b9_ => (if b9_ > 128 then (some 111) else (some 0))) else (some 2)) = some r := H
 have A2 := q0_.mk A20
 clear A20
 by_cases c3 : t242 = true
 ·
  subst c3
  have H1 : ((colophonref10_Depth.f k z1_ z5_ z3_ z0_ z2_).bind fun b9_ => (if b9_ > 128 then (some 111) else (some 0))) = some r := by rw [if_pos rfl] at H; exact H
  clear H
  have H := H1
  clear H1
  replace H := Option.bind_eq_some_iff.mp H
  obtain ⟨b9_, A40, H⟩ := H
  replace H : (if b9_ > 128 then (some 111) else (some 0)) = some r := H
  have A4 := q0_.mk A40
  clear A40
  by_cases c5 : b9_ > 128
  ·
   rw [if_pos c5] at H
   have bK_ : decide (128 < b9_) = true := decide_eq_true c5
   clear c5
   obtain rfl := Option.some.inj H
   go_enter Tryd.func17, Tryd.ntmps17
   go_wp2_with (first | ((with_reducible refine qZ_ (N := 1) rfl ?_); refine qJ_ ?hg (N := 1) ?hd (cs := #[.int .i64 z1_, .bool z5_, .string z3_, .slice zj_ z0_.length z9_, .slice zz_ z2_.length zq_]) (t := 25) ?hr ?_; (case hd => rfl); (case hg => rfl); (case hr => first | (go_simp; done) | (go_simp; rfl)); intro jR_ hg w6 hbox hb; have n0_ := q0_.mk (q4_ (by repeat (first | (with_reducible first | exact HB.out | apply q6_ | apply q5_ | apply q7_) | exact HB.out)) hb); have n1_ := q0_.mk (hbox); have n2_ := q0_.mk ((by rw [hg]; exact (qw_ (by repeat (first | (with_reducible first | exact HB.out | apply q6_ | apply q5_ | apply q7_) | exact HB.out))) : w.heap.size ≤ jR_)); have n3_ := q0_.mk ((by rw [hg]; exact (qw_ (by repeat (first | (with_reducible first | exact HB.out | apply q6_ | apply q5_ | apply q7_) | exact HB.out))) : w.heap.size ≤ jR_)); clear HB; have HB := n0_; have zB_ := n1_; have GW241 := n2_; have KY_ := n3_; clear n0_ n1_ n2_ n3_; clear hb hbox hg; have Xf_ : w6.cell? ⟨jR_, 0, none⟩ = some (.int .i64 z1_) := (q1_ zB_.out 0).trans rfl; have XH_ : w6.cell? ⟨jR_, 1, none⟩ = some (.bool z5_) := (q1_ zB_.out 1).trans rfl; have Xh_ : w6.cell? ⟨jR_, 2, none⟩ = some (.string z3_) := (q1_ zB_.out 2).trans rfl; have XG_ : w6.cell? ⟨jR_, 3, none⟩ = some (.slice zj_ z0_.length z9_) := (q1_ zB_.out 3).trans rfl; have Xg_ : w6.cell? ⟨jR_, 4, none⟩ = some (.slice zz_ z2_.length zq_) := (q1_ zB_.out 4).trans rfl; have X5_ := q3_ zB_.out 0; have X4_ := q3_ zB_.out 1; have X3_ := q3_ zB_.out 2; have X2_ := q3_ zB_.out 3; have X1_ := q3_ zB_.out 4) | ((with_reducible refine qh_ (f := 38) rfl ?_); refine goesL_ (some 4) rfl rfl Tryd.func38 (by kernel_rfl) rfl #[.agg #[.int .i64 z1_, .bool z5_, .string z3_, .slice zj_ z0_.length z9_, .slice zz_ z2_.length zq_]] rfl (by (try simp only [List.map_toArray, List.map_cons, List.map_nil]); first | done | rfl | (simp only [List.length_drop, List.length_take]; rfl)) ?_; (with_reducible refine (colophonref10_May.calls k z1_ z5_ z3_ _ _ z0_ _ _ z2_ true _ ?zQ_ ?zZ_ ?zY_ ?zK_ A2.out).mono ?_); (case zQ_ => repeat (first | exact (Kd.qD_ x3_.out HB.out) | (with_reducible refine Kd.qP_ ?_ _) | (with_reducible refine Kd.qr_ ?_ _) | (with_reducible refine Kd.qR_ ?_))); (case zZ_ => exact k4_.out); (case zY_ => repeat (first | exact (Kd.qD_ xX_.out HB.out) | (with_reducible refine Kd.qP_ ?_ _) | (with_reducible refine Kd.qr_ ?_ _) | (with_reducible refine Kd.qR_ ?_))); (case zK_ => exact xr_.out); rintro e w8 ⟨rfl, hb⟩; refine ⟨_, rfl, ?_⟩; have n0_ := q0_.mk (q2_ (g := jR_) (o := .cells #[.int .i64 z1_, .bool z5_, .string z3_, .slice zj_ z0_.length z9_, .slice zz_ z2_.length zq_] 25 (0, 0)) (by (with_reducible repeat (first | refine q9_ ?_ _ | refine qz_ ?_ | refine q8_ ?_ _)); exact zB_.out) hb); have n1_ := q0_.mk (q4_ (by repeat (first | (with_reducible first | exact HB.out | apply q6_ | apply q5_ | apply q7_ | refine qq_ ?_ KY_.out) | exact HB.out)) hb); clear zB_; clear HB; have zB_ := n0_; have HB := n1_; clear n0_ n1_; (try clear hb); (try clear hb2); (try clear hk); (try clear hi); have XW_ : w8.cell? ⟨jR_, 0, none⟩ = some (.int .i64 z1_) := (q1_ zB_.out 0).trans rfl; have XV_ : w8.cell? ⟨jR_, 1, none⟩ = some (.bool z5_) := (q1_ zB_.out 1).trans rfl; have XY_ : w8.cell? ⟨jR_, 2, none⟩ = some (.string z3_) := (q1_ zB_.out 2).trans rfl; have XK_ : w8.cell? ⟨jR_, 3, none⟩ = some (.slice zj_ z0_.length z9_) := (q1_ zB_.out 3).trans rfl; have XX_ : w8.cell? ⟨jR_, 4, none⟩ = some (.slice zz_ z2_.length zq_) := (q1_ zB_.out 4).trans rfl; have X0_ := q3_ zB_.out 0; have JS_ := q3_ zB_.out 1; have Js_ := q3_ zB_.out 2; have JR_ := q3_ zB_.out 3; have Jr_ := q3_ zB_.out 4) | ((with_reducible refine qh_ (f := 19) rfl ?_); refine goesL_ (some 7) rfl rfl Tryd.func19 (by kernel_rfl) rfl #[.agg #[.int .i64 z1_, .bool z5_, .string z3_, .slice zj_ z0_.length z9_, .slice zz_ z2_.length zq_]] rfl (by (try simp only [List.map_toArray, List.map_cons, List.map_nil]); first | done | rfl | (simp only [List.length_drop, List.length_take]; rfl)) ?_; (with_reducible refine (colophonref10_Depth.calls k z1_ z5_ z3_ _ _ z0_ _ _ z2_ b9_ _ ?zQ_ ?zZ_ ?zY_ ?zK_ A4.out).mono ?_); (case zQ_ => repeat (first | exact (Kd.qD_ x3_.out HB.out) | (with_reducible refine Kd.qP_ ?_ _) | (with_reducible refine Kd.qr_ ?_ _) | (with_reducible refine Kd.qR_ ?_))); (case zZ_ => exact k4_.out); (case zY_ => repeat (first | exact (Kd.qD_ xX_.out HB.out) | (with_reducible refine Kd.qP_ ?_ _) | (with_reducible refine Kd.qr_ ?_ _) | (with_reducible refine Kd.qR_ ?_))); (case zK_ => exact xr_.out); rintro e w10 ⟨rfl, hb⟩; refine ⟨_, rfl, ?_⟩; have n0_ := q0_.mk (q2_ (g := jR_) (o := .cells #[.int .i64 z1_, .bool z5_, .string z3_, .slice zj_ z0_.length z9_, .slice zz_ z2_.length zq_] 25 (0, 0)) (by (with_reducible repeat (first | refine q9_ ?_ _ | refine qz_ ?_ | refine q8_ ?_ _)); exact zB_.out) hb); have n1_ := q0_.mk (q4_ (by repeat (first | (with_reducible first | exact HB.out | apply q6_ | apply q5_ | apply q7_ | refine qq_ ?_ KY_.out) | exact HB.out)) hb); clear zB_; clear HB; have zB_ := n0_; have HB := n1_; clear n0_ n1_; (try clear hb); (try clear hb2); (try clear hk); (try clear hi)))
   go_ret
   exact ⟨by first | rfl | (simp [qk_, qy_] <;> rfl) | (simp [qk_, qy_] <;> decide +kernel) | (simp [*, qk_, qy_] <;> rfl), by repeat (first | (with_reducible first | exact HB.out | apply q6_ | apply q5_ | apply q7_ | refine qq_ ?_ KY_.out) | exact HB.out)⟩
  ·
   rw [if_neg c5] at H
   have bK_ : decide (128 < b9_) = false := decide_eq_false c5
   clear c5
   obtain rfl := Option.some.inj H
   go_enter Tryd.func17, Tryd.ntmps17
   go_wp2_with (first | ((with_reducible refine qZ_ (N := 1) rfl ?_); refine qJ_ ?hg (N := 1) ?hd (cs := #[.int .i64 z1_, .bool z5_, .string z3_, .slice zj_ z0_.length z9_, .slice zz_ z2_.length zq_]) (t := 25) ?hr ?_; (case hd => rfl); (case hg => rfl); (case hr => first | (go_simp; done) | (go_simp; rfl)); intro jR_ hg w11 hbox hb; have n0_ := q0_.mk (q4_ (by repeat (first | (with_reducible first | exact HB.out | apply q6_ | apply q5_ | apply q7_) | exact HB.out)) hb); have n1_ := q0_.mk (hbox); have n2_ := q0_.mk ((by rw [hg]; exact (qw_ (by repeat (first | (with_reducible first | exact HB.out | apply q6_ | apply q5_ | apply q7_) | exact HB.out))) : w.heap.size ≤ jR_)); have n3_ := q0_.mk ((by rw [hg]; exact (qw_ (by repeat (first | (with_reducible first | exact HB.out | apply q6_ | apply q5_ | apply q7_) | exact HB.out))) : w.heap.size ≤ jR_)); clear HB; have HB := n0_; have zB_ := n1_; have GW241 := n2_; have KY_ := n3_; clear n0_ n1_ n2_ n3_; clear hb hbox hg; have Fx_ : w11.cell? ⟨jR_, 0, none⟩ = some (.int .i64 z1_) := (q1_ zB_.out 0).trans rfl; have Fj_ : w11.cell? ⟨jR_, 1, none⟩ = some (.bool z5_) := (q1_ zB_.out 1).trans rfl; have Fz_ : w11.cell? ⟨jR_, 2, none⟩ = some (.string z3_) := (q1_ zB_.out 2).trans rfl; have Fq_ : w11.cell? ⟨jR_, 3, none⟩ = some (.slice zj_ z0_.length z9_) := (q1_ zB_.out 3).trans rfl; have F9_ : w11.cell? ⟨jR_, 4, none⟩ = some (.slice zz_ z2_.length zq_) := (q1_ zB_.out 4).trans rfl; have hk_ := q3_ zB_.out 0; have hx_ := q3_ zB_.out 1; have hj_ := q3_ zB_.out 2; have hz_ := q3_ zB_.out 3; have hq_ := q3_ zB_.out 4) | ((with_reducible refine qh_ (f := 38) rfl ?_); refine goesL_ (some 4) rfl rfl Tryd.func38 (by kernel_rfl) rfl #[.agg #[.int .i64 z1_, .bool z5_, .string z3_, .slice zj_ z0_.length z9_, .slice zz_ z2_.length zq_]] rfl (by (try simp only [List.map_toArray, List.map_cons, List.map_nil]); first | done | rfl | (simp only [List.length_drop, List.length_take]; rfl)) ?_; (with_reducible refine (colophonref10_May.calls k z1_ z5_ z3_ _ _ z0_ _ _ z2_ true _ ?zQ_ ?zZ_ ?zY_ ?zK_ A2.out).mono ?_); (case zQ_ => repeat (first | exact (Kd.qD_ x3_.out HB.out) | (with_reducible refine Kd.qP_ ?_ _) | (with_reducible refine Kd.qr_ ?_ _) | (with_reducible refine Kd.qR_ ?_))); (case zZ_ => exact k4_.out); (case zY_ => repeat (first | exact (Kd.qD_ xX_.out HB.out) | (with_reducible refine Kd.qP_ ?_ _) | (with_reducible refine Kd.qr_ ?_ _) | (with_reducible refine Kd.qR_ ?_))); (case zK_ => exact xr_.out); rintro e w13 ⟨rfl, hb⟩; refine ⟨_, rfl, ?_⟩; have n0_ := q0_.mk (q2_ (g := jR_) (o := .cells #[.int .i64 z1_, .bool z5_, .string z3_, .slice zj_ z0_.length z9_, .slice zz_ z2_.length zq_] 25 (0, 0)) (by (with_reducible repeat (first | refine q9_ ?_ _ | refine qz_ ?_ | refine q8_ ?_ _)); exact zB_.out) hb); have n1_ := q0_.mk (q4_ (by repeat (first | (with_reducible first | exact HB.out | apply q6_ | apply q5_ | apply q7_ | refine qq_ ?_ KY_.out) | exact HB.out)) hb); clear zB_; clear HB; have zB_ := n0_; have HB := n1_; clear n0_ n1_; (try clear hb); (try clear hb2); (try clear hk); (try clear hi); have F8_ : w13.cell? ⟨jR_, 0, none⟩ = some (.int .i64 z1_) := (q1_ zB_.out 0).trans rfl; have F7_ : w13.cell? ⟨jR_, 1, none⟩ = some (.bool z5_) := (q1_ zB_.out 1).trans rfl; have F6_ : w13.cell? ⟨jR_, 2, none⟩ = some (.string z3_) := (q1_ zB_.out 2).trans rfl; have F5_ : w13.cell? ⟨jR_, 3, none⟩ = some (.slice zj_ z0_.length z9_) := (q1_ zB_.out 3).trans rfl; have F4_ : w13.cell? ⟨jR_, 4, none⟩ = some (.slice zz_ z2_.length zq_) := (q1_ zB_.out 4).trans rfl; have h9_ := q3_ zB_.out 0; have h8_ := q3_ zB_.out 1; have h7_ := q3_ zB_.out 2; have h6_ := q3_ zB_.out 3; have h5_ := q3_ zB_.out 4) | ((with_reducible refine qh_ (f := 19) rfl ?_); refine goesL_ (some 7) rfl rfl Tryd.func19 (by kernel_rfl) rfl #[.agg #[.int .i64 z1_, .bool z5_, .string z3_, .slice zj_ z0_.length z9_, .slice zz_ z2_.length zq_]] rfl (by (try simp only [List.map_toArray, List.map_cons, List.map_nil]); first | done | rfl | (simp only [List.length_drop, List.length_take]; rfl)) ?_; (with_reducible refine (colophonref10_Depth.calls k z1_ z5_ z3_ _ _ z0_ _ _ z2_ b9_ _ ?zQ_ ?zZ_ ?zY_ ?zK_ A4.out).mono ?_); (case zQ_ => repeat (first | exact (Kd.qD_ x3_.out HB.out) | (with_reducible refine Kd.qP_ ?_ _) | (with_reducible refine Kd.qr_ ?_ _) | (with_reducible refine Kd.qR_ ?_))); (case zZ_ => exact k4_.out); (case zY_ => repeat (first | exact (Kd.qD_ xX_.out HB.out) | (with_reducible refine Kd.qP_ ?_ _) | (with_reducible refine Kd.qr_ ?_ _) | (with_reducible refine Kd.qR_ ?_))); (case zK_ => exact xr_.out); rintro e w15 ⟨rfl, hb⟩; refine ⟨_, rfl, ?_⟩; have n0_ := q0_.mk (q2_ (g := jR_) (o := .cells #[.int .i64 z1_, .bool z5_, .string z3_, .slice zj_ z0_.length z9_, .slice zz_ z2_.length zq_] 25 (0, 0)) (by (with_reducible repeat (first | refine q9_ ?_ _ | refine qz_ ?_ | refine q8_ ?_ _)); exact zB_.out) hb); have n1_ := q0_.mk (q4_ (by repeat (first | (with_reducible first | exact HB.out | apply q6_ | apply q5_ | apply q7_ | refine qq_ ?_ KY_.out) | exact HB.out)) hb); clear zB_; clear HB; have zB_ := n0_; have HB := n1_; clear n0_ n1_; (try clear hb); (try clear hb2); (try clear hk); (try clear hi)))
   go_ret
   exact ⟨by first | rfl | (simp [qk_, qy_] <;> rfl) | (simp [qk_, qy_] <;> decide +kernel) | (simp [*, qk_, qy_] <;> rfl), by repeat (first | (with_reducible first | exact HB.out | apply q6_ | apply q5_ | apply q7_ | refine qq_ ?_ KY_.out) | exact HB.out)⟩
 ·
  replace c3 := Bool.eq_false_iff.mpr c3
  subst c3
  have H1 : (some 2) = some r := by rw [if_neg (show ¬ (false = true) by decide)] at H; exact H
  clear H
  have H := H1
  clear H1
  obtain rfl := Option.some.inj H
  go_enter Tryd.func17, Tryd.ntmps17
  go_wp2_with (first | ((with_reducible refine qZ_ (N := 1) rfl ?_); refine qJ_ ?hg (N := 1) ?hd (cs := #[.int .i64 z1_, .bool z5_, .string z3_, .slice zj_ z0_.length z9_, .slice zz_ z2_.length zq_]) (t := 25) ?hr ?_; (case hd => rfl); (case hg => rfl); (case hr => first | (go_simp; done) | (go_simp; rfl)); intro jR_ hg w16 hbox hb; have n0_ := q0_.mk (q4_ (by repeat (first | (with_reducible first | exact HB.out | apply q6_ | apply q5_ | apply q7_) | exact HB.out)) hb); have n1_ := q0_.mk (hbox); have n2_ := q0_.mk ((by rw [hg]; exact (qw_ (by repeat (first | (with_reducible first | exact HB.out | apply q6_ | apply q5_ | apply q7_) | exact HB.out))) : w.heap.size ≤ jR_)); have n3_ := q0_.mk ((by rw [hg]; exact (qw_ (by repeat (first | (with_reducible first | exact HB.out | apply q6_ | apply q5_ | apply q7_) | exact HB.out))) : w.heap.size ≤ jR_)); clear HB; have HB := n0_; have zB_ := n1_; have GW241 := n2_; have KY_ := n3_; clear n0_ n1_ n2_ n3_; clear hb hbox hg; have K3_ : w16.cell? ⟨jR_, 0, none⟩ = some (.int .i64 z1_) := (q1_ zB_.out 0).trans rfl; have K2_ : w16.cell? ⟨jR_, 1, none⟩ = some (.bool z5_) := (q1_ zB_.out 1).trans rfl; have K1_ : w16.cell? ⟨jR_, 2, none⟩ = some (.string z3_) := (q1_ zB_.out 2).trans rfl; have K0_ : w16.cell? ⟨jR_, 3, none⟩ = some (.slice zj_ z0_.length z9_) := (q1_ zB_.out 3).trans rfl; have XS_ : w16.cell? ⟨jR_, 4, none⟩ = some (.slice zz_ z2_.length zq_) := (q1_ zB_.out 4).trans rfl; have XJ_ := q3_ zB_.out 0; have XZ_ := q3_ zB_.out 1; have XQ_ := q3_ zB_.out 2; have Xw_ := q3_ zB_.out 3; have Xv_ := q3_ zB_.out 4) | ((with_reducible refine qh_ (f := 38) rfl ?_); refine goesL_ (some 4) rfl rfl Tryd.func38 (by kernel_rfl) rfl #[.agg #[.int .i64 z1_, .bool z5_, .string z3_, .slice zj_ z0_.length z9_, .slice zz_ z2_.length zq_]] rfl (by (try simp only [List.map_toArray, List.map_cons, List.map_nil]); first | done | rfl | (simp only [List.length_drop, List.length_take]; rfl)) ?_; (with_reducible refine (colophonref10_May.calls k z1_ z5_ z3_ _ _ z0_ _ _ z2_ false _ ?zQ_ ?zZ_ ?zY_ ?zK_ A2.out).mono ?_); (case zQ_ => repeat (first | exact (Kd.qD_ x3_.out HB.out) | (with_reducible refine Kd.qP_ ?_ _) | (with_reducible refine Kd.qr_ ?_ _) | (with_reducible refine Kd.qR_ ?_))); (case zZ_ => exact k4_.out); (case zY_ => repeat (first | exact (Kd.qD_ xX_.out HB.out) | (with_reducible refine Kd.qP_ ?_ _) | (with_reducible refine Kd.qr_ ?_ _) | (with_reducible refine Kd.qR_ ?_))); (case zK_ => exact xr_.out); rintro e w18 ⟨rfl, hb⟩; refine ⟨_, rfl, ?_⟩; have n0_ := q0_.mk (q2_ (g := jR_) (o := .cells #[.int .i64 z1_, .bool z5_, .string z3_, .slice zj_ z0_.length z9_, .slice zz_ z2_.length zq_] 25 (0, 0)) (by (with_reducible repeat (first | refine q9_ ?_ _ | refine qz_ ?_ | refine q8_ ?_ _)); exact zB_.out) hb); have n1_ := q0_.mk (q4_ (by repeat (first | (with_reducible first | exact HB.out | apply q6_ | apply q5_ | apply q7_ | refine qq_ ?_ KY_.out) | exact HB.out)) hb); clear zB_; clear HB; have zB_ := n0_; have HB := n1_; clear n0_ n1_; (try clear hb); (try clear hb2); (try clear hk); (try clear hi)))
  go_ret
  exact ⟨by first | rfl | (simp [qk_, qy_] <;> rfl) | (simp [qk_, qy_] <;> decide +kernel) | (simp [*, qk_, qy_] <;> rfl), by repeat (first | (with_reducible first | exact HB.out | apply q6_ | apply q5_ | apply q7_ | refine qq_ ?_ KY_.out) | exact HB.out)⟩
/-! ### colophonref10_EqTexts: function 39 -/
def colophonref10_EqTexts.l0 : Nat → List ByteArray → List ByteArray → Int → Option (Bool)
 | 0, _, _, _ => none
 | k + 1, x0, x1, x5 => if x5 < (x0.length : Int) then (if 0 ≤ x5 then (if x5 < (x1.length : Int) then (if (rdOf ByteArray.empty x0 x5).toList = (rdOf ByteArray.empty x1 x5).toList then (colophonref10_EqTexts.l0 k x0 x1 (wrap64 (x5 + 1))) else (some false)) else (none)) else (none)) else (some true)
def colophonref10_EqTexts.f (k : Nat) (l0 : List ByteArray) (l1 : List ByteArray) : Option (Bool) := if (l0.length : Int) = (l1.length : Int) then (colophonref10_EqTexts.l0 k l0 l1 0) else (some false)
theorem colophonref10_EqTexts.mono_l : ∀ k, (∀ y0 y1 y2, LeO (colophonref10_EqTexts.l0 k y0 y1 y2) (colophonref10_EqTexts.l0 (k + 1) y0 y1 y2))
 | 0 => fun _ _ _ r h => by simp [colophonref10_EqTexts.l0] at h
 | k + 1 => by
  have ih0 := colophonref10_EqTexts.mono_l k
  ·
   intro y0 y1 y2
   unfold colophonref10_EqTexts.l0
   repeat' first
   | (with_reducible exact ih0 _ _ _)
   | (with_reducible exact LeO.refl _)
   | (with_reducible exact LeO.none _)
   | (with_reducible refine LeO.ite ?_ ?_)
   | (with_reducible refine LeO.bind ?_ (fun _ => ?_))
   | exact ih0 _ _ _
   | exact LeO.none _
   | refine LeO.ite ?_ ?_
   | refine LeO.bind ?_ (fun _ => ?_)
theorem colophonref10_EqTexts.mono : ∀ a0 a1 k, LeO (colophonref10_EqTexts.f k a0 a1) (colophonref10_EqTexts.f (k + 1) a0 a1) := by
 intro a0 a1 k
 have ih0 := colophonref10_EqTexts.mono_l k
 unfold colophonref10_EqTexts.f
 repeat' first
   | (with_reducible exact ih0 _ _ _)
   | (with_reducible exact LeO.refl _)
   | (with_reducible exact LeO.none _)
   | (with_reducible refine LeO.ite ?_ ?_)
   | (with_reducible refine LeO.bind ?_ (fun _ => ?_))
   | exact ih0 _ _ _
   | exact LeO.none _
   | refine LeO.ite ?_ ?_
   | refine LeO.bind ?_ (fun _ => ?_)
set_option maxHeartbeats 8000000 in
set_option maxRecDepth 100000 in
theorem colophonref10_EqTexts.calls (k : Nat) (A0 : Option Addr) (c0 : Nat) (l0 : List ByteArray) (A1 : Option Addr) (c1 : Nat) (l1 : List ByteArray) (r : Bool) (w : World) (hr0 : Kd.C Kd.string w A0 l0.length l0) (hc0 : l0.length ≤ c0) (hr1 : Kd.C Kd.string w A1 l1.length l1) (hc1 : l1.length ≤ c1) (h : colophonref10_EqTexts.f k l0 l1 = some r) :
  Calls Tryd.prog 39 #[.slice A0 l0.length c0, .slice A1 l1.length c1] w fun e w' => e = .returned (.bool r) ∧ Drawn0 w w' := by
 have HR0 := q0_.mk hr0
 have HC0 := q0_.mk hc0
 clear hr0 hc0
 have HR1 := q0_.mk hr1
 have HC1 := q0_.mk hc1
 clear hr1 hc1
 have H : (if (l0.length : Int) = (l1.length : Int) then (colophonref10_EqTexts.l0 k l0 l1 0) else (some false)) = some r := h
 clear h
 by_cases c3 : (l0.length : Int) = (l1.length : Int)
 ·
  rw [if_pos c3] at H
  have Z5_ : ((l0.length : Int) == (l1.length : Int)) = true := beq_iff_eq.mpr c3
  have Kg_ : ((l0.length : Int) != (l1.length : Int)) = false := bne_eq_false_iff_eq.mpr c3
  have bF_ : (l0.length == l1.length) = true := by first | simpa using c3 | (simp at c3 ⊢; omega)
  clear c3
  have H' := q0_.mk H
  clear H
  go_enter Tryd.func39, Tryd.ntmps39
  go_wp2
  repeat (go_quiet (fail); try go_wp2)
  go_loopg [5] k (fun kq v5 w' => ∃ (jP_ : Int), v5 = .int .i64 jP_ ∧ q0_ (colophonref10_EqTexts.l0 kq l0 l1 jP_ = some r) ∧ q0_ (kq ≤ k) ∧ Drawn0 w w')
  case atStart => exact ⟨(0), (by first | rfl | (simp; done) | (simp [*]; done)), H', ⟨Nat.le_refl _⟩, by repeat (first | exact Drawn0.refl _ | apply Drawn0.step)⟩
  case round =>
   clear H'
   try clear c1
   try clear p2
   try clear c3
   try clear Z5_
   try clear Kg_
   try clear bF_
   obtain ⟨jP_, rfl, HA, HK1, ⟨m1, rfl⟩⟩ := hrel
   cases gk with
   | zero => exact absurd HA.out (by simp [colophonref10_EqTexts.l0])
   | succ k1 =>
    have H := HA.out
    clear HA
    simp only [colophonref10_EqTexts.l0] at H
    by_cases c4 : jP_ < (l0.length : Int)
    ·
     rw [if_pos c4] at H
     have Z2_ : decide (jP_ < (l0.length : Int)) = true := decide_eq_true c4
     clear c4
     by_cases c5 : 0 ≤ jP_
     ·
      rw [if_pos c5] at H
      have bK_ : decide (0 ≤ jP_) = true := decide_eq_true c5
      clear c5
      by_cases c6 : jP_ < (l1.length : Int)
      ·
       rw [if_pos c6] at H
       have Fy_ : decide (jP_ < (l1.length : Int)) = true := decide_eq_true c6
       clear c6
       by_cases c7 : (rdOf ByteArray.empty l0 jP_).toList = (rdOf ByteArray.empty l1 jP_).toList
       ·
        rw [if_pos c7] at H
        have py_ : ((rdOf ByteArray.empty l0 jP_).toList == (rdOf ByteArray.empty l1 jP_).toList) = true := beq_iff_eq.mpr c7
        have c7b1 : ((rdOf ByteArray.empty l0 jP_).toList != (rdOf ByteArray.empty l1 jP_).toList) = false := bne_eq_false_iff_eq.mpr c7
        clear c7
        have H' := q0_.mk H
        clear H
        have R7_ : 0 ≤ (jP_ : Int) := of_decide_eq_true (by first | (with_reducible assumption) | assumption)
        have rr_ : jP_ < (l0.length : Int) := of_decide_eq_true (by first | (with_reducible assumption) | assumption)
        obtain ⟨ad244, e244, RJ_⟩ := Kd.at_string HR0.out jP_ R7_ rr_
        cases e244
        replace R7_ := eq_true R7_
        replace rr_ := eq_true rr_
        have R6_ : 0 ≤ (jP_ : Int) := of_decide_eq_true (by first | (with_reducible assumption) | assumption)
        have rP_ : jP_ < (l1.length : Int) := of_decide_eq_true (by first | (with_reducible assumption) | assumption)
        obtain ⟨ad245, e245, RZ_⟩ := Kd.at_string HR1.out jP_ R6_ rP_
        cases e245
        replace R6_ := eq_true R6_
        replace rP_ := eq_true rP_
        go_wp2
        repeat (go_quiet (fail); try go_wp2)
        go_roundg k1
        case measure => have := HK1.out; omega
        case rel => exact ⟨(wrap64 (jP_ + 1)), (by first | rfl | (simp; done) | (simp [*]; done)), H', ⟨by have := HK1.out; omega⟩, by repeat (first | exact Drawn0.refl _ | apply Drawn0.step)⟩
       ·
        rw [if_neg c7] at H
        have py_ : ((rdOf ByteArray.empty l0 jP_).toList == (rdOf ByteArray.empty l1 jP_).toList) = false := beq_eq_false_iff_ne.mpr c7
        have c7b1 : ((rdOf ByteArray.empty l0 jP_).toList != (rdOf ByteArray.empty l1 jP_).toList) = true := bne_iff_ne.mpr c7
        obtain rfl := Option.some.inj H
        have R7_ : 0 ≤ (jP_ : Int) := of_decide_eq_true (by first | (with_reducible assumption) | assumption)
        have rr_ : jP_ < (l0.length : Int) := of_decide_eq_true (by first | (with_reducible assumption) | assumption)
        obtain ⟨ad244, e244, RJ_⟩ := Kd.at_string HR0.out jP_ R7_ rr_
        cases e244
        replace R7_ := eq_true R7_
        replace rr_ := eq_true rr_
        have R6_ : 0 ≤ (jP_ : Int) := of_decide_eq_true (by first | (with_reducible assumption) | assumption)
        have rP_ : jP_ < (l1.length : Int) := of_decide_eq_true (by first | (with_reducible assumption) | assumption)
        obtain ⟨ad245, e245, RZ_⟩ := Kd.at_string HR1.out jP_ R6_ rP_
        cases e245
        replace R6_ := eq_true R6_
        replace rP_ := eq_true rP_
        go_wp2
        repeat (go_quiet (fail); try go_wp2)
        go_ret
        exact ⟨by first | rfl | (simp; done) | (simp [*]; done), by repeat (first | exact Drawn0.refl _ | apply Drawn0.step)⟩
      ·
       rw [if_neg c6] at H
       exact absurd H (by simp)
     ·
      rw [if_neg c5] at H
      exact absurd H (by simp)
    ·
     rw [if_neg c4] at H
     have Z2_ : decide (jP_ < (l0.length : Int)) = false := decide_eq_false c4
     clear c4
     obtain rfl := Option.some.inj H
     go_wp2
     repeat (go_quiet (fail); try go_wp2)
     go_ret
     exact ⟨by first | rfl | (simp; done) | (simp [*]; done), by repeat (first | exact Drawn0.refl _ | apply Drawn0.step)⟩
 ·
  rw [if_neg c3] at H
  have Z5_ : ((l0.length : Int) == (l1.length : Int)) = false := beq_eq_false_iff_ne.mpr c3
  have Kg_ : ((l0.length : Int) != (l1.length : Int)) = true := bne_iff_ne.mpr c3
  have bF_ : (l0.length == l1.length) = false := by first | simpa using c3 | (simp at c3 ⊢; omega)
  obtain rfl := Option.some.inj H
  go_enter Tryd.func39, Tryd.ntmps39
  go_wp2
  repeat (go_quiet (fail); try go_wp2)
  go_ret
  exact ⟨by first | rfl | (simp; done) | (simp [*]; done), by repeat (first | exact Drawn0.refl _ | apply Drawn0.step)⟩
end Go.Proofs.YtfpmompdgmklmaaDoor.P
