import Derived.Test.YtfpmompdgmklmaaDoorP0
namespace Go.Proofs.YtfpmompdgmklmaaDoor.P
attribute [-simp] List.length_drop List.length_take ByteArray.size_append
open Go.RowKit Go.Proofs.YtfpmompdgmklmaaDoorW.PrintWords Go.Proofs.YtfpmompdgmklmaaDoorW.PrintLast Go.Proofs.YtfpmompdgmklmaaDoorW.PrintMore
attribute [local go_sem] max2_int min2_int max_two min_two max_three min_three max_four min_four   -- for this text's walks alone
set_option linter.unusedVariables false
set_option linter.unusedSimpArgs false
/-! ### value_Depth: function 18 -/
mutual
def value_Depth.l0 : Nat → Int → List (S25) → Int → Int → Option (Int)
 | 0, _, _, _, _ => none
 | k + 1, x3, x7, x8, x9 => if x9 < x8 then (if 0 ≤ x9 then (if x9 < (x7.length : Int) then ((value_Depth.f k ((qj_ x7 x9).f0) ((qj_ x7 x9).f1) ((qj_ x7 x9).f2) ((qj_ x7 x9).f3) ((qj_ x7 x9).f4)).bind fun ZS_ => (value_Depth.l0 k (mx x3 ZS_) x7 x8 (wrap64 (x9 + 1)))) else (none)) else (none)) else (some (wrap64 (x3 + 1)))
def value_Depth.f : Nat → Int → Bool → ByteArray → List (S25) → List ByteArray → Option (Int)
 | 0, _, _, _, _, _ => none
 | k + 1, z1_, z5_, z3_, z0_, z2_ => value_Depth.l0 k 0 z0_ (z0_.length : Int) 0
end
theorem value_Depth.mono_l : ∀ k, (∀ y0 y1 y2 y3 y4, LeO (value_Depth.f k y0 y1 y2 y3 y4) (value_Depth.f (k + 1) y0 y1 y2 y3 y4)) ∧ (∀ y0 y1 y2 y3, LeO (value_Depth.l0 k y0 y1 y2 y3) (value_Depth.l0 (k + 1) y0 y1 y2 y3))
 | 0 => ⟨fun _ _ _ _ _ r h => by simp [value_Depth.f] at h, fun _ _ _ _ r h => by simp [value_Depth.l0] at h⟩
 | k + 1 => by
  obtain ⟨ih0, ih1⟩ := value_Depth.mono_l k
  refine ⟨?_, ?_⟩
  ·
   intro y0 y1 y2 y3 y4
   unfold value_Depth.f
   repeat' first
   | (with_reducible exact ih0 _ _ _ _ _)
   | (with_reducible exact ih1 _ _ _ _)
   | (with_reducible exact LeO.refl _)
   | (with_reducible exact LeO.none _)
   | (with_reducible refine LeO.ite ?_ ?_)
   | (with_reducible refine LeO.bind ?_ (fun _ => ?_))
   | exact ih0 _ _ _ _ _
   | exact ih1 _ _ _ _
   | exact LeO.none _
   | refine LeO.ite ?_ ?_
   | refine LeO.bind ?_ (fun _ => ?_)
  ·
   intro y0 y1 y2 y3
   unfold value_Depth.l0
   repeat' first
   | (with_reducible exact ih0 _ _ _ _ _)
   | (with_reducible exact ih1 _ _ _ _)
   | (with_reducible exact LeO.refl _)
   | (with_reducible exact LeO.none _)
   | (with_reducible refine LeO.ite ?_ ?_)
   | (with_reducible refine LeO.bind ?_ (fun _ => ?_))
   | exact ih0 _ _ _ _ _
   | exact ih1 _ _ _ _
   | exact LeO.none _
   | refine LeO.ite ?_ ?_
   | refine LeO.bind ?_ (fun _ => ?_)
theorem value_Depth.mono : ∀ a0 a1 a2 a3 a4 k, LeO (value_Depth.f k a0 a1 a2 a3 a4) (value_Depth.f (k + 1) a0 a1 a2 a3 a4) := by
 intro a0 a1 a2 a3 a4 k
 obtain ⟨ih0, ih1⟩ := value_Depth.mono_l k
 exact ih0 a0 a1 a2 a3 a4
set_option maxHeartbeats 8000000 in
set_option maxRecDepth 100000 in
theorem value_Depth.calls (k : Nat) : ∀ (z1_ : Int) (z5_ : Bool) (z3_ : ByteArray) (zj_ : Option Addr) (z9_ : Nat) (z0_ : List (S25)) (zz_ : Option Addr) (zq_ : Nat) (z2_ : List ByteArray) (r : Int) (w : World) (jk_ : Kd.C k25 w zj_ z0_.length z0_) (jv_ : z0_.length ≤ z9_) (jx_ : Kd.C Kd.string w zz_ z2_.length z2_) (jy_ : z2_.length ≤ zq_) (h : value_Depth.f k z1_ z5_ z3_ z0_ z2_ = some r),
  Calls Tryd.prog 18 #[.agg #[.int .i64 z1_, .bool z5_, .string z3_, .slice zj_ z0_.length z9_, .slice zz_ z2_.length zq_]] w fun e w' => e = .returned (.int .i64 r) ∧ Below w.heap.size w w' := by
 induction k using Nat.strongRecOn with
 | _ k ih =>
 intro z1_ z5_ z3_ zj_ z9_ z0_ zz_ zq_ z2_ r w jk_ jv_ jx_ jy_ h
 cases k with
 | zero => exact absurd h (by simp [value_Depth.f])
 | succ k =>
 simp only [value_Depth.f] at h
 have kP_ := Tryd.underlying25
 have x3_ := q0_.mk jk_
 have k4_ := q0_.mk jv_
 clear jk_ jv_
 have xX_ := q0_.mk jx_
 have xr_ := q0_.mk jy_
 clear jx_ jy_
 have HB := q0_.mk (Below.refl w.heap.size w)
 have H : (value_Depth.l0 k 0 z0_ (z0_.length : Int) 0) = some r := h
 clear h
 have H' := q0_.mk H
 clear H
 go_enter Tryd.func18, Tryd.ntmps18
 go_wp2_with (first | ((with_reducible refine qZ_ (N := 1) rfl ?_); refine qJ_ ?hg (N := 1) ?hd (cs := #[.int .i64 z1_, .bool z5_, .string z3_, .slice zj_ z0_.length z9_, .slice zz_ z2_.length zq_]) (t := 25) ?hr ?_; (case hd => rfl); (case hg => rfl); (case hr => first | (go_simp; done) | (go_simp; rfl)); intro kb_ hg w2 hbox hb; have n0_ := q0_.mk (q4_ (by repeat (first | (with_reducible first | exact HB.out | apply q6_ | apply q5_ | apply q7_) | exact HB.out)) hb); have n1_ := q0_.mk (hbox); have n2_ := q0_.mk ((by rw [hg]; exact (qw_ (by repeat (first | (with_reducible first | exact HB.out | apply q6_ | apply q5_ | apply q7_) | exact HB.out))) : w.heap.size ≤ kb_)); have n3_ := q0_.mk ((by rw [hg]; exact (qw_ (by repeat (first | (with_reducible first | exact HB.out | apply q6_ | apply q5_ | apply q7_) | exact HB.out))) : w.heap.size ≤ kb_)); clear HB; have HB := n0_; have xx_ := n1_; have GW101 := n2_; have ZB_ := n3_; clear n0_ n1_ n2_ n3_; clear hb hbox hg; have dg_ : w2.cell? ⟨kb_, 0, none⟩ = some (.int .i64 z1_) := (q1_ xx_.out 0).trans rfl; have dW_ : w2.cell? ⟨kb_, 1, none⟩ = some (.bool z5_) := (q1_ xx_.out 1).trans rfl; have dV_ : w2.cell? ⟨kb_, 2, none⟩ = some (.string z3_) := (q1_ xx_.out 2).trans rfl; have dY_ : w2.cell? ⟨kb_, 3, none⟩ = some (.slice zj_ z0_.length z9_) := (q1_ xx_.out 3).trans rfl; have dK_ : w2.cell? ⟨kb_, 4, none⟩ = some (.slice zz_ z2_.length zq_) := (q1_ xx_.out 4).trans rfl; have d1_ := q3_ xx_.out 0; have d0_ := q3_ xx_.out 1; have BS_ := q3_ xx_.out 2; have Bs_ := q3_ xx_.out 3; have BR_ := q3_ xx_.out 4))
 go_loopg [3, 9] k (fun kq v3 v9 w' => ∃ (xd_ : Int) (y3_ : Int), v3 = .int .i64 xd_ ∧ v9 = .int .i64 y3_ ∧ q0_ (value_Depth.l0 kq xd_ z0_ (z0_.length : Int) y3_ = some r) ∧ q0_ (kq ≤ k) ∧ q0_ (w'.heap[kb_]? = some (.cells #[.int .i64 z1_, .bool z5_, .string z3_, (.slice zj_ z0_.length z9_), (.slice zz_ z2_.length zq_)] 25 (0, 0))) ∧ q0_ (Below w.heap.size w w'))
 case atStart => exact ⟨(0), (0), (by first | rfl | (simp; done) | (simp [*]; done)), (by first | rfl | (simp; done) | (simp [*]; done)), H', ⟨Nat.le_refl _⟩, ⟨by (with_reducible repeat (first | refine q9_ ?_ _ | refine qz_ ?_ | refine q8_ ?_ _)); exact xx_.out⟩, ⟨by repeat (first | (with_reducible first | exact HB.out | apply q6_ | apply q5_ | apply q7_ | refine qq_ ?_ ZB_.out) | exact HB.out)⟩⟩
 case round =>
  clear H'
  try clear c1
  try clear p2
  try clear dg_
  try clear dW_
  try clear dV_
  try clear dY_
  try clear dK_
  try clear d1_
  try clear d0_
  try clear BS_
  try clear Bs_
  try clear BR_
  obtain ⟨xd_, y3_, rfl, rfl, HA, HK1, xx_, HB⟩ := hrel
  cases gk with
  | zero => exact absurd HA.out (by simp [value_Depth.l0])
  | succ k1 =>
   have H := HA.out
   clear HA
   simp only [value_Depth.l0] at H
   by_cases c4 : y3_ < (z0_.length : Int)
   ·
    rw [if_pos c4] at H
    have Z2_ : decide (y3_ < (z0_.length : Int)) = true := decide_eq_true c4
    clear c4
    by_cases c5 : 0 ≤ y3_
    ·
     rw [if_pos c5] at H
     have bK_ : decide (0 ≤ y3_) = true := decide_eq_true c5
     clear c5
     by_cases c6 : y3_ < (z0_.length : Int)
     ·
      rw [if_pos c6] at H
      have Fy_ : decide (y3_ < (z0_.length : Int)) = true := decide_eq_true c6
      clear c6
      replace H := Option.bind_eq_some_iff.mp H
      obtain ⟨ZS_, A70, H⟩ := H
      replace H : (value_Depth.l0 k1 (mx xd_ ZS_) z0_ (z0_.length : Int) (wrap64 (y3_ + 1))) = some r := H
      have A7 := q0_.mk A70
      clear A70
      obtain ⟨ji8, hji8⟩ : ∃ j_ : Int, (mx xd_ ZS_) = j_ := ⟨_, rfl⟩
      replace H : (value_Depth.l0 k1 ji8 z0_ (z0_.length : Int) (wrap64 (y3_ + 1))) = some r := by first | (rw [hji8] at H; exact H) | (simp only [hji8] at H ⊢; exact H)
      (try rw [hji8] at A7)
      have hji8_ : (if xd_ < ZS_ then ZS_ else xd_) = ji8 := hji8
      have H' := q0_.mk H
      clear H
      have bS_ : 0 ≤ (y3_ : Int) := of_decide_eq_true (by first | (with_reducible assumption) | assumption)
      have bs_ : y3_ < (z0_.length : Int) := of_decide_eq_true (by first | (with_reducible assumption) | assumption)
      obtain ⟨bg_, DY_, D2_, r9_, r6_, e102, J5_, WX_, WJ_, WZ_, WQ_, Bx_, BY_, Bj_, BK_⟩ := at_T25 x3_.out y3_ bS_ bs_
      cases e102
      replace J5_ := (HB.out.cell (World.block_lt_of_cell? w _ J5_)).trans J5_
      replace WX_ := (HB.out.cell (World.block_lt_of_cell? w _ WX_)).trans WX_
      replace WJ_ := (HB.out.cell (World.block_lt_of_cell? w _ WJ_)).trans WJ_
      replace WZ_ := (HB.out.cell (World.block_lt_of_cell? w _ WZ_)).trans WZ_
      replace WQ_ := (HB.out.cell (World.block_lt_of_cell? w _ WQ_)).trans WQ_
      have HR102_3 := q0_.mk BY_
      have HC102_3 := q0_.mk Bx_
      clear BY_ Bx_
      have HR102_4 := q0_.mk BK_
      have HC102_4 := q0_.mk Bj_
      clear BK_ Bj_
      replace bS_ := eq_true bS_
      replace bs_ := eq_true bs_
      go_wp2_with (first | ((with_reducible refine qZ_ (N := 5) rfl ?_); refine qJ_ ?hg (N := 5) ?hd (cs := #[.int .i64 0, .bool false, .string (⟨#[]⟩ : ByteArray), .slice none 0 0, .slice none 0 0]) (t := 25) ?hr ?_; (case hd => rfl); (case hg => rfl); (case hr => first | (go_simp; done) | (go_simp; rfl)); intro zy_ hg w9 hbox hb; have n0_ := q0_.mk (q2_ (g := kb_) (o := .cells #[.int .i64 z1_, .bool z5_, .string z3_, .slice (some bg_) z0_.length z9_, .slice zz_ z2_.length zq_] 25 (0, 0)) (by (with_reducible repeat (first | refine q9_ ?_ _ | refine qz_ ?_ | refine q8_ ?_ _)); exact xx_.out) hb); have n1_ := q0_.mk (q4_ (by repeat (first | (with_reducible first | exact HB.out | apply q6_ | apply q5_ | apply q7_ | refine qq_ ?_ ZB_.out) | exact HB.out)) hb); have n2_ := q0_.mk (hbox); have n3_ := q0_.mk ((by rw [hg]; exact (qw_ (by repeat (first | (with_reducible first | exact HB.out | apply q6_ | apply q5_ | apply q7_ | refine qq_ ?_ ZB_.out) | exact HB.out))) : w.heap.size ≤ zy_)); have n4_ := q0_.mk ((by rw [hg]; exact (qw_ (by repeat (first | (with_reducible first | exact HB.out | apply q6_ | apply q5_ | apply q7_ | refine qq_ ?_ ZB_.out) | exact HB.out))) : w.heap.size ≤ zy_)); have n5_ := q0_.mk ((by rw [hg]; exact Nat.ne_of_lt (qY_ (g := kb_) (o := .cells #[.int .i64 z1_, .bool z5_, .string z3_, .slice (some bg_) z0_.length z9_, .slice zz_ z2_.length zq_] 25 (0, 0)) (by (with_reducible repeat (first | refine q9_ ?_ _ | refine qz_ ?_ | refine q8_ ?_ _)); exact xx_.out)) : kb_ ≠ zy_)); have n6_ := q0_.mk ((by rw [hg]; exact Nat.ne_of_gt (qY_ (g := kb_) (o := .cells #[.int .i64 z1_, .bool z5_, .string z3_, .slice (some bg_) z0_.length z9_, .slice zz_ z2_.length zq_] 25 (0, 0)) (by (with_reducible repeat (first | refine q9_ ?_ _ | refine qz_ ?_ | refine q8_ ?_ _)); exact xx_.out)) : zy_ ≠ kb_)); clear xx_; clear HB; have xx_ := n0_; have HB := n1_; have z7_ := n2_; have GW103 := n3_; have xs_ := n4_; have y9_ := n5_; have D9_ := n6_; clear n0_ n1_ n2_ n3_ n4_ n5_ n6_; clear hb hbox hg; have hnb10 := D9_.out; have hnc10 := y9_.out; have v9_ : w9.cell? ⟨zy_, 0, none⟩ = some (.int .i64 0) := (q1_ z7_.out 0).trans rfl; have v8_ : w9.cell? ⟨zy_, 1, none⟩ = some (.bool false) := (q1_ z7_.out 1).trans rfl; have v7_ : w9.cell? ⟨zy_, 2, none⟩ = some (.string (⟨#[]⟩ : ByteArray)) := (q1_ z7_.out 2).trans rfl; have v6_ : w9.cell? ⟨zy_, 3, none⟩ = some (.slice none 0 0) := (q1_ z7_.out 3).trans rfl; have v5_ : w9.cell? ⟨zy_, 4, none⟩ = some (.slice none 0 0) := (q1_ z7_.out 4).trans rfl; have yp_ := q3_ z7_.out 0; have yD_ := q3_ z7_.out 1; have yd_ := q3_ z7_.out 2; have yB_ := q3_ z7_.out 3; have yb_ := q3_ z7_.out 4) | ((with_reducible refine qh_ (f := 18) rfl ?_); refine goesL_ (some 15) rfl rfl Tryd.func18 (by kernel_rfl) rfl #[.agg #[.int .i64 ((qj_ z0_ y3_).f0), .bool ((qj_ z0_ y3_).f1), .string ((qj_ z0_ y3_).f2), .slice DY_ ((qj_ z0_ y3_).f3).length D2_, .slice r9_ ((qj_ z0_ y3_).f4).length r6_]] rfl (by (try simp only [List.map_toArray, List.map_cons, List.map_nil]); first | done | rfl | (simp only [List.length_drop, List.length_take]; rfl)) ?_; (with_reducible refine (ih k1 (by have := HK1.out; omega) ((qj_ z0_ y3_).f0) ((qj_ z0_ y3_).f1) ((qj_ z0_ y3_).f2) _ _ ((qj_ z0_ y3_).f3) _ _ ((qj_ z0_ y3_).f4) ZS_ _ ?zQ_ ?zZ_ ?zY_ ?zK_ A7.out).mono ?_); (case zQ_ => exact Kd.qD_ HR102_3.out (by repeat (first | (with_reducible first | exact HB.out | apply q6_ | apply q5_ | apply q7_ | refine qq_ ?_ ZB_.out | refine qq_ ?_ xs_.out) | exact HB.out))); (case zZ_ => exact HC102_3.out); (case zY_ => exact Kd.qD_ HR102_4.out (by repeat (first | (with_reducible first | exact HB.out | apply q6_ | apply q5_ | apply q7_ | refine qq_ ?_ ZB_.out | refine qq_ ?_ xs_.out) | exact HB.out))); (case zK_ => exact HC102_4.out); rintro e w12 ⟨rfl, hb⟩; refine ⟨_, rfl, ?_⟩; have n0_ := q0_.mk (q2_ (g := kb_) (o := .cells #[.int .i64 z1_, .bool z5_, .string z3_, .slice (some bg_) z0_.length z9_, .slice zz_ z2_.length zq_] 25 (0, 0)) (by (with_reducible repeat (first | refine q9_ ?_ _ | refine qz_ ?_ | refine q8_ ?_ _)); refine blk_far ?_ y9_.out _; (with_reducible repeat (first | refine q9_ ?_ _ | refine qz_ ?_ | refine q8_ ?_ _)); refine blk_far ?_ y9_.out _; (with_reducible repeat (first | refine q9_ ?_ _ | refine qz_ ?_ | refine q8_ ?_ _)); refine blk_far ?_ y9_.out _; (with_reducible repeat (first | refine q9_ ?_ _ | refine qz_ ?_ | refine q8_ ?_ _)); refine blk_far ?_ y9_.out _; (with_reducible repeat (first | refine q9_ ?_ _ | refine qz_ ?_ | refine q8_ ?_ _)); refine blk_far ?_ y9_.out _; (with_reducible repeat (first | refine q9_ ?_ _ | refine qz_ ?_ | refine q8_ ?_ _)); exact xx_.out) hb); have n1_ := q0_.mk (q2_ (g := zy_) (o := .cells #[.int .i64 ((qj_ z0_ y3_).f0), .bool ((qj_ z0_ y3_).f1), .string ((qj_ z0_ y3_).f2), .slice DY_ ((qj_ z0_ y3_).f3).length D2_, .slice r9_ ((qj_ z0_ y3_).f4).length r6_] 25 (0, 0)) (by (with_reducible repeat (first | refine q9_ ?_ _ | refine qz_ ?_ | refine q8_ ?_ _)); refine qv_ (cs := #[.int .i64 ((qj_ z0_ y3_).f0), .bool ((qj_ z0_ y3_).f1), .string ((qj_ z0_ y3_).f2), .slice DY_ ((qj_ z0_ y3_).f3).length D2_, .slice none 0 0]) ?_ 4 _ rfl; (with_reducible repeat (first | refine q9_ ?_ _ | refine qz_ ?_ | refine q8_ ?_ _)); refine qv_ (cs := #[.int .i64 ((qj_ z0_ y3_).f0), .bool ((qj_ z0_ y3_).f1), .string ((qj_ z0_ y3_).f2), .slice none 0 0, .slice none 0 0]) ?_ 3 _ rfl; (with_reducible repeat (first | refine q9_ ?_ _ | refine qz_ ?_ | refine q8_ ?_ _)); refine qv_ (cs := #[.int .i64 ((qj_ z0_ y3_).f0), .bool ((qj_ z0_ y3_).f1), .string (⟨#[]⟩ : ByteArray), .slice none 0 0, .slice none 0 0]) ?_ 2 _ rfl; (with_reducible repeat (first | refine q9_ ?_ _ | refine qz_ ?_ | refine q8_ ?_ _)); refine qv_ (cs := #[.int .i64 ((qj_ z0_ y3_).f0), .bool false, .string (⟨#[]⟩ : ByteArray), .slice none 0 0, .slice none 0 0]) ?_ 1 _ rfl; (with_reducible repeat (first | refine q9_ ?_ _ | refine qz_ ?_ | refine q8_ ?_ _)); refine qv_ (cs := #[.int .i64 0, .bool false, .string (⟨#[]⟩ : ByteArray), .slice none 0 0, .slice none 0 0]) ?_ 0 _ rfl; (with_reducible repeat (first | refine q9_ ?_ _ | refine qz_ ?_ | refine q8_ ?_ _)); exact z7_.out) hb); have n2_ := q0_.mk (q4_ (by repeat (first | (with_reducible first | exact HB.out | apply q6_ | apply q5_ | apply q7_ | refine qq_ ?_ ZB_.out | refine qq_ ?_ xs_.out) | exact HB.out)) hb); clear xx_; clear z7_; clear HB; have xx_ := n0_; have z7_ := n1_; have HB := n2_; clear n0_ n1_ n2_; (try clear hb); (try clear hb2); (try clear hk); (try clear hi)))
      go_roundg k1
      case measure => have := HK1.out; omega
      case rel => exact ⟨(ji8), (wrap64 (y3_ + 1)), (by first | rfl | (simp; done) | (simp only [← hji8] <;> (first | rfl | simp)) | (simp [*]; done)), (by first | rfl | (simp; done) | (simp [*]; done)), H', ⟨by have := HK1.out; omega⟩, ⟨by (with_reducible repeat (first | refine q9_ ?_ _ | refine qz_ ?_ | refine q8_ ?_ _)); exact xx_.out⟩, ⟨by repeat (first | (with_reducible first | exact HB.out | apply q6_ | apply q5_ | apply q7_ | refine qq_ ?_ ZB_.out | refine qq_ ?_ xs_.out) | exact HB.out)⟩⟩
     ·
      rw [if_neg c6] at H
      exact absurd H (by simp)
    ·
     rw [if_neg c5] at H
     exact absurd H (by simp)
   ·
    rw [if_neg c4] at H
    have Z2_ : decide (y3_ < (z0_.length : Int)) = false := decide_eq_false c4
    clear c4
    obtain rfl := Option.some.inj H
    go_wp2
    go_ret
    exact ⟨by first | rfl | (simp [qk_, qy_] <;> rfl) | (simp [qk_, qy_] <;> decide +kernel) | (simp [*, qk_, qy_] <;> rfl), by repeat (first | (with_reducible first | exact HB.out | apply q6_ | apply q5_ | apply q7_ | refine qq_ ?_ ZB_.out) | exact HB.out)⟩
end Go.Proofs.YtfpmompdgmklmaaDoor.P
