import Derived.Test.YtfpmompdgmklmaaDoorP0
import Derived.Test.YtfpmompdgmklmaaDoorV1
namespace Go.Proofs.YtfpmompdgmklmaaDoor.P
attribute [-simp] List.length_drop List.length_take ByteArray.size_append
open Go.RowKit Go.Proofs.YtfpmompdgmklmaaDoorW.PrintWords Go.Proofs.YtfpmompdgmklmaaDoorW.PrintLast Go.Proofs.YtfpmompdgmklmaaDoorW.PrintMore
attribute [local go_sem] max2_int min2_int max_two min_two max_three min_three max_four min_four   -- for this text's walks alone
set_option linter.unusedVariables false
set_option linter.unusedSimpArgs false
/-! ### value_mayBe: function 37 -/
mutual
def value_mayBe2.j0 : Nat → Bool → Int → Bool → ByteArray → List (S25) → List ByteArray → Option (Bool)
 | 0, _, _, _, _, _, _ => none
 | k + 1, x3, jJ_, xW_, xV_, x1_, xQ_ => if x3 = true then (some false) else (if xW_ = true then (value_mayBe2.j1 k (jJ_ != 1) jJ_ xW_ xV_ x1_ xQ_) else (value_mayBe2.j1 k false jJ_ xW_ xV_ x1_ xQ_))
def value_mayBe2.j1 : Nat → Bool → Int → Bool → ByteArray → List (S25) → List ByteArray → Option (Bool)
 | 0, _, _, _, _, _, _ => none
 | k + 1, x12, jJ_, xW_, xV_, x1_, xQ_ => if x12 = true then (some false) else (if xV_.toList = ([] : List UInt8) then (value_mayBe2.j2 k false jJ_ xW_ xV_ x1_ xQ_) else (if jJ_ = 2 then (value_mayBe2.j2 k false jJ_ xW_ xV_ x1_ xQ_) else (value_mayBe2.j2 k (jJ_ != 3) jJ_ xW_ xV_ x1_ xQ_)))
def value_mayBe2.j2 : Nat → Bool → Int → Bool → ByteArray → List (S25) → List ByteArray → Option (Bool)
 | 0, _, _, _, _, _, _ => none
 | k + 1, x20, jJ_, xW_, xV_, x1_, xQ_ => if x20 = true then (some false) else (if (x1_.length : Int) > 0 then (if jJ_ = 4 then (value_mayBe2.j3 k false jJ_ xW_ xV_ x1_ xQ_) else (value_mayBe2.j3 k (jJ_ != 5) jJ_ xW_ xV_ x1_ xQ_)) else (value_mayBe2.j3 k false jJ_ xW_ xV_ x1_ xQ_))
def value_mayBe2.j3 : Nat → Bool → Int → Bool → ByteArray → List (S25) → List ByteArray → Option (Bool)
 | 0, _, _, _, _, _, _ => none
 | k + 1, x34, jJ_, xW_, xV_, x1_, xQ_ => if x34 = true then (some false) else (if (xQ_.length : Int) > 0 then (value_mayBe2.j4 k (jJ_ != 5) jJ_ xW_ xV_ x1_ xQ_) else (value_mayBe2.j4 k false jJ_ xW_ xV_ x1_ xQ_))
def value_mayBe2.j4 : Nat → Bool → Int → Bool → ByteArray → List (S25) → List ByteArray → Option (Bool)
 | 0, _, _, _, _, _, _ => none
 | k + 1, x49, jJ_, xW_, xV_, x1_, xQ_ => if x49 = true then (some false) else (if jJ_ = 5 then (if (xQ_.length : Int) = (x1_.length : Int) then ((conM.f x1_).bind fun ZS_ => (some (!ZS_))) else (some false)) else ((conM.f x1_).bind fun bX_ => (some (!bX_))))
end
def value_mayBe2.f (k : Nat) (z1_ : Int) (z5_ : Bool) (z3_ : ByteArray) (z0_ : List (S25)) (z2_ : List ByteArray) : Option (Bool) := if z1_ < 0 then (value_mayBe2.j0 k true z1_ z5_ z3_ z0_ z2_) else (value_mayBe2.j0 k (decide (z1_ > 5)) z1_ z5_ z3_ z0_ z2_)
theorem value_mayBe2.mono_l : ∀ k, (∀ y0 y1 y2 y3 y4 y5, LeO (value_mayBe2.j0 k y0 y1 y2 y3 y4 y5) (value_mayBe2.j0 (k + 1) y0 y1 y2 y3 y4 y5)) ∧ (∀ y0 y1 y2 y3 y4 y5, LeO (value_mayBe2.j1 k y0 y1 y2 y3 y4 y5) (value_mayBe2.j1 (k + 1) y0 y1 y2 y3 y4 y5)) ∧ (∀ y0 y1 y2 y3 y4 y5, LeO (value_mayBe2.j2 k y0 y1 y2 y3 y4 y5) (value_mayBe2.j2 (k + 1) y0 y1 y2 y3 y4 y5)) ∧ (∀ y0 y1 y2 y3 y4 y5, LeO (value_mayBe2.j3 k y0 y1 y2 y3 y4 y5) (value_mayBe2.j3 (k + 1) y0 y1 y2 y3 y4 y5)) ∧ (∀ y0 y1 y2 y3 y4 y5, LeO (value_mayBe2.j4 k y0 y1 y2 y3 y4 y5) (value_mayBe2.j4 (k + 1) y0 y1 y2 y3 y4 y5))
 | 0 => ⟨fun _ _ _ _ _ _ r h => by simp [value_mayBe2.j0] at h, fun _ _ _ _ _ _ r h => by simp [value_mayBe2.j1] at h, fun _ _ _ _ _ _ r h => by simp [value_mayBe2.j2] at h, fun _ _ _ _ _ _ r h => by simp [value_mayBe2.j3] at h, fun _ _ _ _ _ _ r h => by simp [value_mayBe2.j4] at h⟩
 | k + 1 => by
  obtain ⟨ih0, ih1, ih2, ih3, ih4⟩ := value_mayBe2.mono_l k
  refine ⟨?_, ?_, ?_, ?_, ?_⟩
  ·
   intro y0 y1 y2 y3 y4 y5
   unfold value_mayBe2.j0
   repeat' first
   | (with_reducible exact ih0 _ _ _ _ _ _)
   | (with_reducible exact ih1 _ _ _ _ _ _)
   | (with_reducible exact ih2 _ _ _ _ _ _)
   | (with_reducible exact ih3 _ _ _ _ _ _)
   | (with_reducible exact ih4 _ _ _ _ _ _)
   | (with_reducible exact LeO.refl _)
   | (with_reducible exact LeO.none _)
   | (with_reducible refine LeO.ite ?_ ?_)
   | (with_reducible refine LeO.bind ?_ (fun _ => ?_))
   | exact ih0 _ _ _ _ _ _
   | exact ih1 _ _ _ _ _ _
   | exact ih2 _ _ _ _ _ _
   | exact ih3 _ _ _ _ _ _
   | exact ih4 _ _ _ _ _ _
   | exact LeO.none _
   | refine LeO.ite ?_ ?_
   | refine LeO.bind ?_ (fun _ => ?_)
  ·
   intro y0 y1 y2 y3 y4 y5
   unfold value_mayBe2.j1
   repeat' first
   | (with_reducible exact ih0 _ _ _ _ _ _)
   | (with_reducible exact ih1 _ _ _ _ _ _)
   | (with_reducible exact ih2 _ _ _ _ _ _)
   | (with_reducible exact ih3 _ _ _ _ _ _)
   | (with_reducible exact ih4 _ _ _ _ _ _)
   | (with_reducible exact LeO.refl _)
   | (with_reducible exact LeO.none _)
   | (with_reducible refine LeO.ite ?_ ?_)
   | (with_reducible refine LeO.bind ?_ (fun _ => ?_))
   | exact ih0 _ _ _ _ _ _
   | exact ih1 _ _ _ _ _ _
   | exact ih2 _ _ _ _ _ _
   | exact ih3 _ _ _ _ _ _
   | exact ih4 _ _ _ _ _ _
   | exact LeO.none _
   | refine LeO.ite ?_ ?_
   | refine LeO.bind ?_ (fun _ => ?_)
  ·
   intro y0 y1 y2 y3 y4 y5
   unfold value_mayBe2.j2
   repeat' first
   | (with_reducible exact ih0 _ _ _ _ _ _)
   | (with_reducible exact ih1 _ _ _ _ _ _)
   | (with_reducible exact ih2 _ _ _ _ _ _)
   | (with_reducible exact ih3 _ _ _ _ _ _)
   | (with_reducible exact ih4 _ _ _ _ _ _)
   | (with_reducible exact LeO.refl _)
   | (with_reducible exact LeO.none _)
   | (with_reducible refine LeO.ite ?_ ?_)
   | (with_reducible refine LeO.bind ?_ (fun _ => ?_))
   | exact ih0 _ _ _ _ _ _
   | exact ih1 _ _ _ _ _ _
   | exact ih2 _ _ _ _ _ _
   | exact ih3 _ _ _ _ _ _
   | exact ih4 _ _ _ _ _ _
   | exact LeO.none _
   | refine LeO.ite ?_ ?_
   | refine LeO.bind ?_ (fun _ => ?_)
  ·
   intro y0 y1 y2 y3 y4 y5
   unfold value_mayBe2.j3
   repeat' first
   | (with_reducible exact ih0 _ _ _ _ _ _)
   | (with_reducible exact ih1 _ _ _ _ _ _)
   | (with_reducible exact ih2 _ _ _ _ _ _)
   | (with_reducible exact ih3 _ _ _ _ _ _)
   | (with_reducible exact ih4 _ _ _ _ _ _)
   | (with_reducible exact LeO.refl _)
   | (with_reducible exact LeO.none _)
   | (with_reducible refine LeO.ite ?_ ?_)
   | (with_reducible refine LeO.bind ?_ (fun _ => ?_))
   | exact ih0 _ _ _ _ _ _
   | exact ih1 _ _ _ _ _ _
   | exact ih2 _ _ _ _ _ _
   | exact ih3 _ _ _ _ _ _
   | exact ih4 _ _ _ _ _ _
   | exact LeO.none _
   | refine LeO.ite ?_ ?_
   | refine LeO.bind ?_ (fun _ => ?_)
  ·
   intro y0 y1 y2 y3 y4 y5
   unfold value_mayBe2.j4
   repeat' first
   | (with_reducible exact ih0 _ _ _ _ _ _)
   | (with_reducible exact ih1 _ _ _ _ _ _)
   | (with_reducible exact ih2 _ _ _ _ _ _)
   | (with_reducible exact ih3 _ _ _ _ _ _)
   | (with_reducible exact ih4 _ _ _ _ _ _)
   | (with_reducible exact LeO.refl _)
   | (with_reducible exact LeO.none _)
   | (with_reducible refine LeO.ite ?_ ?_)
   | (with_reducible refine LeO.bind ?_ (fun _ => ?_))
   | exact ih0 _ _ _ _ _ _
   | exact ih1 _ _ _ _ _ _
   | exact ih2 _ _ _ _ _ _
   | exact ih3 _ _ _ _ _ _
   | exact ih4 _ _ _ _ _ _
   | exact LeO.none _
   | refine LeO.ite ?_ ?_
   | refine LeO.bind ?_ (fun _ => ?_)
theorem value_mayBe2.mono : ∀ a0 a1 a2 a3 a4 k, LeO (value_mayBe2.f k a0 a1 a2 a3 a4) (value_mayBe2.f (k + 1) a0 a1 a2 a3 a4) := by
 intro a0 a1 a2 a3 a4 k
 obtain ⟨ih0, ih1, ih2, ih3, ih4⟩ := value_mayBe2.mono_l k
 unfold value_mayBe2.f
 repeat' first
   | (with_reducible exact ih0 _ _ _ _ _ _)
   | (with_reducible exact ih1 _ _ _ _ _ _)
   | (with_reducible exact ih2 _ _ _ _ _ _)
   | (with_reducible exact ih3 _ _ _ _ _ _)
   | (with_reducible exact ih4 _ _ _ _ _ _)
   | (with_reducible exact LeO.refl _)
   | (with_reducible exact LeO.none _)
   | (with_reducible refine LeO.ite ?_ ?_)
   | (with_reducible refine LeO.bind ?_ (fun _ => ?_))
   | exact ih0 _ _ _ _ _ _
   | exact ih1 _ _ _ _ _ _
   | exact ih2 _ _ _ _ _ _
   | exact ih3 _ _ _ _ _ _
   | exact ih4 _ _ _ _ _ _
   | exact LeO.none _
   | refine LeO.ite ?_ ?_
   | refine LeO.bind ?_ (fun _ => ?_)
set_option maxHeartbeats 8000000 in
set_option maxRecDepth 100000 in
theorem value_mayBe2.calls (k : Nat) (z1_ : Int) (z5_ : Bool) (z3_ : ByteArray) (zj_ : Option Addr) (z9_ : Nat) (z0_ : List (S25)) (zz_ : Option Addr) (zq_ : Nat) (z2_ : List ByteArray) (r : Bool) (w : World) (jk_ : Kd.C k25 w zj_ z0_.length z0_) (jv_ : z0_.length ≤ z9_) (jx_ : Kd.C Kd.string w zz_ z2_.length z2_) (jy_ : z2_.length ≤ zq_) (hM : ConM z0_) (h : value_mayBe2.f k z1_ z5_ z3_ z0_ z2_ = some r) :
  Calls Tryd.prog 37 #[.agg #[.int .i64 z1_, .bool z5_, .string z3_, .slice zj_ z0_.length z9_, .slice zz_ z2_.length zq_]] w fun e w' => e = .returned (.bool r) ∧ Below w.heap.size w w' := by
 have kP_ := Tryd.underlying25
 have x3_ := q0_.mk jk_
 have k4_ := q0_.mk jv_
 clear jk_ jv_
 have xX_ := q0_.mk jx_
 have xr_ := q0_.mk jy_
 clear jx_ jy_
 have HB := q0_.mk (Below.refl w.heap.size w)
 have H : (if z1_ < 0 then (value_mayBe2.j0 k true z1_ z5_ z3_ z0_ z2_) else (value_mayBe2.j0 k (decide (z1_ > 5)) z1_ z5_ z3_ z0_ z2_)) = some r := h
 clear h
 have HC2 := q0_.mk H
 clear H
 go_enter Tryd.func37, Tryd.ntmps37
 go_upto_region 1 with (first | ((with_reducible refine qZ_ (N := 1) rfl ?_); (try (refine gate_guard (by rfl) ?_; dsimp only)); refine qJ_ ?hg (N := 1) ?hd (cs := #[.int .i64 z1_, .bool z5_, .string z3_, .slice zj_ z0_.length z9_, .slice zz_ z2_.length zq_]) (t := 25) ?hr ?_; (case hd => rfl); (case hg => rfl); (case hr => first | (go_simp; done) | (go_simp; rfl)); intro zy_ hg w3 hbox hb; have n0_ := q0_.mk (q4_ (by repeat (first | (with_reducible first | exact HB.out | apply q6_ | apply q5_ | apply q7_) | exact HB.out)) hb); have n1_ := q0_.mk (hbox); have n2_ := q0_.mk ((by rw [hg]; exact (qw_ (by repeat (first | (with_reducible first | exact HB.out | apply q6_ | apply q5_ | apply q7_) | exact HB.out))) : w.heap.size ≤ zy_)); have n3_ := q0_.mk ((by rw [hg]; exact (qw_ (by repeat (first | (with_reducible first | exact HB.out | apply q6_ | apply q5_ | apply q7_) | exact HB.out))) : w.heap.size ≤ zy_)); clear HB; have HB := n0_; have z7_ := n1_; have GW103 := n2_; have xs_ := n3_; clear n0_ n1_ n2_ n3_; clear hb hbox hg))
 (try simp only [Act.put, List.setIfInBounds_toArray, List.set_cons_zero, List.set_cons_succ])
 go_cut [3] (fun v3 wc => ∃ (kq : Nat) (xd_ : Bool), v3 = .bool xd_ ∧ q0_ (value_mayBe2.j0 kq xd_ z1_ z5_ z3_ z0_ z2_ = some r) ∧ q0_ (kq ≤ k) ∧ q0_ (wc.heap[zy_]? = some (.cells #[.int .i64 z1_, .bool z5_, .string z3_, (.slice zj_ z0_.length z9_), (.slice zz_ z2_.length zq_)] 25 (0, 0))) ∧ q0_ (Below w.heap.size w wc))
 case first =>
  have H := HC2.out
  clear HC2
  by_cases c4 : z1_ < 0
  ·
   rw [if_pos c4] at H
   have Z2_ : decide (z1_ < 0) = true := decide_eq_true c4
   clear c4
   (first | rw [Z2_] | (simp only [i64_w, i32_w]; rw [Z2_]) | skip)
   have H' := q0_.mk H
   clear H
   have w0_ : w3.cell? ⟨zy_, 0, none⟩ = some (.int .i64 z1_) := (q1_ z7_.out 0).trans rfl
   have vS_ : w3.cell? ⟨zy_, 1, none⟩ = some (.bool z5_) := (q1_ z7_.out 1).trans rfl
   have vs_ : w3.cell? ⟨zy_, 2, none⟩ = some (.string z3_) := (q1_ z7_.out 2).trans rfl
   have vR_ : w3.cell? ⟨zy_, 3, none⟩ = some (.slice zj_ z0_.length z9_) := (q1_ z7_.out 3).trans rfl
   have vr_ : w3.cell? ⟨zy_, 4, none⟩ = some (.slice zz_ z2_.length zq_) := (q1_ z7_.out 4).trans rfl
   have vK_ := q3_ z7_.out 0
   have vX_ := q3_ z7_.out 1
   have vJ_ := q3_ z7_.out 2
   have vZ_ := q3_ z7_.out 3
   have vQ_ := q3_ z7_.out 4
   go_wp2
   go_meet
   case rel => exact ⟨_, (true), (by first | rfl | (simp; done) | (simp [*]; done)), H', ⟨by first | omega | exact Nat.le_refl _⟩, ⟨by (with_reducible repeat (first | refine q9_ ?_ _ | refine qz_ ?_ | refine q8_ ?_ _)); exact z7_.out⟩, ⟨by repeat (first | (with_reducible first | exact HB.out | apply q6_ | apply q5_ | apply q7_ | refine qq_ ?_ xs_.out) | exact HB.out)⟩⟩
  ·
   rw [if_neg c4] at H
   have Z2_ : decide (z1_ < 0) = false := decide_eq_false c4
   clear c4
   (first | rw [Z2_] | (simp only [i64_w, i32_w]; rw [Z2_]) | skip)
   have H' := q0_.mk H
   clear H
   have V9_ : w3.cell? ⟨zy_, 0, none⟩ = some (.int .i64 z1_) := (q1_ z7_.out 0).trans rfl
   have V8_ : w3.cell? ⟨zy_, 1, none⟩ = some (.bool z5_) := (q1_ z7_.out 1).trans rfl
   have V7_ : w3.cell? ⟨zy_, 2, none⟩ = some (.string z3_) := (q1_ z7_.out 2).trans rfl
   have V6_ : w3.cell? ⟨zy_, 3, none⟩ = some (.slice zj_ z0_.length z9_) := (q1_ z7_.out 3).trans rfl
   have V5_ : w3.cell? ⟨zy_, 4, none⟩ = some (.slice zz_ z2_.length zq_) := (q1_ z7_.out 4).trans rfl
   have V4_ := q3_ z7_.out 0
   have V3_ := q3_ z7_.out 1
   have V2_ := q3_ z7_.out 2
   have V1_ := q3_ z7_.out 3
   have V0_ := q3_ z7_.out 4
   go_wp2
   go_meet
   case rel => exact ⟨_, (decide (z1_ > 5)), (by first | rfl | (simp; done) | (simp [*]; done)), H', ⟨by first | omega | exact Nat.le_refl _⟩, ⟨by (with_reducible repeat (first | refine q9_ ?_ _ | refine qz_ ?_ | refine q8_ ?_ _)); exact z7_.out⟩, ⟨by repeat (first | (with_reducible first | exact HB.out | apply q6_ | apply q5_ | apply q7_ | refine qq_ ?_ xs_.out) | exact HB.out)⟩⟩
 case rest =>
  clear HC2
  try clear p2
  try clear c3
  try clear c4
  try clear Z2_
  try clear w0_
  try clear vS_
  try clear vs_
  try clear vR_
  try clear vr_
  try clear V9_
  try clear V8_
  try clear V7_
  try clear V6_
  try clear V5_
  try clear vK_
  try clear vX_
  try clear vJ_
  try clear vZ_
  try clear vQ_
  try clear V4_
  try clear V3_
  try clear V2_
  try clear V1_
  try clear V0_
  obtain ⟨kq, xd_, rfl, HA, HJ1, z7_, HB⟩ := hcut
  cases kq with
  | zero => exact absurd HA.out (by simp [value_mayBe2.j0])
  | succ kj1 =>
   have H := HA.out
   clear HA
   simp only [value_mayBe2.j0] at H
   by_cases c7 : xd_ = true
   ·
    subst c7
    have H1 : (some false) = some r := by rw [if_pos rfl] at H; exact H
    clear H
    have H := H1
    clear H1
    obtain rfl := Option.some.inj H
    go_wp2
    go_ret
    exact ⟨by first | rfl | (simp [qk_, qy_] <;> rfl) | (simp [qk_, qy_] <;> decide +kernel) | (simp [*, qk_, qy_] <;> rfl), by repeat (first | (with_reducible first | exact HB.out | apply q6_ | apply q5_ | apply q7_ | refine qq_ ?_ xs_.out) | exact HB.out)⟩
   ·
    replace c7 := Bool.eq_false_iff.mpr c7
    subst c7
    have H1 : (if z5_ = true then (value_mayBe2.j1 kj1 (z1_ != 1) z1_ z5_ z3_ z0_ z2_) else (value_mayBe2.j1 kj1 false z1_ z5_ z3_ z0_ z2_)) = some r := by rw [if_neg (show ¬ (false = true) by decide)] at H; exact H
    clear H
    have H := H1
    clear H1
    have HC8 := q0_.mk H
    clear H
    go_upto_region 3 with (fail)
    go_cut [12] (fun v12 wc => ∃ (kq : Nat) (p0_ : Bool), v12 = .bool p0_ ∧ q0_ (value_mayBe2.j1 kq p0_ z1_ z5_ z3_ z0_ z2_ = some r) ∧ q0_ (kq ≤ kj1) ∧ q0_ (wc.heap[zy_]? = some (.cells #[.int .i64 z1_, .bool z5_, .string z3_, (.slice zj_ z0_.length z9_), (.slice zz_ z2_.length zq_)] 25 (0, 0))) ∧ q0_ (Below w.heap.size w wc))
    case first =>
     have H := HC8.out
     clear HC8
     by_cases c9 : z5_ = true
     ·
      subst c9
      have H1 : (value_mayBe2.j1 kj1 (z1_ != 1) z1_ true z3_ z0_ z2_) = some r := by rw [if_pos rfl] at H; exact H
      clear H
      have H := H1
      clear H1
      have H' := q0_.mk H
      clear H
      have wy_ : wc.cell? ⟨zy_, 0, none⟩ = some (.int .i64 z1_) := (q1_ z7_.out 0).trans rfl
      have wk_ : wc.cell? ⟨zy_, 1, none⟩ = some (.bool true) := (q1_ z7_.out 1).trans rfl
      have wx_ : wc.cell? ⟨zy_, 2, none⟩ = some (.string z3_) := (q1_ z7_.out 2).trans rfl
      have wj_ : wc.cell? ⟨zy_, 3, none⟩ = some (.slice zj_ z0_.length z9_) := (q1_ z7_.out 3).trans rfl
      have wz_ : wc.cell? ⟨zy_, 4, none⟩ = some (.slice zz_ z2_.length zq_) := (q1_ z7_.out 4).trans rfl
      have vP_ := q3_ z7_.out 0
      have vp_ := q3_ z7_.out 1
      have vD_ := q3_ z7_.out 2
      have vd_ := q3_ z7_.out 3
      have vB_ := q3_ z7_.out 4
      go_wp2
      go_meet
      case rel => exact ⟨_, ((z1_ != 1)), (by first | rfl | (simp; done) | (simp [*]; done)), H', ⟨by have := HJ1.out; first | omega | exact Nat.le_refl _⟩, ⟨by (with_reducible repeat (first | refine q9_ ?_ _ | refine qz_ ?_ | refine q8_ ?_ _)); exact z7_.out⟩, ⟨by repeat (first | (with_reducible first | exact HB.out | apply q6_ | apply q5_ | apply q7_ | refine qq_ ?_ xs_.out) | exact HB.out)⟩⟩
     ·
      replace c9 := Bool.eq_false_iff.mpr c9
      subst c9
      have H1 : (value_mayBe2.j1 kj1 false z1_ false z3_ z0_ z2_) = some r := by rw [if_neg (show ¬ (false = true) by decide)] at H; exact H
      clear H
      have H := H1
      clear H1
      have H' := q0_.mk H
      clear H
      have v9_ : wc.cell? ⟨zy_, 0, none⟩ = some (.int .i64 z1_) := (q1_ z7_.out 0).trans rfl
      have v8_ : wc.cell? ⟨zy_, 1, none⟩ = some (.bool false) := (q1_ z7_.out 1).trans rfl
      have v7_ : wc.cell? ⟨zy_, 2, none⟩ = some (.string z3_) := (q1_ z7_.out 2).trans rfl
      have v6_ : wc.cell? ⟨zy_, 3, none⟩ = some (.slice zj_ z0_.length z9_) := (q1_ z7_.out 3).trans rfl
      have v5_ : wc.cell? ⟨zy_, 4, none⟩ = some (.slice zz_ z2_.length zq_) := (q1_ z7_.out 4).trans rfl
      have yp_ := q3_ z7_.out 0
      have yD_ := q3_ z7_.out 1
      have yd_ := q3_ z7_.out 2
      have yB_ := q3_ z7_.out 3
      have yb_ := q3_ z7_.out 4
      go_wp2
      go_meet
      case rel => exact ⟨_, (false), (by first | rfl | (simp; done) | (simp [*]; done)), H', ⟨by have := HJ1.out; first | omega | exact Nat.le_refl _⟩, ⟨by (with_reducible repeat (first | refine q9_ ?_ _ | refine qz_ ?_ | refine q8_ ?_ _)); exact z7_.out⟩, ⟨by repeat (first | (with_reducible first | exact HB.out | apply q6_ | apply q5_ | apply q7_ | refine qq_ ?_ xs_.out) | exact HB.out)⟩⟩
    case rest =>
     clear HC8
     try clear p2
     try clear c3
     try clear c4
     try clear Z2_
     try clear c7
     try clear c9
     try clear wy_
     try clear wk_
     try clear wx_
     try clear wj_
     try clear wz_
     try clear v9_
     try clear v8_
     try clear v7_
     try clear v6_
     try clear v5_
     try clear w0_
     try clear vS_
     try clear vs_
     try clear vR_
     try clear vr_
     try clear V9_
     try clear V8_
     try clear V7_
     try clear V6_
     try clear V5_
     try clear vP_
     try clear vp_
     try clear vD_
     try clear vd_
     try clear vB_
     try clear yp_
     try clear yD_
     try clear yd_
     try clear yB_
     try clear yb_
     try clear vK_
     try clear vX_
     try clear vJ_
     try clear vZ_
     try clear vQ_
     try clear V4_
     try clear V3_
     try clear V2_
     try clear V1_
     try clear V0_
     try clear p2
     obtain ⟨kq, p0_, rfl, HA, HJ7, z7_, HB⟩ := hcut
     cases kq with
     | zero => exact absurd HA.out (by simp [value_mayBe2.j1])
     | succ kj7 =>
      have H := HA.out
      clear HA
      simp only [value_mayBe2.j1] at H
      by_cases c12 : p0_ = true
      ·
       subst c12
       have H1 : (some false) = some r := by rw [if_pos rfl] at H; exact H
       clear H
       have H := H1
       clear H1
       obtain rfl := Option.some.inj H
       go_wp2
       go_ret
       exact ⟨by first | rfl | (simp [qk_, qy_] <;> rfl) | (simp [qk_, qy_] <;> decide +kernel) | (simp [*, qk_, qy_] <;> rfl), by repeat (first | (with_reducible first | exact HB.out | apply q6_ | apply q5_ | apply q7_ | refine qq_ ?_ xs_.out) | exact HB.out)⟩
      ·
       replace c12 := Bool.eq_false_iff.mpr c12
       subst c12
       have H1 : (if z3_.toList = ([] : List UInt8) then (value_mayBe2.j2 kj7 false z1_ z5_ z3_ z0_ z2_) else (if z1_ = 2 then (value_mayBe2.j2 kj7 false z1_ z5_ z3_ z0_ z2_) else (value_mayBe2.j2 kj7 (z1_ != 3) z1_ z5_ z3_ z0_ z2_))) = some r := by rw [if_neg (show ¬ (false = true) by decide)] at H; exact H
       clear H
       have H := H1
       clear H1
       have HC13 := q0_.mk H
       clear H
       go_upto_region 5 with (fail)
       go_cut [20] (fun v20 wc => ∃ (kq : Nat) (b8_ : Bool), v20 = .bool b8_ ∧ q0_ (value_mayBe2.j2 kq b8_ z1_ z5_ z3_ z0_ z2_ = some r) ∧ q0_ (kq ≤ kj7) ∧ q0_ (wc.heap[zy_]? = some (.cells #[.int .i64 z1_, .bool z5_, .string z3_, (.slice zj_ z0_.length z9_), (.slice zz_ z2_.length zq_)] 25 (0, 0))) ∧ q0_ (Below w.heap.size w wc))
       case first =>
        have H := HC13.out
        clear HC13
        by_cases c14 : z3_.toList = ([] : List UInt8)
        ·
         rw [if_pos c14] at H
         have KK_ : (z3_.toList == ([] : List UInt8)) = true := beq_iff_eq.mpr c14
         have bW_ : (z3_.toList != ([] : List UInt8)) = false := bne_eq_false_iff_eq.mpr c14
         clear c14
         (first | rw [KK_] | (simp only [i64_w, i32_w]; rw [KK_]) | skip)
         have H' := q0_.mk H
         clear H
         have v2_ : wc.cell? ⟨zy_, 0, none⟩ = some (.int .i64 z1_) := (q1_ z7_.out 0).trans rfl
         have v1_ : wc.cell? ⟨zy_, 1, none⟩ = some (.bool z5_) := (q1_ z7_.out 1).trans rfl
         have v0_ : wc.cell? ⟨zy_, 2, none⟩ = some (.string z3_) := (q1_ z7_.out 2).trans rfl
         have yS_ : wc.cell? ⟨zy_, 3, none⟩ = some (.slice zj_ z0_.length z9_) := (q1_ z7_.out 3).trans rfl
         have ys_ : wc.cell? ⟨zy_, 4, none⟩ = some (.slice zz_ z2_.length zq_) := (q1_ z7_.out 4).trans rfl
         have yF_ := q3_ z7_.out 0
         have yf_ := q3_ z7_.out 1
         have yH_ := q3_ z7_.out 2
         have yh_ := q3_ z7_.out 3
         have yG_ := q3_ z7_.out 4
         go_wp2
         go_meet
         case rel => exact ⟨_, (false), (by first | rfl | (simp; done) | (simp [*]; done)), H', ⟨by have := HJ1.out; have := HJ7.out; first | omega | exact Nat.le_refl _⟩, ⟨by (with_reducible repeat (first | refine q9_ ?_ _ | refine qz_ ?_ | refine q8_ ?_ _)); exact z7_.out⟩, ⟨by repeat (first | (with_reducible first | exact HB.out | apply q6_ | apply q5_ | apply q7_ | refine qq_ ?_ xs_.out) | exact HB.out)⟩⟩
        ·
         rw [if_neg c14] at H
         have KK_ : (z3_.toList == ([] : List UInt8)) = false := beq_eq_false_iff_ne.mpr c14
         have bW_ : (z3_.toList != ([] : List UInt8)) = true := bne_iff_ne.mpr c14
         (first | rw [KK_] | (simp only [i64_w, i32_w]; rw [KK_]) | skip)
         by_cases c16 : z1_ = 2
         ·
          rw [if_pos c16] at H
          have Py_ : (z1_ == 2) = true := beq_iff_eq.mpr c16
          have Pk_ : (z1_ != 2) = false := bne_eq_false_iff_eq.mpr c16
          clear c16
          have H' := q0_.mk H
          clear H
          have K3_ : wc.cell? ⟨zy_, 0, none⟩ = some (.int .i64 z1_) := (q1_ z7_.out 0).trans rfl
          have K2_ : wc.cell? ⟨zy_, 1, none⟩ = some (.bool z5_) := (q1_ z7_.out 1).trans rfl
          have K1_ : wc.cell? ⟨zy_, 2, none⟩ = some (.string z3_) := (q1_ z7_.out 2).trans rfl
          have K0_ : wc.cell? ⟨zy_, 3, none⟩ = some (.slice zj_ z0_.length z9_) := (q1_ z7_.out 3).trans rfl
          have XS_ : wc.cell? ⟨zy_, 4, none⟩ = some (.slice zz_ z2_.length zq_) := (q1_ z7_.out 4).trans rfl
          have XJ_ := q3_ z7_.out 0
          have XZ_ := q3_ z7_.out 1
          have XQ_ := q3_ z7_.out 2
          have Xw_ := q3_ z7_.out 3
          have Xv_ := q3_ z7_.out 4
          go_wp2
          go_meet
          case rel => exact ⟨_, (false), (by first | rfl | (simp; done) | (simp [*]; done)), H', ⟨by have := HJ1.out; have := HJ7.out; first | omega | exact Nat.le_refl _⟩, ⟨by (with_reducible repeat (first | refine q9_ ?_ _ | refine qz_ ?_ | refine q8_ ?_ _)); exact z7_.out⟩, ⟨by repeat (first | (with_reducible first | exact HB.out | apply q6_ | apply q5_ | apply q7_ | refine qq_ ?_ xs_.out) | exact HB.out)⟩⟩
         ·
          rw [if_neg c16] at H
          have Py_ : (z1_ == 2) = false := beq_eq_false_iff_ne.mpr c16
          have Pk_ : (z1_ != 2) = true := bne_iff_ne.mpr c16
          have H' := q0_.mk H
          clear H
          have kf_ : wc.cell? ⟨zy_, 0, none⟩ = some (.int .i64 z1_) := (q1_ z7_.out 0).trans rfl
          have kH_ : wc.cell? ⟨zy_, 1, none⟩ = some (.bool z5_) := (q1_ z7_.out 1).trans rfl
          have kh_ : wc.cell? ⟨zy_, 2, none⟩ = some (.string z3_) := (q1_ z7_.out 2).trans rfl
          have kG_ : wc.cell? ⟨zy_, 3, none⟩ = some (.slice zj_ z0_.length z9_) := (q1_ z7_.out 3).trans rfl
          have kg_ : wc.cell? ⟨zy_, 4, none⟩ = some (.slice zz_ z2_.length zq_) := (q1_ z7_.out 4).trans rfl
          have kW_ := q3_ z7_.out 0
          have kV_ := q3_ z7_.out 1
          have kY_ := q3_ z7_.out 2
          have kK_ := q3_ z7_.out 3
          have kX_ := q3_ z7_.out 4
          go_wp2
          go_meet
          case rel => exact ⟨_, ((z1_ != 3)), (by first | rfl | (simp; done) | (simp [*]; done)), H', ⟨by have := HJ1.out; have := HJ7.out; first | omega | exact Nat.le_refl _⟩, ⟨by (with_reducible repeat (first | refine q9_ ?_ _ | refine qz_ ?_ | refine q8_ ?_ _)); exact z7_.out⟩, ⟨by repeat (first | (with_reducible first | exact HB.out | apply q6_ | apply q5_ | apply q7_ | refine qq_ ?_ xs_.out) | exact HB.out)⟩⟩
       case rest =>
        clear HC13
        try clear c1
        try clear p2
        try clear c3
        try clear c4
        try clear Z2_
        try clear c7
        try clear c9
        try clear c12
        try clear c14
        try clear KK_
        try clear bW_
        try clear c16
        try clear Py_
        try clear Pk_
        try clear wy_
        try clear wk_
        try clear wx_
        try clear wj_
        try clear wz_
        try clear v9_
        try clear v8_
        try clear v7_
        try clear v6_
        try clear v5_
        try clear v2_
        try clear v1_
        try clear v0_
        try clear yS_
        try clear ys_
        try clear K3_
        try clear K2_
        try clear K1_
        try clear K0_
        try clear XS_
        try clear kf_
        try clear kH_
        try clear kh_
        try clear kG_
        try clear kg_
        try clear w0_
        try clear vS_
        try clear vs_
        try clear vR_
        try clear vr_
        try clear V9_
        try clear V8_
        try clear V7_
        try clear V6_
        try clear V5_
        try clear vP_
        try clear vp_
        try clear vD_
        try clear vd_
        try clear vB_
        try clear yp_
        try clear yD_
        try clear yd_
        try clear yB_
        try clear yb_
        try clear yF_
        try clear yf_
        try clear yH_
        try clear yh_
        try clear yG_
        try clear XJ_
        try clear XZ_
        try clear XQ_
        try clear Xw_
        try clear Xv_
        try clear kW_
        try clear kV_
        try clear kY_
        try clear kK_
        try clear kX_
        try clear vK_
        try clear vX_
        try clear vJ_
        try clear vZ_
        try clear vQ_
        try clear V4_
        try clear V3_
        try clear V2_
        try clear V1_
        try clear V0_
        try clear p2
        obtain ⟨kq, b8_, rfl, HA, HJ12, z7_, HB⟩ := hcut
        cases kq with
        | zero => exact absurd HA.out (by simp [value_mayBe2.j2])
        | succ kj12 =>
         have H := HA.out
         clear HA
         simp only [value_mayBe2.j2] at H
         by_cases c19 : b8_ = true
         ·
          subst c19
          have H1 : (some false) = some r := by rw [if_pos rfl] at H; exact H
          clear H
          have H := H1
          clear H1
          obtain rfl := Option.some.inj H
          go_wp2
          go_ret
          exact ⟨by first | rfl | (simp [qk_, qy_] <;> rfl) | (simp [qk_, qy_] <;> decide +kernel) | (simp [*, qk_, qy_] <;> rfl), by repeat (first | (with_reducible first | exact HB.out | apply q6_ | apply q5_ | apply q7_ | refine qq_ ?_ xs_.out) | exact HB.out)⟩
         ·
          replace c19 := Bool.eq_false_iff.mpr c19
          subst c19
          have H1 : (if (z0_.length : Int) > 0 then (if z1_ = 4 then (value_mayBe2.j3 kj12 false z1_ z5_ z3_ z0_ z2_) else (value_mayBe2.j3 kj12 (z1_ != 5) z1_ z5_ z3_ z0_ z2_)) else (value_mayBe2.j3 kj12 false z1_ z5_ z3_ z0_ z2_)) = some r := by rw [if_neg (show ¬ (false = true) by decide)] at H; exact H
          clear H
          have H := H1
          clear H1
          have HC20 := q0_.mk H
          clear H
          go_upto_region 7 with (fail)
          go_cut [34] (fun v34 wc => ∃ (kq : Nat) (b7_ : Bool), v34 = .bool b7_ ∧ q0_ (value_mayBe2.j3 kq b7_ z1_ z5_ z3_ z0_ z2_ = some r) ∧ q0_ (kq ≤ kj12) ∧ q0_ (wc.heap[zy_]? = some (.cells #[.int .i64 z1_, .bool z5_, .string z3_, (.slice zj_ z0_.length z9_), (.slice zz_ z2_.length zq_)] 25 (0, 0))) ∧ q0_ (Below w.heap.size w wc))
          case first =>
           have H := HC20.out
           clear HC20
           by_cases c21 : (z0_.length : Int) > 0
           ·
            rw [if_pos c21] at H
            have ZF_ : decide (0 < (z0_.length : Int)) = true := decide_eq_true c21
            have Vv_ : decide (0 < z0_.length) = true := decide_eq_true (by omega)
            clear c21
            (first | rw [ZF_] | (simp only [i64_w, i32_w]; rw [ZF_]) | skip)
            by_cases c22 : z1_ = 4
            ·
             rw [if_pos c22] at H
             have dd_ : (z1_ == 4) = true := beq_iff_eq.mpr c22
             have c22b1 : (z1_ != 4) = false := bne_eq_false_iff_eq.mpr c22
             clear c22
             have H' := q0_.mk H
             clear H
             have YF_ : wc.cell? ⟨zy_, 0, none⟩ = some (.int .i64 z1_) := (q1_ z7_.out 0).trans rfl
             have Yf_ : wc.cell? ⟨zy_, 1, none⟩ = some (.bool z5_) := (q1_ z7_.out 1).trans rfl
             have YH_ : wc.cell? ⟨zy_, 2, none⟩ = some (.string z3_) := (q1_ z7_.out 2).trans rfl
             have Yh_ : wc.cell? ⟨zy_, 3, none⟩ = some (.slice zj_ z0_.length z9_) := (q1_ z7_.out 3).trans rfl
             have YG_ : wc.cell? ⟨zy_, 4, none⟩ = some (.slice zz_ z2_.length zq_) := (q1_ z7_.out 4).trans rfl
             have Y6_ := q3_ z7_.out 0
             have Y5_ := q3_ z7_.out 1
             have Y4_ := q3_ z7_.out 2
             have Y3_ := q3_ z7_.out 3
             have Y2_ := q3_ z7_.out 4
             go_wp2
             go_meet
             case rel => exact ⟨_, (false), (by first | rfl | (simp; done) | (simp [*]; done)), H', ⟨by have := HJ1.out; have := HJ7.out; have := HJ12.out; first | omega | exact Nat.le_refl _⟩, ⟨by (with_reducible repeat (first | refine q9_ ?_ _ | refine qz_ ?_ | refine q8_ ?_ _)); exact z7_.out⟩, ⟨by repeat (first | (with_reducible first | exact HB.out | apply q6_ | apply q5_ | apply q7_ | refine qq_ ?_ xs_.out) | exact HB.out)⟩⟩
            ·
             rw [if_neg c22] at H
             have dd_ : (z1_ == 4) = false := beq_eq_false_iff_ne.mpr c22
             have c22b1 : (z1_ != 4) = true := bne_iff_ne.mpr c22
             have H' := q0_.mk H
             clear H
             have wq_ : wc.cell? ⟨zy_, 0, none⟩ = some (.int .i64 z1_) := (q1_ z7_.out 0).trans rfl
             have w9_ : wc.cell? ⟨zy_, 1, none⟩ = some (.bool z5_) := (q1_ z7_.out 1).trans rfl
             have w8_ : wc.cell? ⟨zy_, 2, none⟩ = some (.string z3_) := (q1_ z7_.out 2).trans rfl
             have w7_ : wc.cell? ⟨zy_, 3, none⟩ = some (.slice zj_ z0_.length z9_) := (q1_ z7_.out 3).trans rfl
             have w6_ : wc.cell? ⟨zy_, 4, none⟩ = some (.slice zz_ z2_.length zq_) := (q1_ z7_.out 4).trans rfl
             have vb_ := q3_ z7_.out 0
             have vF_ := q3_ z7_.out 1
             have vf_ := q3_ z7_.out 2
             have vH_ := q3_ z7_.out 3
             have vh_ := q3_ z7_.out 4
             go_wp2
             go_meet
             case rel => exact ⟨_, ((z1_ != 5)), (by first | rfl | (simp; done) | (simp [*]; done)), H', ⟨by have := HJ1.out; have := HJ7.out; have := HJ12.out; first | omega | exact Nat.le_refl _⟩, ⟨by (with_reducible repeat (first | refine q9_ ?_ _ | refine qz_ ?_ | refine q8_ ?_ _)); exact z7_.out⟩, ⟨by repeat (first | (with_reducible first | exact HB.out | apply q6_ | apply q5_ | apply q7_ | refine qq_ ?_ xs_.out) | exact HB.out)⟩⟩
           ·
            rw [if_neg c21] at H
            have ZF_ : decide (0 < (z0_.length : Int)) = false := decide_eq_false c21
            have Vv_ : decide (0 < z0_.length) = false := decide_eq_false (by omega)
            clear c21
            (first | rw [ZF_] | (simp only [i64_w, i32_w]; rw [ZF_]) | skip)
            have H' := q0_.mk H
            clear H
            have ZH_ : wc.cell? ⟨zy_, 0, none⟩ = some (.int .i64 z1_) := (q1_ z7_.out 0).trans rfl
            have Zh_ : wc.cell? ⟨zy_, 1, none⟩ = some (.bool z5_) := (q1_ z7_.out 1).trans rfl
            have yR_ : wc.cell? ⟨zy_, 2, none⟩ = some (.string z3_) := (q1_ z7_.out 2).trans rfl
            have yr_ : wc.cell? ⟨zy_, 3, none⟩ = some (.slice zj_ z0_.length z9_) := (q1_ z7_.out 3).trans rfl
            have yP_ : wc.cell? ⟨zy_, 4, none⟩ = some (.slice zz_ z2_.length zq_) := (q1_ z7_.out 4).trans rfl
            have yg_ := q3_ z7_.out 0
            have yW_ := q3_ z7_.out 1
            have yV_ := q3_ z7_.out 2
            have yY_ := q3_ z7_.out 3
            have yK_ := q3_ z7_.out 4
            go_wp2
            go_meet
            case rel => exact ⟨_, (false), (by first | rfl | (simp; done) | (simp [*]; done)), H', ⟨by have := HJ1.out; have := HJ7.out; have := HJ12.out; first | omega | exact Nat.le_refl _⟩, ⟨by (with_reducible repeat (first | refine q9_ ?_ _ | refine qz_ ?_ | refine q8_ ?_ _)); exact z7_.out⟩, ⟨by repeat (first | (with_reducible first | exact HB.out | apply q6_ | apply q5_ | apply q7_ | refine qq_ ?_ xs_.out) | exact HB.out)⟩⟩
          case rest =>
           clear HC20
           try clear c1
           try clear c2
           try clear p2
           try clear c3
           try clear c4
           try clear Z2_
           try clear c7
           try clear c9
           try clear c12
           try clear c14
           try clear KK_
           try clear bW_
           try clear c16
           try clear Py_
           try clear Pk_
           try clear c19
           try clear c21
           try clear ZF_
           try clear Vv_
           try clear c22
           try clear dd_
           try clear c22b1
           try clear wy_
           try clear wk_
           try clear wx_
           try clear wj_
           try clear wz_
           try clear v9_
           try clear v8_
           try clear v7_
           try clear v6_
           try clear v5_
           try clear v2_
           try clear v1_
           try clear v0_
           try clear yS_
           try clear ys_
           try clear K3_
           try clear K2_
           try clear K1_
           try clear K0_
           try clear XS_
           try clear kf_
           try clear kH_
           try clear kh_
           try clear kG_
           try clear kg_
           try clear YF_
           try clear Yf_
           try clear YH_
           try clear Yh_
           try clear YG_
           try clear wq_
           try clear w9_
           try clear w8_
           try clear w7_
           try clear w6_
           try clear ZH_
           try clear Zh_
           try clear yR_
           try clear yr_
           try clear yP_
           try clear w0_
           try clear vS_
           try clear vs_
           try clear vR_
           try clear vr_
           try clear V9_
           try clear V8_
           try clear V7_
           try clear V6_
           try clear V5_
           try clear vP_
           try clear vp_
           try clear vD_
           try clear vd_
           try clear vB_
           try clear yp_
           try clear yD_
           try clear yd_
           try clear yB_
           try clear yb_
           try clear yF_
           try clear yf_
           try clear yH_
           try clear yh_
           try clear yG_
           try clear XJ_
           try clear XZ_
           try clear XQ_
           try clear Xw_
           try clear Xv_
           try clear kW_
           try clear kV_
           try clear kY_
           try clear kK_
           try clear kX_
           try clear Y6_
           try clear Y5_
           try clear Y4_
           try clear Y3_
           try clear Y2_
           try clear vb_
           try clear vF_
           try clear vf_
           try clear vH_
           try clear vh_
           try clear yg_
           try clear yW_
           try clear yV_
           try clear yY_
           try clear yK_
           try clear vK_
           try clear vX_
           try clear vJ_
           try clear vZ_
           try clear vQ_
           try clear V4_
           try clear V3_
           try clear V2_
           try clear V1_
           try clear V0_
           try clear p2
           obtain ⟨kq, b7_, rfl, HA, HJ19, z7_, HB⟩ := hcut
           cases kq with
           | zero => exact absurd HA.out (by simp [value_mayBe2.j3])
           | succ kj19 =>
            have H := HA.out
            clear HA
            simp only [value_mayBe2.j3] at H
            by_cases c26 : b7_ = true
            ·
             subst c26
             have H1 : (some false) = some r := by rw [if_pos rfl] at H; exact H
             clear H
             have H := H1
             clear H1
             obtain rfl := Option.some.inj H
             go_wp2
             go_ret
             exact ⟨by first | rfl | (simp [qk_, qy_] <;> rfl) | (simp [qk_, qy_] <;> decide +kernel) | (simp [*, qk_, qy_] <;> rfl), by repeat (first | (with_reducible first | exact HB.out | apply q6_ | apply q5_ | apply q7_ | refine qq_ ?_ xs_.out) | exact HB.out)⟩
            ·
             replace c26 := Bool.eq_false_iff.mpr c26
             subst c26
             have H1 : (if (z2_.length : Int) > 0 then (value_mayBe2.j4 kj19 (z1_ != 5) z1_ z5_ z3_ z0_ z2_) else (value_mayBe2.j4 kj19 false z1_ z5_ z3_ z0_ z2_)) = some r := by rw [if_neg (show ¬ (false = true) by decide)] at H; exact H
             clear H
             have H := H1
             clear H1
             have HC27 := q0_.mk H
             clear H
             go_upto_region 9 with (fail)
             go_cut [49] (fun v49 wc => ∃ (kq : Nat) (b6_ : Bool), v49 = .bool b6_ ∧ q0_ (value_mayBe2.j4 kq b6_ z1_ z5_ z3_ z0_ z2_ = some r) ∧ q0_ (kq ≤ kj19) ∧ q0_ (wc.heap[zy_]? = some (.cells #[.int .i64 z1_, .bool z5_, .string z3_, (.slice zj_ z0_.length z9_), (.slice zz_ z2_.length zq_)] 25 (0, 0))) ∧ q0_ (Below w.heap.size w wc))
             case first =>
              have H := HC27.out
              clear HC27
              by_cases c28 : (z2_.length : Int) > 0
              ·
               rw [if_pos c28] at H
               have Fv_ : decide (0 < (z2_.length : Int)) = true := decide_eq_true c28
               have c28b1 : decide (0 < z2_.length) = true := decide_eq_true (by omega)
               clear c28
               (first | rw [Fv_] | (simp only [i64_w, i32_w]; rw [Fv_]) | skip)
               have H' := q0_.mk H
               clear H
               have w5_ : wc.cell? ⟨zy_, 0, none⟩ = some (.int .i64 z1_) := (q1_ z7_.out 0).trans rfl
               have w4_ : wc.cell? ⟨zy_, 1, none⟩ = some (.bool z5_) := (q1_ z7_.out 1).trans rfl
               have w3_ : wc.cell? ⟨zy_, 2, none⟩ = some (.string z3_) := (q1_ z7_.out 2).trans rfl
               have w2_ : wc.cell? ⟨zy_, 3, none⟩ = some (.slice zj_ z0_.length z9_) := (q1_ z7_.out 3).trans rfl
               have w1_ : wc.cell? ⟨zy_, 4, none⟩ = some (.slice zz_ z2_.length zq_) := (q1_ z7_.out 4).trans rfl
               have vG_ := q3_ z7_.out 0
               have vg_ := q3_ z7_.out 1
               have vW_ := q3_ z7_.out 2
               have vV_ := q3_ z7_.out 3
               have vY_ := q3_ z7_.out 4
               go_wp2
               go_meet
               case rel => exact ⟨_, ((z1_ != 5)), (by first | rfl | (simp; done) | (simp [*]; done)), H', ⟨by have := HJ1.out; have := HJ7.out; have := HJ12.out; have := HJ19.out; first | omega | exact Nat.le_refl _⟩, ⟨by (with_reducible repeat (first | refine q9_ ?_ _ | refine qz_ ?_ | refine q8_ ?_ _)); exact z7_.out⟩, ⟨by repeat (first | (with_reducible first | exact HB.out | apply q6_ | apply q5_ | apply q7_ | refine qq_ ?_ xs_.out) | exact HB.out)⟩⟩
              ·
               rw [if_neg c28] at H
               have Fv_ : decide (0 < (z2_.length : Int)) = false := decide_eq_false c28
               have c28b1 : decide (0 < z2_.length) = false := decide_eq_false (by omega)
               clear c28
               (first | rw [Fv_] | (simp only [i64_w, i32_w]; rw [Fv_]) | skip)
               have H' := q0_.mk H
               clear H
               have hcz30_0 : wc.cell? ⟨zy_, 0, none⟩ = some (.int .i64 z1_) := (q1_ z7_.out 0).trans rfl
               have hcz30_1 : wc.cell? ⟨zy_, 1, none⟩ = some (.bool z5_) := (q1_ z7_.out 1).trans rfl
               have hcz30_2 : wc.cell? ⟨zy_, 2, none⟩ = some (.string z3_) := (q1_ z7_.out 2).trans rfl
               have hcz30_3 : wc.cell? ⟨zy_, 3, none⟩ = some (.slice zj_ z0_.length z9_) := (q1_ z7_.out 3).trans rfl
               have hcz30_4 : wc.cell? ⟨zy_, 4, none⟩ = some (.slice zz_ z2_.length zq_) := (q1_ z7_.out 4).trans rfl
               have RB_ := q3_ z7_.out 0
               have Rb_ := q3_ z7_.out 1
               have RF_ := q3_ z7_.out 2
               have Rf_ := q3_ z7_.out 3
               have RH_ := q3_ z7_.out 4
               go_wp2
               go_meet
               case rel => exact ⟨_, (false), (by first | rfl | (simp; done) | (simp [*]; done)), H', ⟨by have := HJ1.out; have := HJ7.out; have := HJ12.out; have := HJ19.out; first | omega | exact Nat.le_refl _⟩, ⟨by (with_reducible repeat (first | refine q9_ ?_ _ | refine qz_ ?_ | refine q8_ ?_ _)); exact z7_.out⟩, ⟨by repeat (first | (with_reducible first | exact HB.out | apply q6_ | apply q5_ | apply q7_ | refine qq_ ?_ xs_.out) | exact HB.out)⟩⟩
             case rest =>
              clear HC27
              try clear c1
              try clear c2
              try clear p2
              try clear c3
              try clear c4
              try clear Z2_
              try clear c7
              try clear c9
              try clear c12
              try clear c14
              try clear KK_
              try clear bW_
              try clear c16
              try clear Py_
              try clear Pk_
              try clear c19
              try clear c21
              try clear ZF_
              try clear Vv_
              try clear c22
              try clear dd_
              try clear c22b1
              try clear c26
              try clear c28
              try clear Fv_
              try clear c28b1
              try clear wy_
              try clear wk_
              try clear wx_
              try clear wj_
              try clear wz_
              try clear v9_
              try clear v8_
              try clear v7_
              try clear v6_
              try clear v5_
              try clear v2_
              try clear v1_
              try clear v0_
              try clear yS_
              try clear ys_
              try clear K3_
              try clear K2_
              try clear K1_
              try clear K0_
              try clear XS_
              try clear kf_
              try clear kH_
              try clear kh_
              try clear kG_
              try clear kg_
              try clear YF_
              try clear Yf_
              try clear YH_
              try clear Yh_
              try clear YG_
              try clear wq_
              try clear w9_
              try clear w8_
              try clear w7_
              try clear w6_
              try clear ZH_
              try clear Zh_
              try clear yR_
              try clear yr_
              try clear yP_
              try clear w5_
              try clear w4_
              try clear w3_
              try clear w2_
              try clear w1_
              try clear hcz30_0
              try clear hcz30_1
              try clear hcz30_2
              try clear hcz30_3
              try clear hcz30_4
              try clear w0_
              try clear vS_
              try clear vs_
              try clear vR_
              try clear vr_
              try clear V9_
              try clear V8_
              try clear V7_
              try clear V6_
              try clear V5_
              try clear vP_
              try clear vp_
              try clear vD_
              try clear vd_
              try clear vB_
              try clear yp_
              try clear yD_
              try clear yd_
              try clear yB_
              try clear yb_
              try clear yF_
              try clear yf_
              try clear yH_
              try clear yh_
              try clear yG_
              try clear XJ_
              try clear XZ_
              try clear XQ_
              try clear Xw_
              try clear Xv_
              try clear kW_
              try clear kV_
              try clear kY_
              try clear kK_
              try clear kX_
              try clear Y6_
              try clear Y5_
              try clear Y4_
              try clear Y3_
              try clear Y2_
              try clear vb_
              try clear vF_
              try clear vf_
              try clear vH_
              try clear vh_
              try clear yg_
              try clear yW_
              try clear yV_
              try clear yY_
              try clear yK_
              try clear vG_
              try clear vg_
              try clear vW_
              try clear vV_
              try clear vY_
              try clear RB_
              try clear Rb_
              try clear RF_
              try clear Rf_
              try clear RH_
              try clear vK_
              try clear vX_
              try clear vJ_
              try clear vZ_
              try clear vQ_
              try clear V4_
              try clear V3_
              try clear V2_
              try clear V1_
              try clear V0_
              try clear p2
              obtain ⟨kq, b6_, rfl, HA, HJ26, z7_, HB⟩ := hcut
              cases kq with
              | zero => exact absurd HA.out (by simp [value_mayBe2.j4])
              | succ kj26 =>
               have H := HA.out
               clear HA
               simp only [value_mayBe2.j4] at H
               by_cases c31 : b6_ = true
               ·
                subst c31
                have H1 : (some false) = some r := by rw [if_pos rfl] at H; exact H
                clear H
                have H := H1
                clear H1
                obtain rfl := Option.some.inj H
                go_wp2
                go_ret
                exact ⟨by first | rfl | (simp [qk_, qy_] <;> rfl) | (simp [qk_, qy_] <;> decide +kernel) | (simp [*, qk_, qy_] <;> rfl), by repeat (first | (with_reducible first | exact HB.out | apply q6_ | apply q5_ | apply q7_ | refine qq_ ?_ xs_.out) | exact HB.out)⟩
               ·
                replace c31 := Bool.eq_false_iff.mpr c31
                subst c31
                have H1 : (if z1_ = 5 then (if (z2_.length : Int) = (z0_.length : Int) then ((conM.f z0_).bind fun ZS_ => (some (!ZS_))) else (some false)) else ((conM.f z0_).bind fun bX_ => (some (!bX_)))) = some r := by rw [if_neg (show ¬ (false = true) by decide)] at H; exact H
                clear H
                have H := H1
                clear H1
                by_cases c32 : z1_ = 5
                ·
                 rw [if_pos c32] at H
                 have bY_ : (z1_ == 5) = true := beq_iff_eq.mpr c32
                 have c32b1 : (z1_ != 5) = false := bne_eq_false_iff_eq.mpr c32
                 clear c32
                 by_cases c33 : (z2_.length : Int) = (z0_.length : Int)
                 ·
                  rw [if_pos c33] at H
                  have c33b0 : ((z2_.length : Int) == (z0_.length : Int)) = true := beq_iff_eq.mpr c33
                  have c33b1 : ((z2_.length : Int) != (z0_.length : Int)) = false := bne_eq_false_iff_eq.mpr c33
                  have c33b2 : (z2_.length == z0_.length) = true := by first | simpa using c33 | (simp at c33 ⊢; omega)
                  clear c33
                  replace H := Option.bind_eq_some_iff.mp H
                  obtain ⟨ZS_, A340, H⟩ := H
                  replace H : (some (!ZS_)) = some r := H
                  have A34 := q0_.mk A340
                  clear A340
                  obtain rfl := Option.some.inj H
                  have Yg_ : wc.cell? ⟨zy_, 0, none⟩ = some (.int .i64 z1_) := (q1_ z7_.out 0).trans rfl
                  have YW_ : wc.cell? ⟨zy_, 1, none⟩ = some (.bool z5_) := (q1_ z7_.out 1).trans rfl
                  have YV_ : wc.cell? ⟨zy_, 2, none⟩ = some (.string z3_) := (q1_ z7_.out 2).trans rfl
                  have YY_ : wc.cell? ⟨zy_, 3, none⟩ = some (.slice zj_ z0_.length z9_) := (q1_ z7_.out 3).trans rfl
                  have YK_ : wc.cell? ⟨zy_, 4, none⟩ = some (.slice zz_ z2_.length zq_) := (q1_ z7_.out 4).trans rfl
                  have Y1_ := q3_ z7_.out 0
                  have Y0_ := q3_ z7_.out 1
                  have KS_ := q3_ z7_.out 2
                  have Ks_ := q3_ z7_.out 3
                  have KR_ := q3_ z7_.out 4
                  go_wp2_with (first | ((with_reducible refine qh_ (f := 46) rfl ?_); refine goesL_ (some 74) rfl rfl Tryd.func46 (by kernel_rfl) rfl #[.slice zj_ z0_.length z9_, .func (.func 47) #[] #[]] rfl (by (try simp only [List.map_toArray, List.map_cons, List.map_nil]); first | done | rfl | (simp only [List.length_drop, List.length_take]; rfl)) ?_; (with_reducible refine (hM _ _ ZS_ _ ?zQ_ ?zZ_ A34.out).mono ?_); (case zQ_ => repeat (first | exact (Kd.qD_ x3_.out HB.out) | (with_reducible refine Kd.qP_ ?_ _) | (with_reducible refine Kd.qr_ ?_ _) | (with_reducible refine Kd.qR_ ?_))); (case zZ_ => exact k4_.out); rintro e w36 ⟨rfl, hb⟩; refine ⟨_, rfl, ?_⟩; have n0_ := q0_.mk (q2_ (g := zy_) (o := .cells #[.int .i64 z1_, .bool z5_, .string z3_, .slice zj_ z0_.length z9_, .slice zz_ z2_.length zq_] 25 (0, 0)) (by (with_reducible repeat (first | refine q9_ ?_ _ | refine qz_ ?_ | refine q8_ ?_ _)); exact z7_.out) hb); have n1_ := q0_.mk (q4_ (by repeat (first | (with_reducible first | exact HB.out | apply q6_ | apply q5_ | apply q7_ | refine qq_ ?_ xs_.out) | exact HB.out)) hb); clear z7_; clear HB; have z7_ := n0_; have HB := n1_; clear n0_ n1_; (try clear hb); (try clear hb2); (try clear hk); (try clear hi)))
                  go_ret
                  exact ⟨by first | rfl | (simp [qk_, qy_] <;> rfl) | (simp [qk_, qy_] <;> decide +kernel) | (simp [*, qk_, qy_] <;> rfl), by repeat (first | (with_reducible first | exact HB.out | apply q6_ | apply q5_ | apply q7_ | refine qq_ ?_ xs_.out) | exact HB.out)⟩
                 ·
                  rw [if_neg c33] at H
                  have c33b0 : ((z2_.length : Int) == (z0_.length : Int)) = false := beq_eq_false_iff_ne.mpr c33
                  have c33b1 : ((z2_.length : Int) != (z0_.length : Int)) = true := bne_iff_ne.mpr c33
                  have c33b2 : (z2_.length == z0_.length) = false := by first | simpa using c33 | (simp at c33 ⊢; omega)
                  obtain rfl := Option.some.inj H
                  have Rr_ : wc.cell? ⟨zy_, 0, none⟩ = some (.int .i64 z1_) := (q1_ z7_.out 0).trans rfl
                  have RP_ : wc.cell? ⟨zy_, 1, none⟩ = some (.bool z5_) := (q1_ z7_.out 1).trans rfl
                  have Rp_ : wc.cell? ⟨zy_, 2, none⟩ = some (.string z3_) := (q1_ z7_.out 2).trans rfl
                  have RD_ : wc.cell? ⟨zy_, 3, none⟩ = some (.slice zj_ z0_.length z9_) := (q1_ z7_.out 3).trans rfl
                  have Rd_ : wc.cell? ⟨zy_, 4, none⟩ = some (.slice zz_ z2_.length zq_) := (q1_ z7_.out 4).trans rfl
                  have Rh_ := q3_ z7_.out 0
                  have RG_ := q3_ z7_.out 1
                  have Rg_ := q3_ z7_.out 2
                  have RW_ := q3_ z7_.out 3
                  have RV_ := q3_ z7_.out 4
                  go_wp2
                  go_ret
                  exact ⟨by first | rfl | (simp [qk_, qy_] <;> rfl) | (simp [qk_, qy_] <;> decide +kernel) | (simp [*, qk_, qy_] <;> rfl), by repeat (first | (with_reducible first | exact HB.out | apply q6_ | apply q5_ | apply q7_ | refine qq_ ?_ xs_.out) | exact HB.out)⟩
                ·
                 rw [if_neg c32] at H
                 have bY_ : (z1_ == 5) = false := beq_eq_false_iff_ne.mpr c32
                 have c32b1 : (z1_ != 5) = true := bne_iff_ne.mpr c32
                 replace H := Option.bind_eq_some_iff.mp H
                 obtain ⟨bX_, A380, H⟩ := H
                 replace H : (some (!bX_)) = some r := H
                 have A38 := q0_.mk A380
                 clear A380
                 obtain rfl := Option.some.inj H
                 have YX_ : wc.cell? ⟨zy_, 0, none⟩ = some (.int .i64 z1_) := (q1_ z7_.out 0).trans rfl
                 have YJ_ : wc.cell? ⟨zy_, 1, none⟩ = some (.bool z5_) := (q1_ z7_.out 1).trans rfl
                 have YZ_ : wc.cell? ⟨zy_, 2, none⟩ = some (.string z3_) := (q1_ z7_.out 2).trans rfl
                 have YQ_ : wc.cell? ⟨zy_, 3, none⟩ = some (.slice zj_ z0_.length z9_) := (q1_ z7_.out 3).trans rfl
                 have Yw_ : wc.cell? ⟨zy_, 4, none⟩ = some (.slice zz_ z2_.length zq_) := (q1_ z7_.out 4).trans rfl
                 have Kr_ := q3_ z7_.out 0
                 have KP_ := q3_ z7_.out 1
                 have Kp_ := q3_ z7_.out 2
                 have KD_ := q3_ z7_.out 3
                 have Kd_ := q3_ z7_.out 4
                 go_wp2_with (first | ((with_reducible refine qh_ (f := 46) rfl ?_); refine goesL_ (some 74) rfl rfl Tryd.func46 (by kernel_rfl) rfl #[.slice zj_ z0_.length z9_, .func (.func 47) #[] #[]] rfl (by (try simp only [List.map_toArray, List.map_cons, List.map_nil]); first | done | rfl | (simp only [List.length_drop, List.length_take]; rfl)) ?_; (with_reducible refine (hM _ _ bX_ _ ?zQ_ ?zZ_ A38.out).mono ?_); (case zQ_ => repeat (first | exact (Kd.qD_ x3_.out HB.out) | (with_reducible refine Kd.qP_ ?_ _) | (with_reducible refine Kd.qr_ ?_ _) | (with_reducible refine Kd.qR_ ?_))); (case zZ_ => exact k4_.out); rintro e w40 ⟨rfl, hb⟩; refine ⟨_, rfl, ?_⟩; have n0_ := q0_.mk (q2_ (g := zy_) (o := .cells #[.int .i64 z1_, .bool z5_, .string z3_, .slice zj_ z0_.length z9_, .slice zz_ z2_.length zq_] 25 (0, 0)) (by (with_reducible repeat (first | refine q9_ ?_ _ | refine qz_ ?_ | refine q8_ ?_ _)); exact z7_.out) hb); have n1_ := q0_.mk (q4_ (by repeat (first | (with_reducible first | exact HB.out | apply q6_ | apply q5_ | apply q7_ | refine qq_ ?_ xs_.out) | exact HB.out)) hb); clear z7_; clear HB; have z7_ := n0_; have HB := n1_; clear n0_ n1_; (try clear hb); (try clear hb2); (try clear hk); (try clear hi)))
                 go_ret
                 exact ⟨by first | rfl | (simp [qk_, qy_] <;> rfl) | (simp [qk_, qy_] <;> decide +kernel) | (simp [*, qk_, qy_] <;> rfl), by repeat (first | (with_reducible first | exact HB.out | apply q6_ | apply q5_ | apply q7_ | refine qq_ ?_ xs_.out) | exact HB.out)⟩
end Go.Proofs.YtfpmompdgmklmaaDoor.P
