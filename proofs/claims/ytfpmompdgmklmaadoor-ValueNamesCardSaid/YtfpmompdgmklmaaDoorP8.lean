import Derived.Test.YtfpmompdgmklmaaDoorP0
namespace Go.Proofs.YtfpmompdgmklmaaDoor.P
attribute [-simp] List.length_drop List.length_take ByteArray.size_append
open Go.RowKit Go.Proofs.YtfpmompdgmklmaaDoorW.PrintWords Go.Proofs.YtfpmompdgmklmaaDoorW.PrintLast Go.Proofs.YtfpmompdgmklmaaDoorW.PrintMore
attribute [local go_sem] max2_int min2_int max_two min_two max_three min_three max_four min_four   -- for this text's walks alone
set_option linter.unusedVariables false
set_option linter.unusedSimpArgs false
/-! ### colophonref10_May: function 38 -/
mutual
def colophonref10_May.j0 : Nat → Bool → Int → Bool → ByteArray → List (S25) → List ByteArray → Option (Bool)
 | 0, _, _, _, _, _, _ => none
 | k + 1, x57, wp_, Zj_, Zz_, xP_, wD_ => if x57 = true then (some false) else (if wp_ = 5 then (colophonref10_May.j1 k ((wD_.length : Int) != (xP_.length : Int)) wp_ Zj_ Zz_ xP_ wD_) else (colophonref10_May.j1 k false wp_ Zj_ Zz_ xP_ wD_))
def colophonref10_May.j1 : Nat → Bool → Int → Bool → ByteArray → List (S25) → List ByteArray → Option (Bool)
 | 0, _, _, _, _, _, _ => none
 | k + 1, x69, wp_, Zj_, Zz_, xP_, wD_ => if x69 = true then (some false) else (colophonref10_May.l0 k 0 wp_ Zj_ Zz_ xP_ wD_)
def colophonref10_May.l0 : Nat → Int → Int → Bool → ByteArray → List (S25) → List ByteArray → Option (Bool)
 | 0, _, _, _, _, _, _ => none
 | k + 1, x3, wp_, Zj_, Zz_, xP_, wD_ => if x3 < (xP_.length : Int) then (if 0 ≤ x3 then ((colophonref10_May.f k ((qj_ xP_ x3).f0) ((qj_ xP_ x3).f1) ((qj_ xP_ x3).f2) ((qj_ xP_ x3).f3) ((qj_ xP_ x3).f4)).bind fun t240 => (if t240 = true then (colophonref10_May.l0 k (wrap64 (x3 + 1)) wp_ Zj_ Zz_ xP_ wD_) else (some false))) else (none)) else (some true)
def colophonref10_May.f : Nat → Int → Bool → ByteArray → List (S25) → List ByteArray → Option (Bool)
 | 0, _, _, _, _, _ => none
 | k + 1, z1_, z5_, z3_, z0_, z2_ => if z1_ < 0 then (colophonref10_May.j0 k true z1_ z5_ z3_ z0_ z2_) else (if z1_ > 5 then (colophonref10_May.j0 k true z1_ z5_ z3_ z0_ z2_) else (if z5_ = true then (if z1_ = 1 then (if z3_.toList = ([] : List UInt8) then (if (z0_.length : Int) > 0 then (if z1_ < 4 then (colophonref10_May.j0 k true z1_ z5_ z3_ z0_ z2_) else (if (z2_.length : Int) > 0 then (colophonref10_May.j0 k (z1_ != 5) z1_ z5_ z3_ z0_ z2_) else (colophonref10_May.j0 k false z1_ z5_ z3_ z0_ z2_))) else (if (z2_.length : Int) > 0 then (colophonref10_May.j0 k (z1_ != 5) z1_ z5_ z3_ z0_ z2_) else (colophonref10_May.j0 k false z1_ z5_ z3_ z0_ z2_))) else (if z1_ = 2 then (if (z0_.length : Int) > 0 then (if z1_ < 4 then (colophonref10_May.j0 k true z1_ z5_ z3_ z0_ z2_) else (if (z2_.length : Int) > 0 then (colophonref10_May.j0 k (z1_ != 5) z1_ z5_ z3_ z0_ z2_) else (colophonref10_May.j0 k false z1_ z5_ z3_ z0_ z2_))) else (if (z2_.length : Int) > 0 then (colophonref10_May.j0 k (z1_ != 5) z1_ z5_ z3_ z0_ z2_) else (colophonref10_May.j0 k false z1_ z5_ z3_ z0_ z2_))) else (if z1_ = 3 then (if (z0_.length : Int) > 0 then (if z1_ < 4 then (colophonref10_May.j0 k true z1_ z5_ z3_ z0_ z2_) else (if (z2_.length : Int) > 0 then (colophonref10_May.j0 k (z1_ != 5) z1_ z5_ z3_ z0_ z2_) else (colophonref10_May.j0 k false z1_ z5_ z3_ z0_ z2_))) else (if (z2_.length : Int) > 0 then (colophonref10_May.j0 k (z1_ != 5) z1_ z5_ z3_ z0_ z2_) else (colophonref10_May.j0 k false z1_ z5_ z3_ z0_ z2_))) else (colophonref10_May.j0 k true z1_ z5_ z3_ z0_ z2_)))) else (colophonref10_May.j0 k true z1_ z5_ z3_ z0_ z2_)) else (if z3_.toList = ([] : List UInt8) then (if (z0_.length : Int) > 0 then (if z1_ < 4 then (colophonref10_May.j0 k true z1_ z5_ z3_ z0_ z2_) else (if (z2_.length : Int) > 0 then (colophonref10_May.j0 k (z1_ != 5) z1_ z5_ z3_ z0_ z2_) else (colophonref10_May.j0 k false z1_ z5_ z3_ z0_ z2_))) else (if (z2_.length : Int) > 0 then (colophonref10_May.j0 k (z1_ != 5) z1_ z5_ z3_ z0_ z2_) else (colophonref10_May.j0 k false z1_ z5_ z3_ z0_ z2_))) else (if z1_ = 2 then (if (z0_.length : Int) > 0 then (if z1_ < 4 then (colophonref10_May.j0 k true z1_ z5_ z3_ z0_ z2_) else (if (z2_.length : Int) > 0 then (colophonref10_May.j0 k (z1_ != 5) z1_ z5_ z3_ z0_ z2_) else (colophonref10_May.j0 k false z1_ z5_ z3_ z0_ z2_))) else (if (z2_.length : Int) > 0 then (colophonref10_May.j0 k (z1_ != 5) z1_ z5_ z3_ z0_ z2_) else (colophonref10_May.j0 k false z1_ z5_ z3_ z0_ z2_))) else (if z1_ = 3 then (if (z0_.length : Int) > 0 then (if z1_ < 4 then (colophonref10_May.j0 k true z1_ z5_ z3_ z0_ z2_) else (if (z2_.length : Int) > 0 then (colophonref10_May.j0 k (z1_ != 5) z1_ z5_ z3_ z0_ z2_) else (colophonref10_May.j0 k false z1_ z5_ z3_ z0_ z2_))) else (if (z2_.length : Int) > 0 then (colophonref10_May.j0 k (z1_ != 5) z1_ z5_ z3_ z0_ z2_) else (colophonref10_May.j0 k false z1_ z5_ z3_ z0_ z2_))) else (colophonref10_May.j0 k true z1_ z5_ z3_ z0_ z2_))))))
end
theorem colophonref10_May.mono_l : ∀ k, (∀ y0 y1 y2 y3 y4, LeO (colophonref10_May.f k y0 y1 y2 y3 y4) (colophonref10_May.f (k + 1) y0 y1 y2 y3 y4)) ∧ (∀ y0 y1 y2 y3 y4 y5, LeO (colophonref10_May.j0 k y0 y1 y2 y3 y4 y5) (colophonref10_May.j0 (k + 1) y0 y1 y2 y3 y4 y5)) ∧ (∀ y0 y1 y2 y3 y4 y5, LeO (colophonref10_May.j1 k y0 y1 y2 y3 y4 y5) (colophonref10_May.j1 (k + 1) y0 y1 y2 y3 y4 y5)) ∧ (∀ y0 y1 y2 y3 y4 y5, LeO (colophonref10_May.l0 k y0 y1 y2 y3 y4 y5) (colophonref10_May.l0 (k + 1) y0 y1 y2 y3 y4 y5))
 | 0 => ⟨fun _ _ _ _ _ r h => by simp [colophonref10_May.f] at h, fun _ _ _ _ _ _ r h => by simp [colophonref10_May.j0] at h, fun _ _ _ _ _ _ r h => by simp [colophonref10_May.j1] at h, fun _ _ _ _ _ _ r h => by simp [colophonref10_May.l0] at h⟩
 | k + 1 => by
  obtain ⟨ih0, ih1, ih2, ih3⟩ := colophonref10_May.mono_l k
  refine ⟨?_, ?_, ?_, ?_⟩
  ·
   intro y0 y1 y2 y3 y4
   unfold colophonref10_May.f
   repeat' first
   | (with_reducible exact ih0 _ _ _ _ _)
   | (with_reducible exact ih1 _ _ _ _ _ _)
   | (with_reducible exact ih2 _ _ _ _ _ _)
   | (with_reducible exact ih3 _ _ _ _ _ _)
   | (with_reducible exact LeO.refl _)
   | (with_reducible exact LeO.none _)
   | (with_reducible refine LeO.ite ?_ ?_)
   | (with_reducible refine LeO.bind ?_ (fun _ => ?_))
   | exact ih0 _ _ _ _ _
   | exact ih1 _ _ _ _ _ _
   | exact ih2 _ _ _ _ _ _
   | exact ih3 _ _ _ _ _ _
   | exact LeO.none _
   | refine LeO.ite ?_ ?_
   | refine LeO.bind ?_ (fun _ => ?_)
  ·
   intro y0 y1 y2 y3 y4 y5
   unfold colophonref10_May.j0
   repeat' first
   | (with_reducible exact ih0 _ _ _ _ _)
   | (with_reducible exact ih1 _ _ _ _ _ _)
   | (with_reducible exact ih2 _ _ _ _ _ _)
   | (with_reducible exact ih3 _ _ _ _ _ _)
   | (with_reducible exact LeO.refl _)
   | (with_reducible exact LeO.none _)
   | (with_reducible refine LeO.ite ?_ ?_)
   | (with_reducible refine LeO.bind ?_ (fun _ => ?_))
   | exact ih0 _ _ _ _ _
   | exact ih1 _ _ _ _ _ _
   | exact ih2 _ _ _ _ _ _
   | exact ih3 _ _ _ _ _ _
   | exact LeO.none _
   | refine LeO.ite ?_ ?_
   | refine LeO.bind ?_ (fun _ => ?_)
  ·
   intro y0 y1 y2 y3 y4 y5
   unfold colophonref10_May.j1
   repeat' first
   | (with_reducible exact ih0 _ _ _ _ _)
   | (with_reducible exact ih1 _ _ _ _ _ _)
   | (with_reducible exact ih2 _ _ _ _ _ _)
   | (with_reducible exact ih3 _ _ _ _ _ _)
   | (with_reducible exact LeO.refl _)
   | (with_reducible exact LeO.none _)
   | (with_reducible refine LeO.ite ?_ ?_)
   | (with_reducible refine LeO.bind ?_ (fun _ => ?_))
   | exact ih0 _ _ _ _ _
   | exact ih1 _ _ _ _ _ _
   | exact ih2 _ _ _ _ _ _
   | exact ih3 _ _ _ _ _ _
   | exact LeO.none _
   | refine LeO.ite ?_ ?_
   | refine LeO.bind ?_ (fun _ => ?_)
  ·
   intro y0 y1 y2 y3 y4 y5
   unfold colophonref10_May.l0
   repeat' first
   | (with_reducible exact ih0 _ _ _ _ _)
   | (with_reducible exact ih1 _ _ _ _ _ _)
   | (with_reducible exact ih2 _ _ _ _ _ _)
   | (with_reducible exact ih3 _ _ _ _ _ _)
   | (with_reducible exact LeO.refl _)
   | (with_reducible exact LeO.none _)
   | (with_reducible refine LeO.ite ?_ ?_)
   | (with_reducible refine LeO.bind ?_ (fun _ => ?_))
   | exact ih0 _ _ _ _ _
   | exact ih1 _ _ _ _ _ _
   | exact ih2 _ _ _ _ _ _
   | exact ih3 _ _ _ _ _ _
   | exact LeO.none _
   | refine LeO.ite ?_ ?_
   | refine LeO.bind ?_ (fun _ => ?_)
theorem colophonref10_May.mono : ∀ a0 a1 a2 a3 a4 k, LeO (colophonref10_May.f k a0 a1 a2 a3 a4) (colophonref10_May.f (k + 1) a0 a1 a2 a3 a4) := by
 intro a0 a1 a2 a3 a4 k
 obtain ⟨ih0, ih1, ih2, ih3⟩ := colophonref10_May.mono_l k
 exact ih0 a0 a1 a2 a3 a4
set_option maxHeartbeats 8000000 in
set_option maxRecDepth 100000 in
theorem colophonref10_May.calls (k : Nat) : ∀ (z1_ : Int) (z5_ : Bool) (z3_ : ByteArray) (zj_ : Option Addr) (z9_ : Nat) (z0_ : List (S25)) (zz_ : Option Addr) (zq_ : Nat) (z2_ : List ByteArray) (r : Bool) (w : World) (jk_ : Kd.C k25 w zj_ z0_.length z0_) (jv_ : z0_.length ≤ z9_) (jx_ : Kd.C Kd.string w zz_ z2_.length z2_) (jy_ : z2_.length ≤ zq_) (h : colophonref10_May.f k z1_ z5_ z3_ z0_ z2_ = some r),
  Calls Tryd.prog 38 #[.agg #[.int .i64 z1_, .bool z5_, .string z3_, .slice zj_ z0_.length z9_, .slice zz_ z2_.length zq_]] w fun e w' => e = .returned (.bool r) ∧ Below w.heap.size w w' := by
 induction k using Nat.strongRecOn with
 | _ k ih =>
 intro z1_ z5_ z3_ zj_ z9_ z0_ zz_ zq_ z2_ r w jk_ jv_ jx_ jy_ h
 cases k with
 | zero => exact absurd h (by simp [colophonref10_May.f])
 | succ k =>
 simp only [colophonref10_May.f] at h
 have kP_ := Tryd.underlying25
 have x3_ := q0_.mk jk_
 have k4_ := q0_.mk jv_
 clear jk_ jv_
 have xX_ := q0_.mk jx_
 have xr_ := q0_.mk jy_
 clear jx_ jy_
 have HB := q0_.mk (Below.refl w.heap.size w)
 have H : (if z1_ < 0 then (colophonref10_May.j0 k true z1_ z5_ z3_ z0_ z2_) else (if z1_ > 5 then (colophonref10_May.j0 k true z1_ z5_ z3_ z0_ z2_) else (if z5_ = true then (if z1_ = 1 then (if z3_.toList = ([] : List UInt8) then (if (z0_.length : Int) > 0 then (if z1_ < 4 then (colophonref10_May.j0 k true z1_ z5_ z3_ z0_ z2_) else (if (z2_.length : Int) > 0 then (colophonref10_May.j0 k (z1_ != 5) z1_ z5_ z3_ z0_ z2_) else (colophonref10_May.j0 k false z1_ z5_ z3_ z0_ z2_))) else (if (z2_.length : Int) > 0 then (colophonref10_May.j0 k (z1_ != 5) z1_ z5_ z3_ z0_ z2_) else (colophonref10_May.j0 k false z1_ z5_ z3_ z0_ z2_))) else (if z1_ = 2 then (if (z0_.length : Int) > 0 then (if z1_ < 4 then (colophonref10_May.j0 k true z1_ z5_ z3_ z0_ z2_) else (if (z2_.length : Int) > 0 then (colophonref10_May.j0 k (z1_ != 5) z1_ z5_ z3_ z0_ z2_) else (colophonref10_May.j0 k false z1_ z5_ z3_ z0_ z2_))) else (if (z2_.length : Int) > 0 then (colophonref10_May.j0 k (z1_ != 5) z1_ z5_ z3_ z0_ z2_) else (colophonref10_May.j0 k false z1_ z5_ z3_ z0_ z2_))) else (if z1_ = 3 then (if (z0_.length : Int) > 0 then (if z1_ < 4 then (colophonref10_May.j0 k true z1_ z5_ z3_ z0_ z2_) else (if (z2_.length : Int) > 0 then (colophonref10_May.j0 k (z1_ != 5) z1_ z5_ z3_ z0_ z2_) else (colophonref10_May.j0 k false z1_ z5_ z3_ z0_ z2_))) else (if (z2_.length : Int) > 0 then (colophonref10_May.j0 k (z1_ != 5) z1_ z5_ z3_ z0_ z2_) else (colophonref10_May.j0 k false z1_ z5_ z3_ z0_ z2_))) else (colophonref10_May.j0 k true z1_ z5_ z3_ z0_ z2_)))) else (colophonref10_May.j0 k true z1_ z5_ z3_ z0_ z2_)) else (if z3_.toList = ([] : List UInt8) then (if (z0_.length : Int) > 0 then (if z1_ < 4 then (colophonref10_May.j0 k true z1_ z5_ z3_ z0_ z2_) else (if (z2_.length : Int) > 0 then (colophonref10_May.j0 k (z1_ != 5) z1_ z5_ z3_ z0_ z2_) else (colophonref10_May.j0 k false z1_ z5_ z3_ z0_ z2_))) else (if (z2_.length : Int) > 0 then (colophonref10_May.j0 k (z1_ != 5) z1_ z5_ z3_ z0_ z2_) else (colophonref10_May.j0 k false z1_ z5_ z3_ z0_ z2_))) else (if z1_ = 2 then (if (z0_.length : Int) > 0 then (if z1_ < 4 then (colophonref10_May.j0 k true z1_ z5_ z3_ z0_ z2_) else (if (z2_.length : Int) > 0 then (colophonref10_May.j0 k (z1_ != 5) z1_ z5_ z3_ z0_ z2_) else (colophonref10_May.j0 k false z1_ z5_ z3_ z0_ z2_))) else (if (z2_.length : Int) > 0 then (colophonref10_May.j0 k (z1_ != 5) z1_ z5_ z3_ z0_ z2_) else (colophonref10_May.j0 k false z1_ z5_ z3_ z0_ z2_))) else (if z1_ = 3 then (if (z0_.length : Int) > 0 then (if z1_ < 4 then (colophonref10_May.j0 k true z1_ z5_ z3_ z0_ z2_) else (if (z2_.length : Int) > 0 then (colophonref10_May.j0 k (z1_ != 5) z1_ z5_ z3_ z0_ z2_) else (colophonref10_May.j0 k false z1_ z5_ z3_ z0_ z2_))) else (if (z2_.length : Int) > 0 then (colophonref10_May.j0 k (z1_ != 5) z1_ z5_ z3_ z0_ z2_) else (colophonref10_May.j0 k false z1_ z5_ z3_ z0_ z2_))) else (colophonref10_May.j0 k true z1_ z5_ z3_ z0_ z2_))))))) = some r := h
 clear h
 have HC2 := q0_.mk H
 clear H
 go_enter Tryd.func38, Tryd.ntmps38
 go_upto_region 1 with (first | ((with_reducible refine qZ_ (N := 1) rfl ?_); (try (refine gate_guard (by rfl) ?_; dsimp only)); refine qJ_ ?hg (N := 1) ?hd (cs := #[.int .i64 z1_, .bool z5_, .string z3_, .slice zj_ z0_.length z9_, .slice zz_ z2_.length zq_]) (t := 25) ?hr ?_; (case hd => rfl); (case hg => rfl); (case hr => first | (go_simp; done) | (go_simp; rfl)); intro z6_ hg w3 hbox hb; have n0_ := q0_.mk (q4_ (by repeat (first | (with_reducible first | exact HB.out | apply q6_ | apply q5_ | apply q7_) | exact HB.out)) hb); have n1_ := q0_.mk (hbox); have n2_ := q0_.mk ((by rw [hg]; exact (qw_ (by repeat (first | (with_reducible first | exact HB.out | apply q6_ | apply q5_ | apply q7_) | exact HB.out))) : w.heap.size ≤ z6_)); have n3_ := q0_.mk ((by rw [hg]; exact (qw_ (by repeat (first | (with_reducible first | exact HB.out | apply q6_ | apply q5_ | apply q7_) | exact HB.out))) : w.heap.size ≤ z6_)); clear HB; have HB := n0_; have qS_ := n1_; have GW238 := n2_; have jw_ := n3_; clear n0_ n1_ n2_ n3_; clear hb hbox hg))
 (try simp only [Act.put, List.setIfInBounds_toArray, List.set_cons_zero, List.set_cons_succ])
 go_cut [57] (fun v57 wc => ∃ (kq : Nat) (Ds_ : Bool), v57 = .bool Ds_ ∧ q0_ (colophonref10_May.j0 kq Ds_ z1_ z5_ z3_ z0_ z2_ = some r) ∧ q0_ (kq ≤ k) ∧ q0_ (wc.heap[z6_]? = some (.cells #[.int .i64 z1_, .bool z5_, .string z3_, (.slice zj_ z0_.length z9_), (.slice zz_ z2_.length zq_)] 25 (0, 0))) ∧ q0_ (Below w.heap.size w wc))
 case first =>
  have H := HC2.out
  clear HC2
  by_cases c4 : z1_ < 0
  ·
   rw [if_pos c4] at H
   have Z2_ : decide (z1_ < 0) = true := decide_eq_true c4
   clear c4
   (first | rw [Z2_] | (simp only [i64_w, i32_w]; rw [Z2_]) | skip)
   have H' := q0_.mk H
   clear H
   have w0_ : w3.cell? ⟨z6_, 0, none⟩ = some (.int .i64 z1_) := (q1_ qS_.out 0).trans rfl
   have vS_ : w3.cell? ⟨z6_, 1, none⟩ = some (.bool z5_) := (q1_ qS_.out 1).trans rfl
   have vs_ : w3.cell? ⟨z6_, 2, none⟩ = some (.string z3_) := (q1_ qS_.out 2).trans rfl
   have vR_ : w3.cell? ⟨z6_, 3, none⟩ = some (.slice zj_ z0_.length z9_) := (q1_ qS_.out 3).trans rfl
   have vr_ : w3.cell? ⟨z6_, 4, none⟩ = some (.slice zz_ z2_.length zq_) := (q1_ qS_.out 4).trans rfl
   have vK_ := q3_ qS_.out 0
   have vX_ := q3_ qS_.out 1
   have vJ_ := q3_ qS_.out 2
   have vZ_ := q3_ qS_.out 3
   have vQ_ := q3_ qS_.out 4
   go_wp2
   go_meet
   case rel => exact ⟨_, (true), (by first | rfl | (simp; done) | (simp [*]; done)), H', ⟨by first | omega | exact Nat.le_refl _⟩, ⟨by (with_reducible repeat (first | refine q9_ ?_ _ | refine qz_ ?_ | refine q8_ ?_ _)); exact qS_.out⟩, ⟨by repeat (first | (with_reducible first | exact HB.out | apply q6_ | apply q5_ | apply q7_ | refine qq_ ?_ jw_.out) | exact HB.out)⟩⟩
  ·
   rw [if_neg c4] at H
   have Z2_ : decide (z1_ < 0) = false := decide_eq_false c4
   clear c4
   (first | rw [Z2_] | (simp only [i64_w, i32_w]; rw [Z2_]) | skip)
   by_cases c6 : z1_ > 5
   ·
    rw [if_pos c6] at H
    have Fy_ : decide (5 < z1_) = true := decide_eq_true c6
    clear c6
    have H' := q0_.mk H
    clear H
    have Xf_ : w3.cell? ⟨z6_, 0, none⟩ = some (.int .i64 z1_) := (q1_ qS_.out 0).trans rfl
    have XH_ : w3.cell? ⟨z6_, 1, none⟩ = some (.bool z5_) := (q1_ qS_.out 1).trans rfl
    have Xh_ : w3.cell? ⟨z6_, 2, none⟩ = some (.string z3_) := (q1_ qS_.out 2).trans rfl
    have XG_ : w3.cell? ⟨z6_, 3, none⟩ = some (.slice zj_ z0_.length z9_) := (q1_ qS_.out 3).trans rfl
    have Xg_ : w3.cell? ⟨z6_, 4, none⟩ = some (.slice zz_ z2_.length zq_) := (q1_ qS_.out 4).trans rfl
    have X5_ := q3_ qS_.out 0
    have X4_ := q3_ qS_.out 1
    have X3_ := q3_ qS_.out 2
    have X2_ := q3_ qS_.out 3
    have X1_ := q3_ qS_.out 4
    go_wp2
    go_meet
    case rel => exact ⟨_, (true), (by first | rfl | (simp; done) | (simp [*]; done)), H', ⟨by first | omega | exact Nat.le_refl _⟩, ⟨by (with_reducible repeat (first | refine q9_ ?_ _ | refine qz_ ?_ | refine q8_ ?_ _)); exact qS_.out⟩, ⟨by repeat (first | (with_reducible first | exact HB.out | apply q6_ | apply q5_ | apply q7_ | refine qq_ ?_ jw_.out) | exact HB.out)⟩⟩
   ·
    rw [if_neg c6] at H
    have Fy_ : decide (5 < z1_) = false := decide_eq_false c6
    clear c6
    by_cases c8 : z5_ = true
    ·
     subst c8
     have H1 : (if z1_ = 1 then (if z3_.toList = ([] : List UInt8) then (if (z0_.length : Int) > 0 then (if z1_ < 4 then (colophonref10_May.j0 k true z1_ true z3_ z0_ z2_) else (if (z2_.length : Int) > 0 then (colophonref10_May.j0 k (z1_ != 5) z1_ true z3_ z0_ z2_) else (colophonref10_May.j0 k false z1_ true z3_ z0_ z2_))) else (if (z2_.length : Int) > 0 then (colophonref10_May.j0 k (z1_ != 5) z1_ true z3_ z0_ z2_) else (colophonref10_May.j0 k false z1_ true z3_ z0_ z2_))) else (if z1_ = 2 then (if (z0_.length : Int) > 0 then (if z1_ < 4 then (colophonref10_May.j0 k true z1_ true z3_ z0_ z2_) else (if (z2_.length : Int) > 0 then (colophonref10_May.j0 k (z1_ != 5) z1_ true z3_ z0_ z2_) else (colophonref10_May.j0 k false z1_ true z3_ z0_ z2_))) else (if (z2_.length : Int) > 0 then (colophonref10_May.j0 k (z1_ != 5) z1_ true z3_ z0_ z2_) else (colophonref10_May.j0 k false z1_ true z3_ z0_ z2_))) else (if z1_ = 3 then (if (z0_.length : Int) > 0 then (if z1_ < 4 then (colophonref10_May.j0 k true z1_ true z3_ z0_ z2_) else (if (z2_.length : Int) > 0 then (colophonref10_May.j0 k (z1_ != 5) z1_ true z3_ z0_ z2_) else (colophonref10_May.j0 k false z1_ true z3_ z0_ z2_))) else (if (z2_.length : Int) > 0 then (colophonref10_May.j0 k (z1_ != 5) z1_ true z3_ z0_ z2_) else (colophonref10_May.j0 k false z1_ true z3_ z0_ z2_))) else (colophonref10_May.j0 k true z1_ true z3_ z0_ z2_)))) else (colophonref10_May.j0 k true z1_ true z3_ z0_ z2_)) = some r := by rw [if_pos rfl] at H; exact H
     clear H
     have H := H1
     clear H1
     by_cases c9 : z1_ = 1
     ·
      rw [if_pos c9] at H
      have r3_ : (z1_ == 1) = true := beq_iff_eq.mpr c9
      have c9b1 : (z1_ != 1) = false := bne_eq_false_iff_eq.mpr c9
      clear c9
      by_cases c10 : z3_.toList = ([] : List UInt8)
      ·
       rw [if_pos c10] at H
       have dS_ : (z3_.toList == ([] : List UInt8)) = true := beq_iff_eq.mpr c10
       have c10b1 : (z3_.toList != ([] : List UInt8)) = false := bne_eq_false_iff_eq.mpr c10
       clear c10
       by_cases c11 : (z0_.length : Int) > 0
       ·
        rw [if_pos c11] at H
        have Vw_ : decide (0 < (z0_.length : Int)) = true := decide_eq_true c11
        have ds_ : decide (0 < z0_.length) = true := decide_eq_true (by omega)
        clear c11
        by_cases c12 : z1_ < 4
        ·
         rw [if_pos c12] at H
         have dR_ : decide (z1_ < 4) = true := decide_eq_true c12
         clear c12
         have H' := q0_.mk H
         clear H
         have dF_ : w3.cell? ⟨z6_, 0, none⟩ = some (.int .i64 z1_) := (q1_ qS_.out 0).trans rfl
         have df_ : w3.cell? ⟨z6_, 1, none⟩ = some (.bool true) := (q1_ qS_.out 1).trans rfl
         have dH_ : w3.cell? ⟨z6_, 2, none⟩ = some (.string z3_) := (q1_ qS_.out 2).trans rfl
         have dh_ : w3.cell? ⟨z6_, 3, none⟩ = some (.slice zj_ z0_.length z9_) := (q1_ qS_.out 3).trans rfl
         have dG_ : w3.cell? ⟨z6_, 4, none⟩ = some (.slice zz_ z2_.length zq_) := (q1_ qS_.out 4).trans rfl
         have d6_ := q3_ qS_.out 0
         have d5_ := q3_ qS_.out 1
         have d4_ := q3_ qS_.out 2
         have d3_ := q3_ qS_.out 3
         have d2_ := q3_ qS_.out 4
         go_wp2
         go_meet
         case rel => exact ⟨_, (true), (by first | rfl | (simp; done) | (simp [*]; done)), H', ⟨by first | omega | exact Nat.le_refl _⟩, ⟨by (with_reducible repeat (first | refine q9_ ?_ _ | refine qz_ ?_ | refine q8_ ?_ _)); exact qS_.out⟩, ⟨by repeat (first | (with_reducible first | exact HB.out | apply q6_ | apply q5_ | apply q7_ | refine qq_ ?_ jw_.out) | exact HB.out)⟩⟩
        ·
         rw [if_neg c12] at H
         have dR_ : decide (z1_ < 4) = false := decide_eq_false c12
         clear c12
         by_cases c14 : (z2_.length : Int) > 0
         ·
          rw [if_pos c14] at H
          have KK_ : decide (0 < (z2_.length : Int)) = true := decide_eq_true c14
          have bW_ : decide (0 < z2_.length) = true := decide_eq_true (by omega)
          clear c14
          have H' := q0_.mk H
          clear H
          have v2_ : w3.cell? ⟨z6_, 0, none⟩ = some (.int .i64 z1_) := (q1_ qS_.out 0).trans rfl
          have v1_ : w3.cell? ⟨z6_, 1, none⟩ = some (.bool true) := (q1_ qS_.out 1).trans rfl
          have v0_ : w3.cell? ⟨z6_, 2, none⟩ = some (.string z3_) := (q1_ qS_.out 2).trans rfl
          have yS_ : w3.cell? ⟨z6_, 3, none⟩ = some (.slice zj_ z0_.length z9_) := (q1_ qS_.out 3).trans rfl
          have ys_ : w3.cell? ⟨z6_, 4, none⟩ = some (.slice zz_ z2_.length zq_) := (q1_ qS_.out 4).trans rfl
          have yF_ := q3_ qS_.out 0
          have yf_ := q3_ qS_.out 1
          have yH_ := q3_ qS_.out 2
          have yh_ := q3_ qS_.out 3
          have yG_ := q3_ qS_.out 4
          go_wp2
          go_meet
          case rel => exact ⟨_, ((z1_ != 5)), (by first | rfl | (simp; done) | (simp [*]; done)), H', ⟨by first | omega | exact Nat.le_refl _⟩, ⟨by (with_reducible repeat (first | refine q9_ ?_ _ | refine qz_ ?_ | refine q8_ ?_ _)); exact qS_.out⟩, ⟨by repeat (first | (with_reducible first | exact HB.out | apply q6_ | apply q5_ | apply q7_ | refine qq_ ?_ jw_.out) | exact HB.out)⟩⟩
         ·
          rw [if_neg c14] at H
          have KK_ : decide (0 < (z2_.length : Int)) = false := decide_eq_false c14
          have bW_ : decide (0 < z2_.length) = false := decide_eq_false (by omega)
          clear c14
          have H' := q0_.mk H
          clear H
          have Qs_ : w3.cell? ⟨z6_, 0, none⟩ = some (.int .i64 z1_) := (q1_ qS_.out 0).trans rfl
          have QR_ : w3.cell? ⟨z6_, 1, none⟩ = some (.bool true) := (q1_ qS_.out 1).trans rfl
          have Qr_ : w3.cell? ⟨z6_, 2, none⟩ = some (.string z3_) := (q1_ qS_.out 2).trans rfl
          have QP_ : w3.cell? ⟨z6_, 3, none⟩ = some (.slice zj_ z0_.length z9_) := (q1_ qS_.out 3).trans rfl
          have Qp_ : w3.cell? ⟨z6_, 4, none⟩ = some (.slice zz_ z2_.length zq_) := (q1_ qS_.out 4).trans rfl
          have QD_ := q3_ qS_.out 0
          have Qd_ := q3_ qS_.out 1
          have QB_ := q3_ qS_.out 2
          have Qb_ := q3_ qS_.out 3
          have QF_ := q3_ qS_.out 4
          go_wp2
          go_meet
          case rel => exact ⟨_, (false), (by first | rfl | (simp; done) | (simp [*]; done)), H', ⟨by first | omega | exact Nat.le_refl _⟩, ⟨by (with_reducible repeat (first | refine q9_ ?_ _ | refine qz_ ?_ | refine q8_ ?_ _)); exact qS_.out⟩, ⟨by repeat (first | (with_reducible first | exact HB.out | apply q6_ | apply q5_ | apply q7_ | refine qq_ ?_ jw_.out) | exact HB.out)⟩⟩
       ·
        rw [if_neg c11] at H
        have Vw_ : decide (0 < (z0_.length : Int)) = false := decide_eq_false c11
        have ds_ : decide (0 < z0_.length) = false := decide_eq_false (by omega)
        clear c11
        by_cases c17 : (z2_.length : Int) > 0
        ·
         rw [if_pos c17] at H
         have c17b0 : decide (0 < (z2_.length : Int)) = true := decide_eq_true c17
         have c17b1 : decide (0 < z2_.length) = true := decide_eq_true (by omega)
         clear c17
         have H' := q0_.mk H
         clear H
         have kf_ : w3.cell? ⟨z6_, 0, none⟩ = some (.int .i64 z1_) := (q1_ qS_.out 0).trans rfl
         have kH_ : w3.cell? ⟨z6_, 1, none⟩ = some (.bool true) := (q1_ qS_.out 1).trans rfl
         have kh_ : w3.cell? ⟨z6_, 2, none⟩ = some (.string z3_) := (q1_ qS_.out 2).trans rfl
         have kG_ : w3.cell? ⟨z6_, 3, none⟩ = some (.slice zj_ z0_.length z9_) := (q1_ qS_.out 3).trans rfl
         have kg_ : w3.cell? ⟨z6_, 4, none⟩ = some (.slice zz_ z2_.length zq_) := (q1_ qS_.out 4).trans rfl
         have kW_ := q3_ qS_.out 0
         have kV_ := q3_ qS_.out 1
         have kY_ := q3_ qS_.out 2
         have kK_ := q3_ qS_.out 3
         have kX_ := q3_ qS_.out 4
         go_wp2
         go_meet
         case rel => exact ⟨_, ((z1_ != 5)), (by first | rfl | (simp; done) | (simp [*]; done)), H', ⟨by first | omega | exact Nat.le_refl _⟩, ⟨by (with_reducible repeat (first | refine q9_ ?_ _ | refine qz_ ?_ | refine q8_ ?_ _)); exact qS_.out⟩, ⟨by repeat (first | (with_reducible first | exact HB.out | apply q6_ | apply q5_ | apply q7_ | refine qq_ ?_ jw_.out) | exact HB.out)⟩⟩
        ·
         rw [if_neg c17] at H
         have c17b0 : decide (0 < (z2_.length : Int)) = false := decide_eq_false c17
         have c17b1 : decide (0 < z2_.length) = false := decide_eq_false (by omega)
         clear c17
         have H' := q0_.mk H
         clear H
         have Yp_ : w3.cell? ⟨z6_, 0, none⟩ = some (.int .i64 z1_) := (q1_ qS_.out 0).trans rfl
         have YD_ : w3.cell? ⟨z6_, 1, none⟩ = some (.bool true) := (q1_ qS_.out 1).trans rfl
         have Yd_ : w3.cell? ⟨z6_, 2, none⟩ = some (.string z3_) := (q1_ qS_.out 2).trans rfl
         have YB_ : w3.cell? ⟨z6_, 3, none⟩ = some (.slice zj_ z0_.length z9_) := (q1_ qS_.out 3).trans rfl
         have Yb_ : w3.cell? ⟨z6_, 4, none⟩ = some (.slice zz_ z2_.length zq_) := (q1_ qS_.out 4).trans rfl
         have Yz_ := q3_ qS_.out 0
         have Yq_ := q3_ qS_.out 1
         have Y9_ := q3_ qS_.out 2
         have Y8_ := q3_ qS_.out 3
         have Y7_ := q3_ qS_.out 4
         go_wp2
         go_meet
         case rel => exact ⟨_, (false), (by first | rfl | (simp; done) | (simp [*]; done)), H', ⟨by first | omega | exact Nat.le_refl _⟩, ⟨by (with_reducible repeat (first | refine q9_ ?_ _ | refine qz_ ?_ | refine q8_ ?_ _)); exact qS_.out⟩, ⟨by repeat (first | (with_reducible first | exact HB.out | apply q6_ | apply q5_ | apply q7_ | refine qq_ ?_ jw_.out) | exact HB.out)⟩⟩
      ·
       rw [if_neg c10] at H
       have dS_ : (z3_.toList == ([] : List UInt8)) = false := beq_eq_false_iff_ne.mpr c10
       have c10b1 : (z3_.toList != ([] : List UInt8)) = true := bne_iff_ne.mpr c10
       by_cases c20 : z1_ = 2
       ·
        rw [if_pos c20] at H
        have Px_ : (z1_ == 2) = true := beq_iff_eq.mpr c20
        have Pj_ : (z1_ != 2) = false := bne_eq_false_iff_eq.mpr c20
        clear c20
        by_cases c21 : (z0_.length : Int) > 0
        ·
         rw [if_pos c21] at H
         have ZF_ : decide (0 < (z0_.length : Int)) = true := decide_eq_true c21
         have Vv_ : decide (0 < z0_.length) = true := decide_eq_true (by omega)
         clear c21
         by_cases c22 : z1_ < 4
         ·
          rw [if_pos c22] at H
          have dd_ : decide (z1_ < 4) = true := decide_eq_true c22
          clear c22
          have H' := q0_.mk H
          clear H
          have YF_ : w3.cell? ⟨z6_, 0, none⟩ = some (.int .i64 z1_) := (q1_ qS_.out 0).trans rfl
          have Yf_ : w3.cell? ⟨z6_, 1, none⟩ = some (.bool true) := (q1_ qS_.out 1).trans rfl
          have YH_ : w3.cell? ⟨z6_, 2, none⟩ = some (.string z3_) := (q1_ qS_.out 2).trans rfl
          have Yh_ : w3.cell? ⟨z6_, 3, none⟩ = some (.slice zj_ z0_.length z9_) := (q1_ qS_.out 3).trans rfl
          have YG_ : w3.cell? ⟨z6_, 4, none⟩ = some (.slice zz_ z2_.length zq_) := (q1_ qS_.out 4).trans rfl
          have Y6_ := q3_ qS_.out 0
          have Y5_ := q3_ qS_.out 1
          have Y4_ := q3_ qS_.out 2
          have Y3_ := q3_ qS_.out 3
          have Y2_ := q3_ qS_.out 4
          go_wp2
          go_meet
          case rel => exact ⟨_, (true), (by first | rfl | (simp; done) | (simp [*]; done)), H', ⟨by first | omega | exact Nat.le_refl _⟩, ⟨by (with_reducible repeat (first | refine q9_ ?_ _ | refine qz_ ?_ | refine q8_ ?_ _)); exact qS_.out⟩, ⟨by repeat (first | (with_reducible first | exact HB.out | apply q6_ | apply q5_ | apply q7_ | refine qq_ ?_ jw_.out) | exact HB.out)⟩⟩
         ·
          rw [if_neg c22] at H
          have dd_ : decide (z1_ < 4) = false := decide_eq_false c22
          clear c22
          by_cases c24 : (z2_.length : Int) > 0
          ·
           rw [if_pos c24] at H
           have Pz_ : decide (0 < (z2_.length : Int)) = true := decide_eq_true c24
           have Pq_ : decide (0 < z2_.length) = true := decide_eq_true (by omega)
           clear c24
           have H' := q0_.mk H
           clear H
           have ZH_ : w3.cell? ⟨z6_, 0, none⟩ = some (.int .i64 z1_) := (q1_ qS_.out 0).trans rfl
           have Zh_ : w3.cell? ⟨z6_, 1, none⟩ = some (.bool true) := (q1_ qS_.out 1).trans rfl
           have yR_ : w3.cell? ⟨z6_, 2, none⟩ = some (.string z3_) := (q1_ qS_.out 2).trans rfl
           have yr_ : w3.cell? ⟨z6_, 3, none⟩ = some (.slice zj_ z0_.length z9_) := (q1_ qS_.out 3).trans rfl
           have yP_ : w3.cell? ⟨z6_, 4, none⟩ = some (.slice zz_ z2_.length zq_) := (q1_ qS_.out 4).trans rfl
           have yg_ := q3_ qS_.out 0
           have yW_ := q3_ qS_.out 1
           have yV_ := q3_ qS_.out 2
           have yY_ := q3_ qS_.out 3
           have yK_ := q3_ qS_.out 4
           go_wp2
           go_meet
           case rel => exact ⟨_, ((z1_ != 5)), (by first | rfl | (simp; done) | (simp [*]; done)), H', ⟨by first | omega | exact Nat.le_refl _⟩, ⟨by (with_reducible repeat (first | refine q9_ ?_ _ | refine qz_ ?_ | refine q8_ ?_ _)); exact qS_.out⟩, ⟨by repeat (first | (with_reducible first | exact HB.out | apply q6_ | apply q5_ | apply q7_ | refine qq_ ?_ jw_.out) | exact HB.out)⟩⟩
          ·
           rw [if_neg c24] at H
           have Pz_ : decide (0 < (z2_.length : Int)) = false := decide_eq_false c24
           have Pq_ : decide (0 < z2_.length) = false := decide_eq_false (by omega)
           clear c24
           have H' := q0_.mk H
           clear H
           have fs_ : w3.cell? ⟨z6_, 0, none⟩ = some (.int .i64 z1_) := (q1_ qS_.out 0).trans rfl
           have fR_ : w3.cell? ⟨z6_, 1, none⟩ = some (.bool true) := (q1_ qS_.out 1).trans rfl
           have fr_ : w3.cell? ⟨z6_, 2, none⟩ = some (.string z3_) := (q1_ qS_.out 2).trans rfl
           have fP_ : w3.cell? ⟨z6_, 3, none⟩ = some (.slice zj_ z0_.length z9_) := (q1_ qS_.out 3).trans rfl
           have fp_ : w3.cell? ⟨z6_, 4, none⟩ = some (.slice zz_ z2_.length zq_) := (q1_ qS_.out 4).trans rfl
           have Gr_ := q3_ qS_.out 0
           have GP_ := q3_ qS_.out 1
           have Gp_ := q3_ qS_.out 2
           have GD_ := q3_ qS_.out 3
           have Gd_ := q3_ qS_.out 4
           go_wp2
           go_meet
           case rel => exact ⟨_, (false), (by first | rfl | (simp; done) | (simp [*]; done)), H', ⟨by first | omega | exact Nat.le_refl _⟩, ⟨by (with_reducible repeat (first | refine q9_ ?_ _ | refine qz_ ?_ | refine q8_ ?_ _)); exact qS_.out⟩, ⟨by repeat (first | (with_reducible first | exact HB.out | apply q6_ | apply q5_ | apply q7_ | refine qq_ ?_ jw_.out) | exact HB.out)⟩⟩
        ·
         rw [if_neg c21] at H
         have ZF_ : decide (0 < (z0_.length : Int)) = false := decide_eq_false c21
         have Vv_ : decide (0 < z0_.length) = false := decide_eq_false (by omega)
         clear c21
         by_cases c27 : (z2_.length : Int) > 0
         ·
          rw [if_pos c27] at H
          have bV_ : decide (0 < (z2_.length : Int)) = true := decide_eq_true c27
          have P9_ : decide (0 < z2_.length) = true := decide_eq_true (by omega)
          clear c27
          have H' := q0_.mk H
          clear H
          have ZG_ : w3.cell? ⟨z6_, 0, none⟩ = some (.int .i64 z1_) := (q1_ qS_.out 0).trans rfl
          have Zg_ : w3.cell? ⟨z6_, 1, none⟩ = some (.bool true) := (q1_ qS_.out 1).trans rfl
          have ZW_ : w3.cell? ⟨z6_, 2, none⟩ = some (.string z3_) := (q1_ qS_.out 2).trans rfl
          have ZV_ : w3.cell? ⟨z6_, 3, none⟩ = some (.slice zj_ z0_.length z9_) := (q1_ qS_.out 3).trans rfl
          have ZY_ : w3.cell? ⟨z6_, 4, none⟩ = some (.slice zz_ z2_.length zq_) := (q1_ qS_.out 4).trans rfl
          have ZK_ := q3_ qS_.out 0
          have ZX_ := q3_ qS_.out 1
          have ZJ_ := q3_ qS_.out 2
          have ZZ_ := q3_ qS_.out 3
          have ZQ_ := q3_ qS_.out 4
          go_wp2
          go_meet
          case rel => exact ⟨_, ((z1_ != 5)), (by first | rfl | (simp; done) | (simp [*]; done)), H', ⟨by first | omega | exact Nat.le_refl _⟩, ⟨by (with_reducible repeat (first | refine q9_ ?_ _ | refine qz_ ?_ | refine q8_ ?_ _)); exact qS_.out⟩, ⟨by repeat (first | (with_reducible first | exact HB.out | apply q6_ | apply q5_ | apply q7_ | refine qq_ ?_ jw_.out) | exact HB.out)⟩⟩
         ·
          rw [if_neg c27] at H
          have bV_ : decide (0 < (z2_.length : Int)) = false := decide_eq_false c27
          have P9_ : decide (0 < z2_.length) = false := decide_eq_false (by omega)
          clear c27
          have H' := q0_.mk H
          clear H
          have w5_ : w3.cell? ⟨z6_, 0, none⟩ = some (.int .i64 z1_) := (q1_ qS_.out 0).trans rfl
          have w4_ : w3.cell? ⟨z6_, 1, none⟩ = some (.bool true) := (q1_ qS_.out 1).trans rfl
          have w3_ : w3.cell? ⟨z6_, 2, none⟩ = some (.string z3_) := (q1_ qS_.out 2).trans rfl
          have w2_ : w3.cell? ⟨z6_, 3, none⟩ = some (.slice zj_ z0_.length z9_) := (q1_ qS_.out 3).trans rfl
          have w1_ : w3.cell? ⟨z6_, 4, none⟩ = some (.slice zz_ z2_.length zq_) := (q1_ qS_.out 4).trans rfl
          have vG_ := q3_ qS_.out 0
          have vg_ := q3_ qS_.out 1
          have vW_ := q3_ qS_.out 2
          have vV_ := q3_ qS_.out 3
          have vY_ := q3_ qS_.out 4
          go_wp2
          go_meet
          case rel => exact ⟨_, (false), (by first | rfl | (simp; done) | (simp [*]; done)), H', ⟨by first | omega | exact Nat.le_refl _⟩, ⟨by (with_reducible repeat (first | refine q9_ ?_ _ | refine qz_ ?_ | refine q8_ ?_ _)); exact qS_.out⟩, ⟨by repeat (first | (with_reducible first | exact HB.out | apply q6_ | apply q5_ | apply q7_ | refine qq_ ?_ jw_.out) | exact HB.out)⟩⟩
       ·
        rw [if_neg c20] at H
        have Px_ : (z1_ == 2) = false := beq_eq_false_iff_ne.mpr c20
        have Pj_ : (z1_ != 2) = true := bne_iff_ne.mpr c20
        by_cases c30 : z1_ = 3
        ·
         rw [if_pos c30] at H
         have P8_ : (z1_ == 3) = true := beq_iff_eq.mpr c30
         have P7_ : (z1_ != 3) = false := bne_eq_false_iff_eq.mpr c30
         clear c30
         by_cases c31 : (z0_.length : Int) > 0
         ·
          rw [if_pos c31] at H
          have P6_ : decide (0 < (z0_.length : Int)) = true := decide_eq_true c31
          have P5_ : decide (0 < z0_.length) = true := decide_eq_true (by omega)
          clear c31
          by_cases c32 : z1_ < 4
          ·
           rw [if_pos c32] at H
           have bY_ : decide (z1_ < 4) = true := decide_eq_true c32
           clear c32
           have H' := q0_.mk H
           clear H
           have XD_ : w3.cell? ⟨z6_, 0, none⟩ = some (.int .i64 z1_) := (q1_ qS_.out 0).trans rfl
           have Xd_ : w3.cell? ⟨z6_, 1, none⟩ = some (.bool true) := (q1_ qS_.out 1).trans rfl
           have XB_ : w3.cell? ⟨z6_, 2, none⟩ = some (.string z3_) := (q1_ qS_.out 2).trans rfl
           have Xb_ : w3.cell? ⟨z6_, 3, none⟩ = some (.slice zj_ z0_.length z9_) := (q1_ qS_.out 3).trans rfl
           have XF_ : w3.cell? ⟨z6_, 4, none⟩ = some (.slice zz_ z2_.length zq_) := (q1_ qS_.out 4).trans rfl
           have Xq_ := q3_ qS_.out 0
           have X9_ := q3_ qS_.out 1
           have X8_ := q3_ qS_.out 2
           have X7_ := q3_ qS_.out 3
           have X6_ := q3_ qS_.out 4
           go_wp2
           go_meet
           case rel => exact ⟨_, (true), (by first | rfl | (simp; done) | (simp [*]; done)), H', ⟨by first | omega | exact Nat.le_refl _⟩, ⟨by (with_reducible repeat (first | refine q9_ ?_ _ | refine qz_ ?_ | refine q8_ ?_ _)); exact qS_.out⟩, ⟨by repeat (first | (with_reducible first | exact HB.out | apply q6_ | apply q5_ | apply q7_ | refine qq_ ?_ jw_.out) | exact HB.out)⟩⟩
          ·
           rw [if_neg c32] at H
           have bY_ : decide (z1_ < 4) = false := decide_eq_false c32
           clear c32
           by_cases c34 : (z2_.length : Int) > 0
           ·
            rw [if_pos c34] at H
            have P4_ : decide (0 < (z2_.length : Int)) = true := decide_eq_true c34
            have P3_ : decide (0 < z2_.length) = true := decide_eq_true (by omega)
            clear c34
            have H' := q0_.mk H
            clear H
            have Yg_ : w3.cell? ⟨z6_, 0, none⟩ = some (.int .i64 z1_) := (q1_ qS_.out 0).trans rfl
            have YW_ : w3.cell? ⟨z6_, 1, none⟩ = some (.bool true) := (q1_ qS_.out 1).trans rfl
            have YV_ : w3.cell? ⟨z6_, 2, none⟩ = some (.string z3_) := (q1_ qS_.out 2).trans rfl
            have YY_ : w3.cell? ⟨z6_, 3, none⟩ = some (.slice zj_ z0_.length z9_) := (q1_ qS_.out 3).trans rfl
            have YK_ : w3.cell? ⟨z6_, 4, none⟩ = some (.slice zz_ z2_.length zq_) := (q1_ qS_.out 4).trans rfl
            have Y1_ := q3_ qS_.out 0
            have Y0_ := q3_ qS_.out 1
            have KS_ := q3_ qS_.out 2
            have Ks_ := q3_ qS_.out 3
            have KR_ := q3_ qS_.out 4
            go_wp2
            go_meet
            case rel => exact ⟨_, ((z1_ != 5)), (by first | rfl | (simp; done) | (simp [*]; done)), H', ⟨by first | omega | exact Nat.le_refl _⟩, ⟨by (with_reducible repeat (first | refine q9_ ?_ _ | refine qz_ ?_ | refine q8_ ?_ _)); exact qS_.out⟩, ⟨by repeat (first | (with_reducible first | exact HB.out | apply q6_ | apply q5_ | apply q7_ | refine qq_ ?_ jw_.out) | exact HB.out)⟩⟩
           ·
            rw [if_neg c34] at H
            have P4_ : decide (0 < (z2_.length : Int)) = false := decide_eq_false c34
            have P3_ : decide (0 < z2_.length) = false := decide_eq_false (by omega)
            clear c34
            have H' := q0_.mk H
            clear H
            have fD_ : w3.cell? ⟨z6_, 0, none⟩ = some (.int .i64 z1_) := (q1_ qS_.out 0).trans rfl
            have fd_ : w3.cell? ⟨z6_, 1, none⟩ = some (.bool true) := (q1_ qS_.out 1).trans rfl
            have fB_ : w3.cell? ⟨z6_, 2, none⟩ = some (.string z3_) := (q1_ qS_.out 2).trans rfl
            have fb_ : w3.cell? ⟨z6_, 3, none⟩ = some (.slice zj_ z0_.length z9_) := (q1_ qS_.out 3).trans rfl
            have fF_ : w3.cell? ⟨z6_, 4, none⟩ = some (.slice zz_ z2_.length zq_) := (q1_ qS_.out 4).trans rfl
            have GB_ := q3_ qS_.out 0
            have Gb_ := q3_ qS_.out 1
            have GF_ := q3_ qS_.out 2
            have Gf_ := q3_ qS_.out 3
            have GH_ := q3_ qS_.out 4
            go_wp2
            go_meet
            case rel => exact ⟨_, (false), (by first | rfl | (simp; done) | (simp [*]; done)), H', ⟨by first | omega | exact Nat.le_refl _⟩, ⟨by (with_reducible repeat (first | refine q9_ ?_ _ | refine qz_ ?_ | refine q8_ ?_ _)); exact qS_.out⟩, ⟨by repeat (first | (with_reducible first | exact HB.out | apply q6_ | apply q5_ | apply q7_ | refine qq_ ?_ jw_.out) | exact HB.out)⟩⟩
         ·
          rw [if_neg c31] at H
          have P6_ : decide (0 < (z0_.length : Int)) = false := decide_eq_false c31
          have P5_ : decide (0 < z0_.length) = false := decide_eq_false (by omega)
          clear c31
          by_cases c37 : (z2_.length : Int) > 0
          ·
           rw [if_pos c37] at H
           have P2_ : decide (0 < (z2_.length : Int)) = true := decide_eq_true c37
           have P1_ : decide (0 < z2_.length) = true := decide_eq_true (by omega)
           clear c37
           have H' := q0_.mk H
           clear H
           have ff_ : w3.cell? ⟨z6_, 0, none⟩ = some (.int .i64 z1_) := (q1_ qS_.out 0).trans rfl
           have fH_ : w3.cell? ⟨z6_, 1, none⟩ = some (.bool true) := (q1_ qS_.out 1).trans rfl
           have fh_ : w3.cell? ⟨z6_, 2, none⟩ = some (.string z3_) := (q1_ qS_.out 2).trans rfl
           have fG_ : w3.cell? ⟨z6_, 3, none⟩ = some (.slice zj_ z0_.length z9_) := (q1_ qS_.out 3).trans rfl
           have fg_ : w3.cell? ⟨z6_, 4, none⟩ = some (.slice zz_ z2_.length zq_) := (q1_ qS_.out 4).trans rfl
           have Gh_ := q3_ qS_.out 0
           have GG_ := q3_ qS_.out 1
           have Gg_ := q3_ qS_.out 2
           have GW_ := q3_ qS_.out 3
           have GV_ := q3_ qS_.out 4
           go_wp2
           go_meet
           case rel => exact ⟨_, ((z1_ != 5)), (by first | rfl | (simp; done) | (simp [*]; done)), H', ⟨by first | omega | exact Nat.le_refl _⟩, ⟨by (with_reducible repeat (first | refine q9_ ?_ _ | refine qz_ ?_ | refine q8_ ?_ _)); exact qS_.out⟩, ⟨by repeat (first | (with_reducible first | exact HB.out | apply q6_ | apply q5_ | apply q7_ | refine qq_ ?_ jw_.out) | exact HB.out)⟩⟩
          ·
           rw [if_neg c37] at H
           have P2_ : decide (0 < (z2_.length : Int)) = false := decide_eq_false c37
           have P1_ : decide (0 < z2_.length) = false := decide_eq_false (by omega)
           clear c37
           have H' := q0_.mk H
           clear H
           have YX_ : w3.cell? ⟨z6_, 0, none⟩ = some (.int .i64 z1_) := (q1_ qS_.out 0).trans rfl
           have YJ_ : w3.cell? ⟨z6_, 1, none⟩ = some (.bool true) := (q1_ qS_.out 1).trans rfl
           have YZ_ : w3.cell? ⟨z6_, 2, none⟩ = some (.string z3_) := (q1_ qS_.out 2).trans rfl
           have YQ_ : w3.cell? ⟨z6_, 3, none⟩ = some (.slice zj_ z0_.length z9_) := (q1_ qS_.out 3).trans rfl
           have Yw_ : w3.cell? ⟨z6_, 4, none⟩ = some (.slice zz_ z2_.length zq_) := (q1_ qS_.out 4).trans rfl
           have Kr_ := q3_ qS_.out 0
           have KP_ := q3_ qS_.out 1
           have Kp_ := q3_ qS_.out 2
           have KD_ := q3_ qS_.out 3
           have Kd_ := q3_ qS_.out 4
           go_wp2
           go_meet
           case rel => exact ⟨_, (false), (by first | rfl | (simp; done) | (simp [*]; done)), H', ⟨by first | omega | exact Nat.le_refl _⟩, ⟨by (with_reducible repeat (first | refine q9_ ?_ _ | refine qz_ ?_ | refine q8_ ?_ _)); exact qS_.out⟩, ⟨by repeat (first | (with_reducible first | exact HB.out | apply q6_ | apply q5_ | apply q7_ | refine qq_ ?_ jw_.out) | exact HB.out)⟩⟩
        ·
         rw [if_neg c30] at H
         have P8_ : (z1_ == 3) = false := beq_eq_false_iff_ne.mpr c30
         have P7_ : (z1_ != 3) = true := bne_iff_ne.mpr c30
         have H' := q0_.mk H
         clear H
         have fW_ : w3.cell? ⟨z6_, 0, none⟩ = some (.int .i64 z1_) := (q1_ qS_.out 0).trans rfl
         have fV_ : w3.cell? ⟨z6_, 1, none⟩ = some (.bool true) := (q1_ qS_.out 1).trans rfl
         have fY_ : w3.cell? ⟨z6_, 2, none⟩ = some (.string z3_) := (q1_ qS_.out 2).trans rfl
         have fK_ : w3.cell? ⟨z6_, 3, none⟩ = some (.slice zj_ z0_.length z9_) := (q1_ qS_.out 3).trans rfl
         have fX_ : w3.cell? ⟨z6_, 4, none⟩ = some (.slice zz_ z2_.length zq_) := (q1_ qS_.out 4).trans rfl
         have GY_ := q3_ qS_.out 0
         have GK_ := q3_ qS_.out 1
         have GX_ := q3_ qS_.out 2
         have GJ_ := q3_ qS_.out 3
         have GZ_ := q3_ qS_.out 4
         go_wp2
         go_meet
         case rel => exact ⟨_, (true), (by first | rfl | (simp; done) | (simp [*]; done)), H', ⟨by first | omega | exact Nat.le_refl _⟩, ⟨by (with_reducible repeat (first | refine q9_ ?_ _ | refine qz_ ?_ | refine q8_ ?_ _)); exact qS_.out⟩, ⟨by repeat (first | (with_reducible first | exact HB.out | apply q6_ | apply q5_ | apply q7_ | refine qq_ ?_ jw_.out) | exact HB.out)⟩⟩
     ·
      rw [if_neg c9] at H
      have r3_ : (z1_ == 1) = false := beq_eq_false_iff_ne.mpr c9
      have c9b1 : (z1_ != 1) = true := bne_iff_ne.mpr c9
      have H' := q0_.mk H
      clear H
      have Yv_ : w3.cell? ⟨z6_, 0, none⟩ = some (.int .i64 z1_) := (q1_ qS_.out 0).trans rfl
      have Yy_ : w3.cell? ⟨z6_, 1, none⟩ = some (.bool true) := (q1_ qS_.out 1).trans rfl
      have Yk_ : w3.cell? ⟨z6_, 2, none⟩ = some (.string z3_) := (q1_ qS_.out 2).trans rfl
      have Yx_ : w3.cell? ⟨z6_, 3, none⟩ = some (.slice zj_ z0_.length z9_) := (q1_ qS_.out 3).trans rfl
      have Yj_ : w3.cell? ⟨z6_, 4, none⟩ = some (.slice zz_ z2_.length zq_) := (q1_ qS_.out 4).trans rfl
      have KB_ := q3_ qS_.out 0
      have Kb_ := q3_ qS_.out 1
      have KF_ := q3_ qS_.out 2
      have Kf_ := q3_ qS_.out 3
      have KH_ := q3_ qS_.out 4
      go_wp2
      go_meet
      case rel => exact ⟨_, (true), (by first | rfl | (simp; done) | (simp [*]; done)), H', ⟨by first | omega | exact Nat.le_refl _⟩, ⟨by (with_reducible repeat (first | refine q9_ ?_ _ | refine qz_ ?_ | refine q8_ ?_ _)); exact qS_.out⟩, ⟨by repeat (first | (with_reducible first | exact HB.out | apply q6_ | apply q5_ | apply q7_ | refine qq_ ?_ jw_.out) | exact HB.out)⟩⟩
    ·
     replace c8 := Bool.eq_false_iff.mpr c8
     subst c8
     have H1 : (if z3_.toList = ([] : List UInt8) then (if (z0_.length : Int) > 0 then (if z1_ < 4 then (colophonref10_May.j0 k true z1_ false z3_ z0_ z2_) else (if (z2_.length : Int) > 0 then (colophonref10_May.j0 k (z1_ != 5) z1_ false z3_ z0_ z2_) else (colophonref10_May.j0 k false z1_ false z3_ z0_ z2_))) else (if (z2_.length : Int) > 0 then (colophonref10_May.j0 k (z1_ != 5) z1_ false z3_ z0_ z2_) else (colophonref10_May.j0 k false z1_ false z3_ z0_ z2_))) else (if z1_ = 2 then (if (z0_.length : Int) > 0 then (if z1_ < 4 then (colophonref10_May.j0 k true z1_ false z3_ z0_ z2_) else (if (z2_.length : Int) > 0 then (colophonref10_May.j0 k (z1_ != 5) z1_ false z3_ z0_ z2_) else (colophonref10_May.j0 k false z1_ false z3_ z0_ z2_))) else (if (z2_.length : Int) > 0 then (colophonref10_May.j0 k (z1_ != 5) z1_ false z3_ z0_ z2_) else (colophonref10_May.j0 k false z1_ false z3_ z0_ z2_))) else (if z1_ = 3 then (if (z0_.length : Int) > 0 then (if z1_ < 4 then (colophonref10_May.j0 k true z1_ false z3_ z0_ z2_) else (if (z2_.length : Int) > 0 then (colophonref10_May.j0 k (z1_ != 5) z1_ false z3_ z0_ z2_) else (colophonref10_May.j0 k false z1_ false z3_ z0_ z2_))) else (if (z2_.length : Int) > 0 then (colophonref10_May.j0 k (z1_ != 5) z1_ false z3_ z0_ z2_) else (colophonref10_May.j0 k false z1_ false z3_ z0_ z2_))) else (colophonref10_May.j0 k true z1_ false z3_ z0_ z2_)))) = some r := by rw [if_neg (show ¬ (false = true) by decide)] at H; exact H
     clear H
     have H := H1
     clear H1
     by_cases c42 : z3_.toList = ([] : List UInt8)
     ·
      rw [if_pos c42] at H
      have P0_ : (z3_.toList == ([] : List UInt8)) = true := beq_iff_eq.mpr c42
      have pS_ : (z3_.toList != ([] : List UInt8)) = false := bne_eq_false_iff_eq.mpr c42
      clear c42
      by_cases c43 : (z0_.length : Int) > 0
      ·
       rw [if_pos c43] at H
       have ps_ : decide (0 < (z0_.length : Int)) = true := decide_eq_true c43
       have pR_ : decide (0 < z0_.length) = true := decide_eq_true (by omega)
       clear c43
       by_cases c44 : z1_ < 4
       ·
        rw [if_pos c44] at H
        have pr_ : decide (z1_ < 4) = true := decide_eq_true c44
        clear c44
        have H' := q0_.mk H
        clear H
        have fJ_ : w3.cell? ⟨z6_, 0, none⟩ = some (.int .i64 z1_) := (q1_ qS_.out 0).trans rfl
        have fZ_ : w3.cell? ⟨z6_, 1, none⟩ = some (.bool false) := (q1_ qS_.out 1).trans rfl
        have fQ_ : w3.cell? ⟨z6_, 2, none⟩ = some (.string z3_) := (q1_ qS_.out 2).trans rfl
        have fw_ : w3.cell? ⟨z6_, 3, none⟩ = some (.slice zj_ z0_.length z9_) := (q1_ qS_.out 3).trans rfl
        have fv_ : w3.cell? ⟨z6_, 4, none⟩ = some (.slice zz_ z2_.length zq_) := (q1_ qS_.out 4).trans rfl
        have GQ_ := q3_ qS_.out 0
        have Gw_ := q3_ qS_.out 1
        have Gv_ := q3_ qS_.out 2
        have Gy_ := q3_ qS_.out 3
        have Gk_ := q3_ qS_.out 4
        go_wp2
        go_meet
        case rel => exact ⟨_, (true), (by first | rfl | (simp; done) | (simp [*]; done)), H', ⟨by first | omega | exact Nat.le_refl _⟩, ⟨by (with_reducible repeat (first | refine q9_ ?_ _ | refine qz_ ?_ | refine q8_ ?_ _)); exact qS_.out⟩, ⟨by repeat (first | (with_reducible first | exact HB.out | apply q6_ | apply q5_ | apply q7_ | refine qq_ ?_ jw_.out) | exact HB.out)⟩⟩
       ·
        rw [if_neg c44] at H
        have pr_ : decide (z1_ < 4) = false := decide_eq_false c44
        clear c44
        by_cases c46 : (z2_.length : Int) > 0
        ·
         rw [if_pos c46] at H
         have pP_ : decide (0 < (z2_.length : Int)) = true := decide_eq_true c46
         have pp_ : decide (0 < z2_.length) = true := decide_eq_true (by omega)
         clear c46
         have H' := q0_.mk H
         clear H
         have fy_ : w3.cell? ⟨z6_, 0, none⟩ = some (.int .i64 z1_) := (q1_ qS_.out 0).trans rfl
         have fk_ : w3.cell? ⟨z6_, 1, none⟩ = some (.bool false) := (q1_ qS_.out 1).trans rfl
         have fx_ : w3.cell? ⟨z6_, 2, none⟩ = some (.string z3_) := (q1_ qS_.out 2).trans rfl
         have fj_ : w3.cell? ⟨z6_, 3, none⟩ = some (.slice zj_ z0_.length z9_) := (q1_ qS_.out 3).trans rfl
         have fz_ : w3.cell? ⟨z6_, 4, none⟩ = some (.slice zz_ z2_.length zq_) := (q1_ qS_.out 4).trans rfl
         have Gx_ := q3_ qS_.out 0
         have Gj_ := q3_ qS_.out 1
         have Gz_ := q3_ qS_.out 2
         have Gq_ := q3_ qS_.out 3
         have G9_ := q3_ qS_.out 4
         go_wp2
         go_meet
         case rel => exact ⟨_, ((z1_ != 5)), (by first | rfl | (simp; done) | (simp [*]; done)), H', ⟨by first | omega | exact Nat.le_refl _⟩, ⟨by (with_reducible repeat (first | refine q9_ ?_ _ | refine qz_ ?_ | refine q8_ ?_ _)); exact qS_.out⟩, ⟨by repeat (first | (with_reducible first | exact HB.out | apply q6_ | apply q5_ | apply q7_ | refine qq_ ?_ jw_.out) | exact HB.out)⟩⟩
        ·
         rw [if_neg c46] at H
         have pP_ : decide (0 < (z2_.length : Int)) = false := decide_eq_false c46
         have pp_ : decide (0 < z2_.length) = false := decide_eq_false (by omega)
         clear c46
         have H' := q0_.mk H
         clear H
         have fq_ : w3.cell? ⟨z6_, 0, none⟩ = some (.int .i64 z1_) := (q1_ qS_.out 0).trans rfl
         have f9_ : w3.cell? ⟨z6_, 1, none⟩ = some (.bool false) := (q1_ qS_.out 1).trans rfl
         have f8_ : w3.cell? ⟨z6_, 2, none⟩ = some (.string z3_) := (q1_ qS_.out 2).trans rfl
         have f7_ : w3.cell? ⟨z6_, 3, none⟩ = some (.slice zj_ z0_.length z9_) := (q1_ qS_.out 3).trans rfl
         have f6_ : w3.cell? ⟨z6_, 4, none⟩ = some (.slice zz_ z2_.length zq_) := (q1_ qS_.out 4).trans rfl
         have G8_ := q3_ qS_.out 0
         have G7_ := q3_ qS_.out 1
         have G6_ := q3_ qS_.out 2
         have G5_ := q3_ qS_.out 3
         have G4_ := q3_ qS_.out 4
         go_wp2
         go_meet
         case rel => exact ⟨_, (false), (by first | rfl | (simp; done) | (simp [*]; done)), H', ⟨by first | omega | exact Nat.le_refl _⟩, ⟨by (with_reducible repeat (first | refine q9_ ?_ _ | refine qz_ ?_ | refine q8_ ?_ _)); exact qS_.out⟩, ⟨by repeat (first | (with_reducible first | exact HB.out | apply q6_ | apply q5_ | apply q7_ | refine qq_ ?_ jw_.out) | exact HB.out)⟩⟩
      ·
       rw [if_neg c43] at H
       have ps_ : decide (0 < (z0_.length : Int)) = false := decide_eq_false c43
       have pR_ : decide (0 < z0_.length) = false := decide_eq_false (by omega)
       clear c43
       by_cases c49 : (z2_.length : Int) > 0
       ·
        rw [if_pos c49] at H
        have pD_ : decide (0 < (z2_.length : Int)) = true := decide_eq_true c49
        have pd_ : decide (0 < z2_.length) = true := decide_eq_true (by omega)
        clear c49
        have H' := q0_.mk H
        clear H
        have f0_ : w3.cell? ⟨z6_, 0, none⟩ = some (.int .i64 z1_) := (q1_ qS_.out 0).trans rfl
        have HS_ : w3.cell? ⟨z6_, 1, none⟩ = some (.bool false) := (q1_ qS_.out 1).trans rfl
        have Hs_ : w3.cell? ⟨z6_, 2, none⟩ = some (.string z3_) := (q1_ qS_.out 2).trans rfl
        have HR_ : w3.cell? ⟨z6_, 3, none⟩ = some (.slice zj_ z0_.length z9_) := (q1_ qS_.out 3).trans rfl
        have Hr_ : w3.cell? ⟨z6_, 4, none⟩ = some (.slice zz_ z2_.length zq_) := (q1_ qS_.out 4).trans rfl
        have G3_ := q3_ qS_.out 0
        have G2_ := q3_ qS_.out 1
        have G1_ := q3_ qS_.out 2
        have G0_ := q3_ qS_.out 3
        have gS_ := q3_ qS_.out 4
        go_wp2
        go_meet
        case rel => exact ⟨_, ((z1_ != 5)), (by first | rfl | (simp; done) | (simp [*]; done)), H', ⟨by first | omega | exact Nat.le_refl _⟩, ⟨by (with_reducible repeat (first | refine q9_ ?_ _ | refine qz_ ?_ | refine q8_ ?_ _)); exact qS_.out⟩, ⟨by repeat (first | (with_reducible first | exact HB.out | apply q6_ | apply q5_ | apply q7_ | refine qq_ ?_ jw_.out) | exact HB.out)⟩⟩
       ·
        rw [if_neg c49] at H
        have pD_ : decide (0 < (z2_.length : Int)) = false := decide_eq_false c49
        have pd_ : decide (0 < z2_.length) = false := decide_eq_false (by omega)
        clear c49
        have H' := q0_.mk H
        clear H
        have HP_ : w3.cell? ⟨z6_, 0, none⟩ = some (.int .i64 z1_) := (q1_ qS_.out 0).trans rfl
        have Hp_ : w3.cell? ⟨z6_, 1, none⟩ = some (.bool false) := (q1_ qS_.out 1).trans rfl
        have HD_ : w3.cell? ⟨z6_, 2, none⟩ = some (.string z3_) := (q1_ qS_.out 2).trans rfl
        have Hd_ : w3.cell? ⟨z6_, 3, none⟩ = some (.slice zj_ z0_.length z9_) := (q1_ qS_.out 3).trans rfl
        have HB_ : w3.cell? ⟨z6_, 4, none⟩ = some (.slice zz_ z2_.length zq_) := (q1_ qS_.out 4).trans rfl
        have gs_ := q3_ qS_.out 0
        have gR_ := q3_ qS_.out 1
        have gr_ := q3_ qS_.out 2
        have gP_ := q3_ qS_.out 3
        have gp_ := q3_ qS_.out 4
        go_wp2
        go_meet
        case rel => exact ⟨_, (false), (by first | rfl | (simp; done) | (simp [*]; done)), H', ⟨by first | omega | exact Nat.le_refl _⟩, ⟨by (with_reducible repeat (first | refine q9_ ?_ _ | refine qz_ ?_ | refine q8_ ?_ _)); exact qS_.out⟩, ⟨by repeat (first | (with_reducible first | exact HB.out | apply q6_ | apply q5_ | apply q7_ | refine qq_ ?_ jw_.out) | exact HB.out)⟩⟩
     ·
      rw [if_neg c42] at H
      have P0_ : (z3_.toList == ([] : List UInt8)) = false := beq_eq_false_iff_ne.mpr c42
      have pS_ : (z3_.toList != ([] : List UInt8)) = true := bne_iff_ne.mpr c42
      by_cases c52 : z1_ = 2
      ·
       rw [if_pos c52] at H
       have pB_ : (z1_ == 2) = true := beq_iff_eq.mpr c52
       have pb_ : (z1_ != 2) = false := bne_eq_false_iff_eq.mpr c52
       clear c52
       by_cases c53 : (z0_.length : Int) > 0
       ·
        rw [if_pos c53] at H
        have pF_ : decide (0 < (z0_.length : Int)) = true := decide_eq_true c53
        have pf_ : decide (0 < z0_.length) = true := decide_eq_true (by omega)
        clear c53
        by_cases c54 : z1_ < 4
        ·
         rw [if_pos c54] at H
         have pH_ : decide (z1_ < 4) = true := decide_eq_true c54
         clear c54
         have H' := q0_.mk H
         clear H
         have Hb_ : w3.cell? ⟨z6_, 0, none⟩ = some (.int .i64 z1_) := (q1_ qS_.out 0).trans rfl
         have HF_ : w3.cell? ⟨z6_, 1, none⟩ = some (.bool false) := (q1_ qS_.out 1).trans rfl
         have Hf_ : w3.cell? ⟨z6_, 2, none⟩ = some (.string z3_) := (q1_ qS_.out 2).trans rfl
         have HH_ : w3.cell? ⟨z6_, 3, none⟩ = some (.slice zj_ z0_.length z9_) := (q1_ qS_.out 3).trans rfl
         have Hh_ : w3.cell? ⟨z6_, 4, none⟩ = some (.slice zz_ z2_.length zq_) := (q1_ qS_.out 4).trans rfl
         have gD_ := q3_ qS_.out 0
         have gd_ := q3_ qS_.out 1
         have gB_ := q3_ qS_.out 2
         have gb_ := q3_ qS_.out 3
         have gF_ := q3_ qS_.out 4
         go_wp2
         go_meet
         case rel => exact ⟨_, (true), (by first | rfl | (simp; done) | (simp [*]; done)), H', ⟨by first | omega | exact Nat.le_refl _⟩, ⟨by (with_reducible repeat (first | refine q9_ ?_ _ | refine qz_ ?_ | refine q8_ ?_ _)); exact qS_.out⟩, ⟨by repeat (first | (with_reducible first | exact HB.out | apply q6_ | apply q5_ | apply q7_ | refine qq_ ?_ jw_.out) | exact HB.out)⟩⟩
        ·
         rw [if_neg c54] at H
         have pH_ : decide (z1_ < 4) = false := decide_eq_false c54
         clear c54
         by_cases c56 : (z2_.length : Int) > 0
         ·
          rw [if_pos c56] at H
          have ph_ : decide (0 < (z2_.length : Int)) = true := decide_eq_true c56
          have pG_ : decide (0 < z2_.length) = true := decide_eq_true (by omega)
          clear c56
          have H' := q0_.mk H
          clear H
          have HG_ : w3.cell? ⟨z6_, 0, none⟩ = some (.int .i64 z1_) := (q1_ qS_.out 0).trans rfl
          have Hg_ : w3.cell? ⟨z6_, 1, none⟩ = some (.bool false) := (q1_ qS_.out 1).trans rfl
          have HV_ : w3.cell? ⟨z6_, 2, none⟩ = some (.string z3_) := (q1_ qS_.out 2).trans rfl
          have HY_ : w3.cell? ⟨z6_, 3, none⟩ = some (.slice zj_ z0_.length z9_) := (q1_ qS_.out 3).trans rfl
          have HK_ : w3.cell? ⟨z6_, 4, none⟩ = some (.slice zz_ z2_.length zq_) := (q1_ qS_.out 4).trans rfl
          have gf_ := q3_ qS_.out 0
          have gH_ := q3_ qS_.out 1
          have gh_ := q3_ qS_.out 2
          have gG_ := q3_ qS_.out 3
          have gg_ := q3_ qS_.out 4
          go_wp2
          go_meet
          case rel => exact ⟨_, ((z1_ != 5)), (by first | rfl | (simp; done) | (simp [*]; done)), H', ⟨by first | omega | exact Nat.le_refl _⟩, ⟨by (with_reducible repeat (first | refine q9_ ?_ _ | refine qz_ ?_ | refine q8_ ?_ _)); exact qS_.out⟩, ⟨by repeat (first | (with_reducible first | exact HB.out | apply q6_ | apply q5_ | apply q7_ | refine qq_ ?_ jw_.out) | exact HB.out)⟩⟩
         ·
          rw [if_neg c56] at H
          have ph_ : decide (0 < (z2_.length : Int)) = false := decide_eq_false c56
          have pG_ : decide (0 < z2_.length) = false := decide_eq_false (by omega)
          clear c56
          have H' := q0_.mk H
          clear H
          have HX_ : w3.cell? ⟨z6_, 0, none⟩ = some (.int .i64 z1_) := (q1_ qS_.out 0).trans rfl
          have HJ_ : w3.cell? ⟨z6_, 1, none⟩ = some (.bool false) := (q1_ qS_.out 1).trans rfl
          have HZ_ : w3.cell? ⟨z6_, 2, none⟩ = some (.string z3_) := (q1_ qS_.out 2).trans rfl
          have HQ_ : w3.cell? ⟨z6_, 3, none⟩ = some (.slice zj_ z0_.length z9_) := (q1_ qS_.out 3).trans rfl
          have Hw_ : w3.cell? ⟨z6_, 4, none⟩ = some (.slice zz_ z2_.length zq_) := (q1_ qS_.out 4).trans rfl
          have gW_ := q3_ qS_.out 0
          have gV_ := q3_ qS_.out 1
          have gY_ := q3_ qS_.out 2
          have gK_ := q3_ qS_.out 3
          have gX_ := q3_ qS_.out 4
          go_wp2
          go_meet
          case rel => exact ⟨_, (false), (by first | rfl | (simp; done) | (simp [*]; done)), H', ⟨by first | omega | exact Nat.le_refl _⟩, ⟨by (with_reducible repeat (first | refine q9_ ?_ _ | refine qz_ ?_ | refine q8_ ?_ _)); exact qS_.out⟩, ⟨by repeat (first | (with_reducible first | exact HB.out | apply q6_ | apply q5_ | apply q7_ | refine qq_ ?_ jw_.out) | exact HB.out)⟩⟩
       ·
        rw [if_neg c53] at H
        have pF_ : decide (0 < (z0_.length : Int)) = false := decide_eq_false c53
        have pf_ : decide (0 < z0_.length) = false := decide_eq_false (by omega)
        clear c53
        by_cases c59 : (z2_.length : Int) > 0
        ·
         rw [if_pos c59] at H
         have pg_ : decide (0 < (z2_.length : Int)) = true := decide_eq_true c59
         have pW_ : decide (0 < z2_.length) = true := decide_eq_true (by omega)
         clear c59
         have H' := q0_.mk H
         clear H
         have Hv_ : w3.cell? ⟨z6_, 0, none⟩ = some (.int .i64 z1_) := (q1_ qS_.out 0).trans rfl
         have Hy_ : w3.cell? ⟨z6_, 1, none⟩ = some (.bool false) := (q1_ qS_.out 1).trans rfl
         have Hk_ : w3.cell? ⟨z6_, 2, none⟩ = some (.string z3_) := (q1_ qS_.out 2).trans rfl
         have Hx_ : w3.cell? ⟨z6_, 3, none⟩ = some (.slice zj_ z0_.length z9_) := (q1_ qS_.out 3).trans rfl
         have Hj_ : w3.cell? ⟨z6_, 4, none⟩ = some (.slice zz_ z2_.length zq_) := (q1_ qS_.out 4).trans rfl
         have gJ_ := q3_ qS_.out 0
         have gZ_ := q3_ qS_.out 1
         have gQ_ := q3_ qS_.out 2
         have gw_ := q3_ qS_.out 3
         have gv_ := q3_ qS_.out 4
         go_wp2
         go_meet
         case rel => exact ⟨_, ((z1_ != 5)), (by first | rfl | (simp; done) | (simp [*]; done)), H', ⟨by first | omega | exact Nat.le_refl _⟩, ⟨by (with_reducible repeat (first | refine q9_ ?_ _ | refine qz_ ?_ | refine q8_ ?_ _)); exact qS_.out⟩, ⟨by repeat (first | (with_reducible first | exact HB.out | apply q6_ | apply q5_ | apply q7_ | refine qq_ ?_ jw_.out) | exact HB.out)⟩⟩
        ·
         rw [if_neg c59] at H
         have pg_ : decide (0 < (z2_.length : Int)) = false := decide_eq_false c59
         have pW_ : decide (0 < z2_.length) = false := decide_eq_false (by omega)
         clear c59
         have H' := q0_.mk H
         clear H
         have Hz_ : w3.cell? ⟨z6_, 0, none⟩ = some (.int .i64 z1_) := (q1_ qS_.out 0).trans rfl
         have Hq_ : w3.cell? ⟨z6_, 1, none⟩ = some (.bool false) := (q1_ qS_.out 1).trans rfl
         have H9_ : w3.cell? ⟨z6_, 2, none⟩ = some (.string z3_) := (q1_ qS_.out 2).trans rfl
         have H8_ : w3.cell? ⟨z6_, 3, none⟩ = some (.slice zj_ z0_.length z9_) := (q1_ qS_.out 3).trans rfl
         have H7_ : w3.cell? ⟨z6_, 4, none⟩ = some (.slice zz_ z2_.length zq_) := (q1_ qS_.out 4).trans rfl
         have gy_ := q3_ qS_.out 0
         have gk_ := q3_ qS_.out 1
         have gx_ := q3_ qS_.out 2
         have gj_ := q3_ qS_.out 3
         have gz_ := q3_ qS_.out 4
         go_wp2
         go_meet
         case rel => exact ⟨_, (false), (by first | rfl | (simp; done) | (simp [*]; done)), H', ⟨by first | omega | exact Nat.le_refl _⟩, ⟨by (with_reducible repeat (first | refine q9_ ?_ _ | refine qz_ ?_ | refine q8_ ?_ _)); exact qS_.out⟩, ⟨by repeat (first | (with_reducible first | exact HB.out | apply q6_ | apply q5_ | apply q7_ | refine qq_ ?_ jw_.out) | exact HB.out)⟩⟩
      ·
       rw [if_neg c52] at H
       have pB_ : (z1_ == 2) = false := beq_eq_false_iff_ne.mpr c52
       have pb_ : (z1_ != 2) = true := bne_iff_ne.mpr c52
       by_cases c62 : z1_ = 3
       ·
        rw [if_pos c62] at H
        have pV_ : (z1_ == 3) = true := beq_iff_eq.mpr c62
        have pY_ : (z1_ != 3) = false := bne_eq_false_iff_eq.mpr c62
        clear c62
        by_cases c63 : (z0_.length : Int) > 0
        ·
         rw [if_pos c63] at H
         have pK_ : decide (0 < (z0_.length : Int)) = true := decide_eq_true c63
         have pX_ : decide (0 < z0_.length) = true := decide_eq_true (by omega)
         clear c63
         by_cases c64 : z1_ < 4
         ·
          rw [if_pos c64] at H
          have pJ_ : decide (z1_ < 4) = true := decide_eq_true c64
          clear c64
          have H' := q0_.mk H
          clear H
          have H6_ : w3.cell? ⟨z6_, 0, none⟩ = some (.int .i64 z1_) := (q1_ qS_.out 0).trans rfl
          have H5_ : w3.cell? ⟨z6_, 1, none⟩ = some (.bool false) := (q1_ qS_.out 1).trans rfl
          have H4_ : w3.cell? ⟨z6_, 2, none⟩ = some (.string z3_) := (q1_ qS_.out 2).trans rfl
          have H3_ : w3.cell? ⟨z6_, 3, none⟩ = some (.slice zj_ z0_.length z9_) := (q1_ qS_.out 3).trans rfl
          have H1_ : w3.cell? ⟨z6_, 4, none⟩ = some (.slice zz_ z2_.length zq_) := (q1_ qS_.out 4).trans rfl
          have gq_ := q3_ qS_.out 0
          have g9_ := q3_ qS_.out 1
          have g8_ := q3_ qS_.out 2
          have g7_ := q3_ qS_.out 3
          have g6_ := q3_ qS_.out 4
          go_wp2
          go_meet
          case rel => exact ⟨_, (true), (by first | rfl | (simp; done) | (simp [*]; done)), H', ⟨by first | omega | exact Nat.le_refl _⟩, ⟨by (with_reducible repeat (first | refine q9_ ?_ _ | refine qz_ ?_ | refine q8_ ?_ _)); exact qS_.out⟩, ⟨by repeat (first | (with_reducible first | exact HB.out | apply q6_ | apply q5_ | apply q7_ | refine qq_ ?_ jw_.out) | exact HB.out)⟩⟩
         ·
          rw [if_neg c64] at H
          have pJ_ : decide (z1_ < 4) = false := decide_eq_false c64
          clear c64
          by_cases c66 : (z2_.length : Int) > 0
          ·
           rw [if_pos c66] at H
           have pZ_ : decide (0 < (z2_.length : Int)) = true := decide_eq_true c66
           have pQ_ : decide (0 < z2_.length) = true := decide_eq_true (by omega)
           clear c66
           have H' := q0_.mk H
           clear H
           have H0_ : w3.cell? ⟨z6_, 0, none⟩ = some (.int .i64 z1_) := (q1_ qS_.out 0).trans rfl
           have hS_ : w3.cell? ⟨z6_, 1, none⟩ = some (.bool false) := (q1_ qS_.out 1).trans rfl
           have hs_ : w3.cell? ⟨z6_, 2, none⟩ = some (.string z3_) := (q1_ qS_.out 2).trans rfl
           have hR_ : w3.cell? ⟨z6_, 3, none⟩ = some (.slice zj_ z0_.length z9_) := (q1_ qS_.out 3).trans rfl
           have hr_ : w3.cell? ⟨z6_, 4, none⟩ = some (.slice zz_ z2_.length zq_) := (q1_ qS_.out 4).trans rfl
           have g5_ := q3_ qS_.out 0
           have g4_ := q3_ qS_.out 1
           have g3_ := q3_ qS_.out 2
           have g2_ := q3_ qS_.out 3
           have g1_ := q3_ qS_.out 4
           go_wp2
           go_meet
           case rel => exact ⟨_, ((z1_ != 5)), (by first | rfl | (simp; done) | (simp [*]; done)), H', ⟨by first | omega | exact Nat.le_refl _⟩, ⟨by (with_reducible repeat (first | refine q9_ ?_ _ | refine qz_ ?_ | refine q8_ ?_ _)); exact qS_.out⟩, ⟨by repeat (first | (with_reducible first | exact HB.out | apply q6_ | apply q5_ | apply q7_ | refine qq_ ?_ jw_.out) | exact HB.out)⟩⟩
          ·
           rw [if_neg c66] at H
           have pZ_ : decide (0 < (z2_.length : Int)) = false := decide_eq_false c66
           have pQ_ : decide (0 < z2_.length) = false := decide_eq_false (by omega)
           clear c66
           have H' := q0_.mk H
           clear H
           have hP_ : w3.cell? ⟨z6_, 0, none⟩ = some (.int .i64 z1_) := (q1_ qS_.out 0).trans rfl
           have hp_ : w3.cell? ⟨z6_, 1, none⟩ = some (.bool false) := (q1_ qS_.out 1).trans rfl
           have hD_ : w3.cell? ⟨z6_, 2, none⟩ = some (.string z3_) := (q1_ qS_.out 2).trans rfl
           have hd_ : w3.cell? ⟨z6_, 3, none⟩ = some (.slice zj_ z0_.length z9_) := (q1_ qS_.out 3).trans rfl
           have hB_ : w3.cell? ⟨z6_, 4, none⟩ = some (.slice zz_ z2_.length zq_) := (q1_ qS_.out 4).trans rfl
           have g0_ := q3_ qS_.out 0
           have WS_ := q3_ qS_.out 1
           have Ws_ := q3_ qS_.out 2
           have WR_ := q3_ qS_.out 3
           have Wr_ := q3_ qS_.out 4
           go_wp2
           go_meet
           case rel => exact ⟨_, (false), (by first | rfl | (simp; done) | (simp [*]; done)), H', ⟨by first | omega | exact Nat.le_refl _⟩, ⟨by (with_reducible repeat (first | refine q9_ ?_ _ | refine qz_ ?_ | refine q8_ ?_ _)); exact qS_.out⟩, ⟨by repeat (first | (with_reducible first | exact HB.out | apply q6_ | apply q5_ | apply q7_ | refine qq_ ?_ jw_.out) | exact HB.out)⟩⟩
        ·
         rw [if_neg c63] at H
         have pK_ : decide (0 < (z0_.length : Int)) = false := decide_eq_false c63
         have pX_ : decide (0 < z0_.length) = false := decide_eq_false (by omega)
         clear c63
         by_cases c69 : (z2_.length : Int) > 0
         ·
          rw [if_pos c69] at H
          have pw_ : decide (0 < (z2_.length : Int)) = true := decide_eq_true c69
          have pv_ : decide (0 < z2_.length) = true := decide_eq_true (by omega)
          clear c69
          have H' := q0_.mk H
          clear H
          have hF_ : w3.cell? ⟨z6_, 0, none⟩ = some (.int .i64 z1_) := (q1_ qS_.out 0).trans rfl
          have hf_ : w3.cell? ⟨z6_, 1, none⟩ = some (.bool false) := (q1_ qS_.out 1).trans rfl
          have hH_ : w3.cell? ⟨z6_, 2, none⟩ = some (.string z3_) := (q1_ qS_.out 2).trans rfl
          have hh_ : w3.cell? ⟨z6_, 3, none⟩ = some (.slice zj_ z0_.length z9_) := (q1_ qS_.out 3).trans rfl
          have hG_ : w3.cell? ⟨z6_, 4, none⟩ = some (.slice zz_ z2_.length zq_) := (q1_ qS_.out 4).trans rfl
          have WP_ := q3_ qS_.out 0
          have Wp_ := q3_ qS_.out 1
          have WD_ := q3_ qS_.out 2
          have Wd_ := q3_ qS_.out 3
          have WB_ := q3_ qS_.out 4
          go_wp2
          go_meet
          case rel => exact ⟨_, ((z1_ != 5)), (by first | rfl | (simp; done) | (simp [*]; done)), H', ⟨by first | omega | exact Nat.le_refl _⟩, ⟨by (with_reducible repeat (first | refine q9_ ?_ _ | refine qz_ ?_ | refine q8_ ?_ _)); exact qS_.out⟩, ⟨by repeat (first | (with_reducible first | exact HB.out | apply q6_ | apply q5_ | apply q7_ | refine qq_ ?_ jw_.out) | exact HB.out)⟩⟩
         ·
          rw [if_neg c69] at H
          have pw_ : decide (0 < (z2_.length : Int)) = false := decide_eq_false c69
          have pv_ : decide (0 < z2_.length) = false := decide_eq_false (by omega)
          clear c69
          have H' := q0_.mk H
          clear H
          have hW_ : w3.cell? ⟨z6_, 0, none⟩ = some (.int .i64 z1_) := (q1_ qS_.out 0).trans rfl
          have hV_ : w3.cell? ⟨z6_, 1, none⟩ = some (.bool false) := (q1_ qS_.out 1).trans rfl
          have hY_ : w3.cell? ⟨z6_, 2, none⟩ = some (.string z3_) := (q1_ qS_.out 2).trans rfl
          have hK_ : w3.cell? ⟨z6_, 3, none⟩ = some (.slice zj_ z0_.length z9_) := (q1_ qS_.out 3).trans rfl
          have hX_ : w3.cell? ⟨z6_, 4, none⟩ = some (.slice zz_ z2_.length zq_) := (q1_ qS_.out 4).trans rfl
          have Wb_ := q3_ qS_.out 0
          have WF_ := q3_ qS_.out 1
          have Wf_ := q3_ qS_.out 2
          have WH_ := q3_ qS_.out 3
          have Wh_ := q3_ qS_.out 4
          go_wp2
          go_meet
          case rel => exact ⟨_, (false), (by first | rfl | (simp; done) | (simp [*]; done)), H', ⟨by first | omega | exact Nat.le_refl _⟩, ⟨by (with_reducible repeat (first | refine q9_ ?_ _ | refine qz_ ?_ | refine q8_ ?_ _)); exact qS_.out⟩, ⟨by repeat (first | (with_reducible first | exact HB.out | apply q6_ | apply q5_ | apply q7_ | refine qq_ ?_ jw_.out) | exact HB.out)⟩⟩
       ·
        rw [if_neg c62] at H
        have pV_ : (z1_ == 3) = false := beq_eq_false_iff_ne.mpr c62
        have pY_ : (z1_ != 3) = true := bne_iff_ne.mpr c62
        have H' := q0_.mk H
        clear H
        have hJ_ : w3.cell? ⟨z6_, 0, none⟩ = some (.int .i64 z1_) := (q1_ qS_.out 0).trans rfl
        have hZ_ : w3.cell? ⟨z6_, 1, none⟩ = some (.bool false) := (q1_ qS_.out 1).trans rfl
        have hQ_ : w3.cell? ⟨z6_, 2, none⟩ = some (.string z3_) := (q1_ qS_.out 2).trans rfl
        have hv_ : w3.cell? ⟨z6_, 3, none⟩ = some (.slice zj_ z0_.length z9_) := (q1_ qS_.out 3).trans rfl
        have hy_ : w3.cell? ⟨z6_, 4, none⟩ = some (.slice zz_ z2_.length zq_) := (q1_ qS_.out 4).trans rfl
        have WG_ := q3_ qS_.out 0
        have Wg_ := q3_ qS_.out 1
        have WW_ := q3_ qS_.out 2
        have WV_ := q3_ qS_.out 3
        have WY_ := q3_ qS_.out 4
        go_wp2
        go_meet
        case rel => exact ⟨_, (true), (by first | rfl | (simp; done) | (simp [*]; done)), H', ⟨by first | omega | exact Nat.le_refl _⟩, ⟨by (with_reducible repeat (first | refine q9_ ?_ _ | refine qz_ ?_ | refine q8_ ?_ _)); exact qS_.out⟩, ⟨by repeat (first | (with_reducible first | exact HB.out | apply q6_ | apply q5_ | apply q7_ | refine qq_ ?_ jw_.out) | exact HB.out)⟩⟩
 case rest =>
  clear HC2
  try clear c2
  try clear p2
  try clear c3
  try clear c4
  try clear c5
  try clear c6
  try clear c8
  try clear c9
  try clear r3_
  try clear c9b1
  try clear c20
  try clear Px_
  try clear Pj_
  try clear c21
  try clear ZF_
  try clear Vv_
  try clear c24
  try clear Pz_
  try clear Pq_
  try clear c27
  try clear bV_
  try clear P9_
  try clear c30
  try clear P8_
  try clear P7_
  try clear c31
  try clear P6_
  try clear P5_
  try clear c32
  try clear bY_
  try clear c34
  try clear P4_
  try clear P3_
  try clear c37
  try clear P2_
  try clear P1_
  try clear c42
  try clear P0_
  try clear pS_
  try clear c43
  try clear ps_
  try clear pR_
  try clear c44
  try clear pr_
  try clear c46
  try clear pP_
  try clear pp_
  try clear c49
  try clear pD_
  try clear pd_
  try clear c52
  try clear pB_
  try clear pb_
  try clear c53
  try clear pF_
  try clear pf_
  try clear c54
  try clear pH_
  try clear c56
  try clear ph_
  try clear pG_
  try clear c59
  try clear pg_
  try clear pW_
  try clear c62
  try clear pV_
  try clear pY_
  try clear c63
  try clear pK_
  try clear pX_
  try clear c64
  try clear pJ_
  try clear c66
  try clear pZ_
  try clear pQ_
  try clear c69
  try clear pw_
  try clear pv_
  try clear yR_
  try clear yr_
  try clear yP_
  try clear fs_
  try clear fR_
  try clear fr_
  try clear fP_
  try clear fp_
  try clear ZG_
  try clear Zg_
  try clear ZW_
  try clear ZV_
  try clear ZY_
  try clear w5_
  try clear w4_
  try clear w3_
  try clear w2_
  try clear w1_
  try clear XD_
  try clear Xd_
  try clear XB_
  try clear Xb_
  try clear XF_
  try clear Yg_
  try clear YW_
  try clear YV_
  try clear YY_
  try clear YK_
  try clear fD_
  try clear fd_
  try clear fB_
  try clear fb_
  try clear fF_
  try clear ff_
  try clear fH_
  try clear fh_
  try clear fG_
  try clear fg_
  try clear YX_
  try clear YJ_
  try clear YZ_
  try clear YQ_
  try clear Yw_
  try clear fW_
  try clear fV_
  try clear fY_
  try clear fK_
  try clear fX_
  try clear Yv_
  try clear Yy_
  try clear Yk_
  try clear Yx_
  try clear Yj_
  try clear fJ_
  try clear fZ_
  try clear fQ_
  try clear fw_
  try clear fv_
  try clear fy_
  try clear fk_
  try clear fx_
  try clear fj_
  try clear fz_
  try clear fq_
  try clear f9_
  try clear f8_
  try clear f7_
  try clear f6_
  try clear f0_
  try clear HS_
  try clear Hs_
  try clear HR_
  try clear Hr_
  try clear HP_
  try clear Hp_
  try clear HD_
  try clear Hd_
  try clear HB_
  try clear Hb_
  try clear HF_
  try clear Hf_
  try clear HH_
  try clear Hh_
  try clear HG_
  try clear Hg_
  try clear HV_
  try clear HY_
  try clear HK_
  try clear HX_
  try clear HJ_
  try clear HZ_
  try clear HQ_
  try clear Hw_
  try clear Hv_
  try clear Hy_
  try clear Hk_
  try clear Hx_
  try clear Hj_
  try clear Hz_
  try clear Hq_
  try clear H9_
  try clear H8_
  try clear H7_
  try clear H6_
  try clear H5_
  try clear H4_
  try clear H3_
  try clear H1_
  try clear H0_
  try clear hS_
  try clear hs_
  try clear hR_
  try clear hr_
  try clear hP_
  try clear hp_
  try clear hD_
  try clear hd_
  try clear hB_
  try clear hF_
  try clear hf_
  try clear hH_
  try clear hh_
  try clear hG_
  try clear hW_
  try clear hV_
  try clear hY_
  try clear hK_
  try clear hX_
  try clear hJ_
  try clear hZ_
  try clear hQ_
  try clear hv_
  try clear hy_
  try clear yg_
  try clear yW_
  try clear yV_
  try clear yY_
  try clear yK_
  try clear Gr_
  try clear GP_
  try clear Gp_
  try clear GD_
  try clear Gd_
  try clear ZK_
  try clear ZX_
  try clear ZJ_
  try clear ZZ_
  try clear ZQ_
  try clear vG_
  try clear vg_
  try clear vW_
  try clear vV_
  try clear vY_
  try clear Xq_
  try clear X9_
  try clear X8_
  try clear X7_
  try clear X6_
  try clear Y1_
  try clear Y0_
  try clear KS_
  try clear Ks_
  try clear KR_
  try clear GB_
  try clear Gb_
  try clear GF_
  try clear Gf_
  try clear GH_
  try clear Gh_
  try clear GG_
  try clear Gg_
  try clear GW_
  try clear GV_
  try clear Kr_
  try clear KP_
  try clear Kp_
  try clear KD_
  try clear Kd_
  try clear GY_
  try clear GK_
  try clear GX_
  try clear GJ_
  try clear GZ_
  try clear KB_
  try clear Kb_
  try clear KF_
  try clear Kf_
  try clear KH_
  try clear GQ_
  try clear Gw_
  try clear Gv_
  try clear Gy_
  try clear Gk_
  try clear Gx_
  try clear Gj_
  try clear Gz_
  try clear Gq_
  try clear G9_
  try clear G8_
  try clear G7_
  try clear G6_
  try clear G5_
  try clear G4_
  try clear G3_
  try clear G2_
  try clear G1_
  try clear G0_
  try clear gS_
  try clear gs_
  try clear gR_
  try clear gr_
  try clear gP_
  try clear gp_
  try clear gD_
  try clear gd_
  try clear gB_
  try clear gb_
  try clear gF_
  try clear gf_
  try clear gH_
  try clear gh_
  try clear gG_
  try clear gg_
  try clear gW_
  try clear gV_
  try clear gY_
  try clear gK_
  try clear gX_
  try clear gJ_
  try clear gZ_
  try clear gQ_
  try clear gw_
  try clear gv_
  try clear gy_
  try clear gk_
  try clear gx_
  try clear gj_
  try clear gz_
  try clear gq_
  try clear g9_
  try clear g8_
  try clear g7_
  try clear g6_
  try clear g5_
  try clear g4_
  try clear g3_
  try clear g2_
  try clear g1_
  try clear g0_
  try clear WS_
  try clear Ws_
  try clear WR_
  try clear Wr_
  try clear WP_
  try clear Wp_
  try clear WD_
  try clear Wd_
  try clear WB_
  try clear Wb_
  try clear WF_
  try clear Wf_
  try clear WH_
  try clear Wh_
  try clear WG_
  try clear Wg_
  try clear WW_
  try clear WV_
  try clear WY_
  obtain ⟨kq, Ds_, rfl, HA, HJ1, qS_, HB⟩ := hcut
  cases kq with
  | zero => exact absurd HA.out (by simp [colophonref10_May.j0])
  | succ kj1 =>
   have H := HA.out
   clear HA
   simp only [colophonref10_May.j0] at H
   by_cases c73 : Ds_ = true
   ·
    subst c73
    have H1 : (some false) = some r := by rw [if_pos rfl] at H; exact H
    clear H
    have H := H1
    clear H1
    obtain rfl := Option.some.inj H
    go_wp2
    go_ret
    exact ⟨by first | rfl | (simp [qk_, qy_] <;> rfl) | (simp [qk_, qy_] <;> decide +kernel) | (simp [*, qk_, qy_] <;> rfl), by repeat (first | (with_reducible first | exact HB.out | apply q6_ | apply q5_ | apply q7_ | refine qq_ ?_ jw_.out) | exact HB.out)⟩
   ·
    replace c73 := Bool.eq_false_iff.mpr c73
    subst c73
    have H1 : (if z1_ = 5 then (colophonref10_May.j1 kj1 ((z2_.length : Int) != (z0_.length : Int)) z1_ z5_ z3_ z0_ z2_) else (colophonref10_May.j1 kj1 false z1_ z5_ z3_ z0_ z2_)) = some r := by rw [if_neg (show ¬ (false = true) by decide)] at H; exact H
    clear H
    have H := H1
    clear H1
    have HC74 := q0_.mk H
    clear H
    go_upto_region 3 with (fail)
    go_cut [69] (fun v69 wc => ∃ (kq : Nat) (b5_ : Bool), v69 = .bool b5_ ∧ q0_ (colophonref10_May.j1 kq b5_ z1_ z5_ z3_ z0_ z2_ = some r) ∧ q0_ (kq ≤ kj1) ∧ q0_ (wc.heap[z6_]? = some (.cells #[.int .i64 z1_, .bool z5_, .string z3_, (.slice zj_ z0_.length z9_), (.slice zz_ z2_.length zq_)] 25 (0, 0))) ∧ q0_ (Below w.heap.size w wc))
    case first =>
     have H := HC74.out
     clear HC74
     by_cases c75 : z1_ = 5
     ·
      rw [if_pos c75] at H
      have Fk_ : (z1_ == 5) = true := beq_iff_eq.mpr c75
      have c75b1 : (z1_ != 5) = false := bne_eq_false_iff_eq.mpr c75
      clear c75
      (first | rw [Fk_] | (simp only [i64_w, i32_w]; rw [Fk_]) | skip)
      have H' := q0_.mk H
      clear H
      have dX_ : wc.cell? ⟨z6_, 0, none⟩ = some (.int .i64 z1_) := (q1_ qS_.out 0).trans rfl
      have dJ_ : wc.cell? ⟨z6_, 1, none⟩ = some (.bool z5_) := (q1_ qS_.out 1).trans rfl
      have dZ_ : wc.cell? ⟨z6_, 2, none⟩ = some (.string z3_) := (q1_ qS_.out 2).trans rfl
      have dQ_ : wc.cell? ⟨z6_, 3, none⟩ = some (.slice zj_ z0_.length z9_) := (q1_ qS_.out 3).trans rfl
      have dw_ : wc.cell? ⟨z6_, 4, none⟩ = some (.slice zz_ z2_.length zq_) := (q1_ qS_.out 4).trans rfl
      have Br_ := q3_ qS_.out 0
      have BP_ := q3_ qS_.out 1
      have Bp_ := q3_ qS_.out 2
      have BD_ := q3_ qS_.out 3
      have Bd_ := q3_ qS_.out 4
      go_wp2
      go_meet
      case rel => exact ⟨_, (((z2_.length : Int) != (z0_.length : Int))), (by first | rfl | (simp; done) | (simp [*]; done)), H', ⟨by have := HJ1.out; first | omega | exact Nat.le_refl _⟩, ⟨by (with_reducible repeat (first | refine q9_ ?_ _ | refine qz_ ?_ | refine q8_ ?_ _)); exact qS_.out⟩, ⟨by repeat (first | (with_reducible first | exact HB.out | apply q6_ | apply q5_ | apply q7_ | refine qq_ ?_ jw_.out) | exact HB.out)⟩⟩
     ·
      rw [if_neg c75] at H
      have Fk_ : (z1_ == 5) = false := beq_eq_false_iff_ne.mpr c75
      have c75b1 : (z1_ != 5) = true := bne_iff_ne.mpr c75
      (first | rw [Fk_] | (simp only [i64_w, i32_w]; rw [Fk_]) | skip)
      have H' := q0_.mk H
      clear H
      have dv_ : wc.cell? ⟨z6_, 0, none⟩ = some (.int .i64 z1_) := (q1_ qS_.out 0).trans rfl
      have dy_ : wc.cell? ⟨z6_, 1, none⟩ = some (.bool z5_) := (q1_ qS_.out 1).trans rfl
      have dk_ : wc.cell? ⟨z6_, 2, none⟩ = some (.string z3_) := (q1_ qS_.out 2).trans rfl
      have dx_ : wc.cell? ⟨z6_, 3, none⟩ = some (.slice zj_ z0_.length z9_) := (q1_ qS_.out 3).trans rfl
      have dj_ : wc.cell? ⟨z6_, 4, none⟩ = some (.slice zz_ z2_.length zq_) := (q1_ qS_.out 4).trans rfl
      have BB_ := q3_ qS_.out 0
      have Bb_ := q3_ qS_.out 1
      have BF_ := q3_ qS_.out 2
      have Bf_ := q3_ qS_.out 3
      have BH_ := q3_ qS_.out 4
      go_wp2
      go_meet
      case rel => exact ⟨_, (false), (by first | rfl | (simp; done) | (simp [*]; done)), H', ⟨by have := HJ1.out; first | omega | exact Nat.le_refl _⟩, ⟨by (with_reducible repeat (first | refine q9_ ?_ _ | refine qz_ ?_ | refine q8_ ?_ _)); exact qS_.out⟩, ⟨by repeat (first | (with_reducible first | exact HB.out | apply q6_ | apply q5_ | apply q7_ | refine qq_ ?_ jw_.out) | exact HB.out)⟩⟩
    case rest =>
     clear HC74
     try clear c2
     try clear p2
     try clear c3
     try clear c4
     try clear c5
     try clear c6
     try clear c7
     try clear c8
     try clear c9
     try clear r3_
     try clear c9b1
     try clear c20
     try clear Px_
     try clear Pj_
     try clear c21
     try clear ZF_
     try clear Vv_
     try clear c24
     try clear Pz_
     try clear Pq_
     try clear c27
     try clear bV_
     try clear P9_
     try clear c30
     try clear P8_
     try clear P7_
     try clear c31
     try clear P6_
     try clear P5_
     try clear c32
     try clear bY_
     try clear c34
     try clear P4_
     try clear P3_
     try clear c37
     try clear P2_
     try clear P1_
     try clear c42
     try clear P0_
     try clear pS_
     try clear c43
     try clear ps_
     try clear pR_
     try clear c44
     try clear pr_
     try clear c46
     try clear pP_
     try clear pp_
     try clear c49
     try clear pD_
     try clear pd_
     try clear c52
     try clear pB_
     try clear pb_
     try clear c53
     try clear pF_
     try clear pf_
     try clear c54
     try clear pH_
     try clear c56
     try clear ph_
     try clear pG_
     try clear c59
     try clear pg_
     try clear pW_
     try clear c62
     try clear pV_
     try clear pY_
     try clear c63
     try clear pK_
     try clear pX_
     try clear c64
     try clear pJ_
     try clear c66
     try clear pZ_
     try clear pQ_
     try clear c69
     try clear pw_
     try clear pv_
     try clear c73
     try clear c75
     try clear Fk_
     try clear c75b1
     try clear yR_
     try clear yr_
     try clear yP_
     try clear fs_
     try clear fR_
     try clear fr_
     try clear fP_
     try clear fp_
     try clear ZG_
     try clear Zg_
     try clear ZW_
     try clear ZV_
     try clear ZY_
     try clear w5_
     try clear w4_
     try clear w3_
     try clear w2_
     try clear w1_
     try clear XD_
     try clear Xd_
     try clear XB_
     try clear Xb_
     try clear XF_
     try clear Yg_
     try clear YW_
     try clear YV_
     try clear YY_
     try clear YK_
     try clear fD_
     try clear fd_
     try clear fB_
     try clear fb_
     try clear fF_
     try clear ff_
     try clear fH_
     try clear fh_
     try clear fG_
     try clear fg_
     try clear YX_
     try clear YJ_
     try clear YZ_
     try clear YQ_
     try clear Yw_
     try clear fW_
     try clear fV_
     try clear fY_
     try clear fK_
     try clear fX_
     try clear Yv_
     try clear Yy_
     try clear Yk_
     try clear Yx_
     try clear Yj_
     try clear fJ_
     try clear fZ_
     try clear fQ_
     try clear fw_
     try clear fv_
     try clear fy_
     try clear fk_
     try clear fx_
     try clear fj_
     try clear fz_
     try clear fq_
     try clear f9_
     try clear f8_
     try clear f7_
     try clear f6_
     try clear f0_
     try clear HS_
     try clear Hs_
     try clear HR_
     try clear Hr_
     try clear HP_
     try clear Hp_
     try clear HD_
     try clear Hd_
     try clear HB_
     try clear Hb_
     try clear HF_
     try clear Hf_
     try clear HH_
     try clear Hh_
     try clear HG_
     try clear Hg_
     try clear HV_
     try clear HY_
     try clear HK_
     try clear HX_
     try clear HJ_
     try clear HZ_
     try clear HQ_
     try clear Hw_
     try clear Hv_
     try clear Hy_
     try clear Hk_
     try clear Hx_
     try clear Hj_
     try clear Hz_
     try clear Hq_
     try clear H9_
     try clear H8_
     try clear H7_
     try clear H6_
     try clear H5_
     try clear H4_
     try clear H3_
     try clear H1_
     try clear H0_
     try clear hS_
     try clear hs_
     try clear hR_
     try clear hr_
     try clear hP_
     try clear hp_
     try clear hD_
     try clear hd_
     try clear hB_
     try clear hF_
     try clear hf_
     try clear hH_
     try clear hh_
     try clear hG_
     try clear hW_
     try clear hV_
     try clear hY_
     try clear hK_
     try clear hX_
     try clear hJ_
     try clear hZ_
     try clear hQ_
     try clear hv_
     try clear hy_
     try clear dX_
     try clear dJ_
     try clear dZ_
     try clear dQ_
     try clear dw_
     try clear dv_
     try clear dy_
     try clear dk_
     try clear dx_
     try clear dj_
     try clear yg_
     try clear yW_
     try clear yV_
     try clear yY_
     try clear yK_
     try clear Gr_
     try clear GP_
     try clear Gp_
     try clear GD_
     try clear Gd_
     try clear ZK_
     try clear ZX_
     try clear ZJ_
     try clear ZZ_
     try clear ZQ_
     try clear vG_
     try clear vg_
     try clear vW_
     try clear vV_
     try clear vY_
     try clear Xq_
     try clear X9_
     try clear X8_
     try clear X7_
     try clear X6_
     try clear Y1_
     try clear Y0_
     try clear KS_
     try clear Ks_
     try clear KR_
     try clear GB_
     try clear Gb_
     try clear GF_
     try clear Gf_
     try clear GH_
     try clear Gh_
     try clear GG_
     try clear Gg_
     try clear GW_
     try clear GV_
     try clear Kr_
     try clear KP_
     try clear Kp_
     try clear KD_
     try clear Kd_
     try clear GY_
     try clear GK_
     try clear GX_
     try clear GJ_
     try clear GZ_
     try clear KB_
     try clear Kb_
     try clear KF_
     try clear Kf_
     try clear KH_
     try clear GQ_
     try clear Gw_
     try clear Gv_
     try clear Gy_
     try clear Gk_
     try clear Gx_
     try clear Gj_
     try clear Gz_
     try clear Gq_
     try clear G9_
     try clear G8_
     try clear G7_
     try clear G6_
     try clear G5_
     try clear G4_
     try clear G3_
     try clear G2_
     try clear G1_
     try clear G0_
     try clear gS_
     try clear gs_
     try clear gR_
     try clear gr_
     try clear gP_
     try clear gp_
     try clear gD_
     try clear gd_
     try clear gB_
     try clear gb_
     try clear gF_
     try clear gf_
     try clear gH_
     try clear gh_
     try clear gG_
     try clear gg_
     try clear gW_
     try clear gV_
     try clear gY_
     try clear gK_
     try clear gX_
     try clear gJ_
     try clear gZ_
     try clear gQ_
     try clear gw_
     try clear gv_
     try clear gy_
     try clear gk_
     try clear gx_
     try clear gj_
     try clear gz_
     try clear gq_
     try clear g9_
     try clear g8_
     try clear g7_
     try clear g6_
     try clear g5_
     try clear g4_
     try clear g3_
     try clear g2_
     try clear g1_
     try clear g0_
     try clear WS_
     try clear Ws_
     try clear WR_
     try clear Wr_
     try clear WP_
     try clear Wp_
     try clear WD_
     try clear Wd_
     try clear WB_
     try clear Wb_
     try clear WF_
     try clear Wf_
     try clear WH_
     try clear Wh_
     try clear WG_
     try clear Wg_
     try clear WW_
     try clear WV_
     try clear WY_
     try clear Br_
     try clear BP_
     try clear Bp_
     try clear BD_
     try clear Bd_
     try clear BB_
     try clear Bb_
     try clear BF_
     try clear Bf_
     try clear BH_
     try clear p2
     obtain ⟨kq, b5_, rfl, HA, HJ73, qS_, HB⟩ := hcut
     cases kq with
     | zero => exact absurd HA.out (by simp [colophonref10_May.j1])
     | succ kj73 =>
      have H := HA.out
      clear HA
      simp only [colophonref10_May.j1] at H
      by_cases c78 : b5_ = true
      ·
       subst c78
       have H1 : (some false) = some r := by rw [if_pos rfl] at H; exact H
       clear H
       have H := H1
       clear H1
       obtain rfl := Option.some.inj H
       go_wp2
       go_ret
       exact ⟨by first | rfl | (simp [qk_, qy_] <;> rfl) | (simp [qk_, qy_] <;> decide +kernel) | (simp [*, qk_, qy_] <;> rfl), by repeat (first | (with_reducible first | exact HB.out | apply q6_ | apply q5_ | apply q7_ | refine qq_ ?_ jw_.out) | exact HB.out)⟩
      ·
       replace c78 := Bool.eq_false_iff.mpr c78
       subst c78
       have H1 : (colophonref10_May.l0 kj73 0 z1_ z5_ z3_ z0_ z2_) = some r := by rw [if_neg (show ¬ (false = true) by decide)] at H; exact H
       clear H
       have H := H1
       clear H1
       have H' := q0_.mk H
       clear H
       go_wp2
       go_loopg [3] kj73 (fun kq v3 w' => ∃ (vz_ : Int), v3 = .int .i64 vz_ ∧ q0_ (colophonref10_May.l0 kq vz_ z1_ z5_ z3_ z0_ z2_ = some r) ∧ q0_ (kq ≤ kj73) ∧ q0_ (w'.heap[z6_]? = some (.cells #[.int .i64 z1_, .bool z5_, .string z3_, (.slice zj_ z0_.length z9_), (.slice zz_ z2_.length zq_)] 25 (0, 0))) ∧ q0_ (Below w.heap.size w w'))
       case atStart => exact ⟨(0), (by first | rfl | (simp; done) | (simp [*]; done)), H', ⟨Nat.le_refl _⟩, ⟨by (with_reducible repeat (first | refine q9_ ?_ _ | refine qz_ ?_ | refine q8_ ?_ _)); exact qS_.out⟩, ⟨by repeat (first | (with_reducible first | exact HB.out | apply q6_ | apply q5_ | apply q7_ | refine qq_ ?_ jw_.out) | exact HB.out)⟩⟩
       case round =>
        clear H'
        try clear c2
        try clear p2
        try clear c3
        try clear c4
        try clear c5
        try clear c6
        try clear c7
        try clear c8
        try clear c9
        try clear r3_
        try clear c9b1
        try clear c20
        try clear Px_
        try clear Pj_
        try clear c21
        try clear ZF_
        try clear Vv_
        try clear c24
        try clear Pz_
        try clear Pq_
        try clear c27
        try clear bV_
        try clear P9_
        try clear c30
        try clear P8_
        try clear P7_
        try clear c31
        try clear P6_
        try clear P5_
        try clear c32
        try clear bY_
        try clear c34
        try clear P4_
        try clear P3_
        try clear c37
        try clear P2_
        try clear P1_
        try clear c42
        try clear P0_
        try clear pS_
        try clear c43
        try clear ps_
        try clear pR_
        try clear c44
        try clear pr_
        try clear c46
        try clear pP_
        try clear pp_
        try clear c49
        try clear pD_
        try clear pd_
        try clear c52
        try clear pB_
        try clear pb_
        try clear c53
        try clear pF_
        try clear pf_
        try clear c54
        try clear pH_
        try clear c56
        try clear ph_
        try clear pG_
        try clear c59
        try clear pg_
        try clear pW_
        try clear c62
        try clear pV_
        try clear pY_
        try clear c63
        try clear pK_
        try clear pX_
        try clear c64
        try clear pJ_
        try clear c66
        try clear pZ_
        try clear pQ_
        try clear c69
        try clear pw_
        try clear pv_
        try clear c73
        try clear c75
        try clear Fk_
        try clear c75b1
        try clear c78
        try clear yR_
        try clear yr_
        try clear yP_
        try clear fs_
        try clear fR_
        try clear fr_
        try clear fP_
        try clear fp_
        try clear ZG_
        try clear Zg_
        try clear ZW_
        try clear ZV_
        try clear ZY_
        try clear w5_
        try clear w4_
        try clear w3_
        try clear w2_
        try clear w1_
        try clear XD_
        try clear Xd_
        try clear XB_
        try clear Xb_
        try clear XF_
        try clear Yg_
        try clear YW_
        try clear YV_
        try clear YY_
        try clear YK_
        try clear fD_
        try clear fd_
        try clear fB_
        try clear fb_
        try clear fF_
        try clear ff_
        try clear fH_
        try clear fh_
        try clear fG_
        try clear fg_
        try clear YX_
        try clear YJ_
        try clear YZ_
        try clear YQ_
        try clear Yw_
        try clear fW_
        try clear fV_
        try clear fY_
        try clear fK_
        try clear fX_
        try clear Yv_
        try clear Yy_
        try clear Yk_
        try clear Yx_
        try clear Yj_
        try clear fJ_
        try clear fZ_
        try clear fQ_
        try clear fw_
        try clear fv_
        try clear fy_
        try clear fk_
        try clear fx_
        try clear fj_
        try clear fz_
        try clear fq_
        try clear f9_
        try clear f8_
        try clear f7_
        try clear f6_
        try clear f0_
        try clear HS_
        try clear Hs_
        try clear HR_
        try clear Hr_
        try clear HP_
        try clear Hp_
        try clear HD_
        try clear Hd_
        try clear HB_
        try clear Hb_
        try clear HF_
        try clear Hf_
        try clear HH_
        try clear Hh_
        try clear HG_
        try clear Hg_
        try clear HV_
        try clear HY_
        try clear HK_
        try clear HX_
        try clear HJ_
        try clear HZ_
        try clear HQ_
        try clear Hw_
        try clear Hv_
        try clear Hy_
        try clear Hk_
        try clear Hx_
        try clear Hj_
        try clear Hz_
        try clear Hq_
        try clear H9_
        try clear H8_
        try clear H7_
        try clear H6_
        try clear H5_
        try clear H4_
        try clear H3_
        try clear H1_
        try clear H0_
        try clear hS_
        try clear hs_
        try clear hR_
        try clear hr_
        try clear hP_
        try clear hp_
        try clear hD_
        try clear hd_
        try clear hB_
        try clear hF_
        try clear hf_
        try clear hH_
        try clear hh_
        try clear hG_
        try clear hW_
        try clear hV_
        try clear hY_
        try clear hK_
        try clear hX_
        try clear hJ_
        try clear hZ_
        try clear hQ_
        try clear hv_
        try clear hy_
        try clear dX_
        try clear dJ_
        try clear dZ_
        try clear dQ_
        try clear dw_
        try clear dv_
        try clear dy_
        try clear dk_
        try clear dx_
        try clear dj_
        try clear yg_
        try clear yW_
        try clear yV_
        try clear yY_
        try clear yK_
        try clear Gr_
        try clear GP_
        try clear Gp_
        try clear GD_
        try clear Gd_
        try clear ZK_
        try clear ZX_
        try clear ZJ_
        try clear ZZ_
        try clear ZQ_
        try clear vG_
        try clear vg_
        try clear vW_
        try clear vV_
        try clear vY_
        try clear Xq_
        try clear X9_
        try clear X8_
        try clear X7_
        try clear X6_
        try clear Y1_
        try clear Y0_
        try clear KS_
        try clear Ks_
        try clear KR_
        try clear GB_
        try clear Gb_
        try clear GF_
        try clear Gf_
        try clear GH_
        try clear Gh_
        try clear GG_
        try clear Gg_
        try clear GW_
        try clear GV_
        try clear Kr_
        try clear KP_
        try clear Kp_
        try clear KD_
        try clear Kd_
        try clear GY_
        try clear GK_
        try clear GX_
        try clear GJ_
        try clear GZ_
        try clear KB_
        try clear Kb_
        try clear KF_
        try clear Kf_
        try clear KH_
        try clear GQ_
        try clear Gw_
        try clear Gv_
        try clear Gy_
        try clear Gk_
        try clear Gx_
        try clear Gj_
        try clear Gz_
        try clear Gq_
        try clear G9_
        try clear G8_
        try clear G7_
        try clear G6_
        try clear G5_
        try clear G4_
        try clear G3_
        try clear G2_
        try clear G1_
        try clear G0_
        try clear gS_
        try clear gs_
        try clear gR_
        try clear gr_
        try clear gP_
        try clear gp_
        try clear gD_
        try clear gd_
        try clear gB_
        try clear gb_
        try clear gF_
        try clear gf_
        try clear gH_
        try clear gh_
        try clear gG_
        try clear gg_
        try clear gW_
        try clear gV_
        try clear gY_
        try clear gK_
        try clear gX_
        try clear gJ_
        try clear gZ_
        try clear gQ_
        try clear gw_
        try clear gv_
        try clear gy_
        try clear gk_
        try clear gx_
        try clear gj_
        try clear gz_
        try clear gq_
        try clear g9_
        try clear g8_
        try clear g7_
        try clear g6_
        try clear g5_
        try clear g4_
        try clear g3_
        try clear g2_
        try clear g1_
        try clear g0_
        try clear WS_
        try clear Ws_
        try clear WR_
        try clear Wr_
        try clear WP_
        try clear Wp_
        try clear WD_
        try clear Wd_
        try clear WB_
        try clear Wb_
        try clear WF_
        try clear Wf_
        try clear WH_
        try clear Wh_
        try clear WG_
        try clear Wg_
        try clear WW_
        try clear WV_
        try clear WY_
        try clear Br_
        try clear BP_
        try clear Bp_
        try clear BD_
        try clear Bd_
        try clear BB_
        try clear Bb_
        try clear BF_
        try clear Bf_
        try clear BH_
        try clear p2
        obtain ⟨vz_, rfl, HA, HK3, qS_, HB⟩ := hrel
        cases gk with
        | zero => exact absurd HA.out (by simp [colophonref10_May.l0])
        | succ k3 =>
         have H := HA.out
         clear HA
         simp only [colophonref10_May.l0] at H
         by_cases c79 : vz_ < (z0_.length : Int)
         ·
          rw [if_pos c79] at H
          have c79b0 : decide (vz_ < (z0_.length : Int)) = true := decide_eq_true c79
          clear c79
          by_cases c80 : 0 ≤ vz_
          ·
           rw [if_pos c80] at H
           have c80b0 : decide (0 ≤ vz_) = true := decide_eq_true c80
           clear c80
           replace H := Option.bind_eq_some_iff.mp H
           obtain ⟨t240, A810, H⟩ := H
           replace H : (if t240 = true then (colophonref10_May.l0 k3 (wrap64 (vz_ + 1)) z1_ z5_ z3_ z0_ z2_) else (some false)) = some r := H
           have A81 := q0_.mk A810
           clear A810
           by_cases c82 : t240 = true
           ·
            subst c82
            have H1 : (colophonref10_May.l0 k3 (wrap64 (vz_ + 1)) z1_ z5_ z3_ z0_ z2_) = some r := by rw [if_pos rfl] at H; exact H
            clear H
            have H := H1
            clear H1
            have H' := q0_.mk H
            clear H
            have hcz83_0 : wr.cell? ⟨z6_, 0, none⟩ = some (.int .i64 z1_) := (q1_ qS_.out 0).trans rfl
            have hcz83_1 : wr.cell? ⟨z6_, 1, none⟩ = some (.bool z5_) := (q1_ qS_.out 1).trans rfl
            have hcz83_2 : wr.cell? ⟨z6_, 2, none⟩ = some (.string z3_) := (q1_ qS_.out 2).trans rfl
            have hcz83_3 : wr.cell? ⟨z6_, 3, none⟩ = some (.slice zj_ z0_.length z9_) := (q1_ qS_.out 3).trans rfl
            have hcz83_4 : wr.cell? ⟨z6_, 4, none⟩ = some (.slice zz_ z2_.length zq_) := (q1_ qS_.out 4).trans rfl
            have hfz83_0 := q3_ qS_.out 0
            have hfz83_1 := q3_ qS_.out 1
            have hfz83_2 := q3_ qS_.out 2
            have hfz83_3 := q3_ qS_.out 3
            have hfz83_4 := q3_ qS_.out 4
            have R8_ : 0 ≤ (vz_ : Int) := of_decide_eq_true (by first | (with_reducible assumption) | assumption)
            have rR_ : vz_ < (z0_.length : Int) := of_decide_eq_true (by first | (with_reducible assumption) | assumption)
            obtain ⟨ad239, Dv_, dB_, Dy_, db_, e239, Q9_, Q8_, Q7_, Q6_, Q5_, Jz_, JG_, Jq_, Jg_⟩ := at_T25 x3_.out vz_ R8_ rR_
            cases e239
            replace Q9_ := (HB.out.cell (World.block_lt_of_cell? w _ Q9_)).trans Q9_
            replace Q8_ := (HB.out.cell (World.block_lt_of_cell? w _ Q8_)).trans Q8_
            replace Q7_ := (HB.out.cell (World.block_lt_of_cell? w _ Q7_)).trans Q7_
            replace Q6_ := (HB.out.cell (World.block_lt_of_cell? w _ Q6_)).trans Q6_
            replace Q5_ := (HB.out.cell (World.block_lt_of_cell? w _ Q5_)).trans Q5_
            have FQ_ := q0_.mk JG_
            have Fp_ := q0_.mk Jz_
            clear JG_ Jz_
            have Fw_ := q0_.mk Jg_
            have FD_ := q0_.mk Jq_
            clear Jg_ Jq_
            replace R8_ := eq_true R8_
            replace rR_ := eq_true rR_
            go_wp2_with (first | ((with_reducible refine qh_ (f := 38) rfl ?_); refine goesL_ (some 82) rfl rfl Tryd.func38 (by kernel_rfl) rfl #[.agg #[.int .i64 ((qj_ z0_ vz_).f0), .bool ((qj_ z0_ vz_).f1), .string ((qj_ z0_ vz_).f2), .slice Dv_ ((qj_ z0_ vz_).f3).length dB_, .slice Dy_ ((qj_ z0_ vz_).f4).length db_]] rfl (by (try simp only [List.map_toArray, List.map_cons, List.map_nil]); first | done | rfl | (simp only [List.length_drop, List.length_take]; rfl)) ?_; (with_reducible refine (ih k3 (by have := HJ1.out; have := HJ73.out; have := HK3.out; omega) ((qj_ z0_ vz_).f0) ((qj_ z0_ vz_).f1) ((qj_ z0_ vz_).f2) _ _ ((qj_ z0_ vz_).f3) _ _ ((qj_ z0_ vz_).f4) true _ ?zQ_ ?zZ_ ?zY_ ?zK_ A81.out).mono ?_); (case zQ_ => repeat (first | exact (Kd.qD_ FQ_.out HB.out) | (with_reducible refine Kd.qP_ ?_ _) | (with_reducible refine Kd.qr_ ?_ _) | (with_reducible refine Kd.qR_ ?_))); (case zZ_ => exact Fp_.out); (case zY_ => repeat (first | exact (Kd.qD_ Fw_.out HB.out) | (with_reducible refine Kd.qP_ ?_ _) | (with_reducible refine Kd.qr_ ?_ _) | (with_reducible refine Kd.qR_ ?_))); (case zK_ => exact FD_.out); rintro e w84 ⟨rfl, hb⟩; refine ⟨_, rfl, ?_⟩; have n0_ := q0_.mk (q2_ (g := z6_) (o := .cells #[.int .i64 z1_, .bool z5_, .string z3_, .slice (some ad239) z0_.length z9_, .slice zz_ z2_.length zq_] 25 (0, 0)) (by (with_reducible repeat (first | refine q9_ ?_ _ | refine qz_ ?_ | refine q8_ ?_ _)); exact qS_.out) hb); have n1_ := q0_.mk (q4_ (by repeat (first | (with_reducible first | exact HB.out | apply q6_ | apply q5_ | apply q7_ | refine qq_ ?_ jw_.out) | exact HB.out)) hb); clear qS_; clear HB; have qS_ := n0_; have HB := n1_; clear n0_ n1_; (try clear hb); (try clear hb2); (try clear hk); (try clear hi)))
            go_roundg k3
            case measure => have := HJ1.out; have := HJ73.out; have := HK3.out; omega
            case rel => exact ⟨(wrap64 (vz_ + 1)), (by first | rfl | (simp; done) | (simp [*]; done)), H', ⟨by have := HJ1.out; have := HJ73.out; have := HK3.out; omega⟩, ⟨by (with_reducible repeat (first | refine q9_ ?_ _ | refine qz_ ?_ | refine q8_ ?_ _)); exact qS_.out⟩, ⟨by repeat (first | (with_reducible first | exact HB.out | apply q6_ | apply q5_ | apply q7_ | refine qq_ ?_ jw_.out) | exact HB.out)⟩⟩
           ·
            replace c82 := Bool.eq_false_iff.mpr c82
            subst c82
            have H1 : (some false) = some r := by rw [if_neg (show ¬ (false = true) by decide)] at H; exact H
            clear H
            have H := H1
            clear H1
            obtain rfl := Option.some.inj H
            have hcz85_0 : wr.cell? ⟨z6_, 0, none⟩ = some (.int .i64 z1_) := (q1_ qS_.out 0).trans rfl
            have hcz85_1 : wr.cell? ⟨z6_, 1, none⟩ = some (.bool z5_) := (q1_ qS_.out 1).trans rfl
            have hcz85_2 : wr.cell? ⟨z6_, 2, none⟩ = some (.string z3_) := (q1_ qS_.out 2).trans rfl
            have hcz85_3 : wr.cell? ⟨z6_, 3, none⟩ = some (.slice zj_ z0_.length z9_) := (q1_ qS_.out 3).trans rfl
            have hcz85_4 : wr.cell? ⟨z6_, 4, none⟩ = some (.slice zz_ z2_.length zq_) := (q1_ qS_.out 4).trans rfl
            have hfz85_0 := q3_ qS_.out 0
            have hfz85_1 := q3_ qS_.out 1
            have hfz85_2 := q3_ qS_.out 2
            have hfz85_3 := q3_ qS_.out 3
            have hfz85_4 := q3_ qS_.out 4
            have R8_ : 0 ≤ (vz_ : Int) := of_decide_eq_true (by first | (with_reducible assumption) | assumption)
            have rR_ : vz_ < (z0_.length : Int) := of_decide_eq_true (by first | (with_reducible assumption) | assumption)
            obtain ⟨ad239, Dv_, dB_, Dy_, db_, e239, Q9_, Q8_, Q7_, Q6_, Q5_, Jz_, JG_, Jq_, Jg_⟩ := at_T25 x3_.out vz_ R8_ rR_
            cases e239
            replace Q9_ := (HB.out.cell (World.block_lt_of_cell? w _ Q9_)).trans Q9_
            replace Q8_ := (HB.out.cell (World.block_lt_of_cell? w _ Q8_)).trans Q8_
            replace Q7_ := (HB.out.cell (World.block_lt_of_cell? w _ Q7_)).trans Q7_
            replace Q6_ := (HB.out.cell (World.block_lt_of_cell? w _ Q6_)).trans Q6_
            replace Q5_ := (HB.out.cell (World.block_lt_of_cell? w _ Q5_)).trans Q5_
            have FQ_ := q0_.mk JG_
            have Fp_ := q0_.mk Jz_
            clear JG_ Jz_
            have Fw_ := q0_.mk Jg_
            have FD_ := q0_.mk Jq_
            clear Jg_ Jq_
            replace R8_ := eq_true R8_
            replace rR_ := eq_true rR_
            go_wp2_with (first | ((with_reducible refine qh_ (f := 38) rfl ?_); refine goesL_ (some 82) rfl rfl Tryd.func38 (by kernel_rfl) rfl #[.agg #[.int .i64 ((qj_ z0_ vz_).f0), .bool ((qj_ z0_ vz_).f1), .string ((qj_ z0_ vz_).f2), .slice Dv_ ((qj_ z0_ vz_).f3).length dB_, .slice Dy_ ((qj_ z0_ vz_).f4).length db_]] rfl (by (try simp only [List.map_toArray, List.map_cons, List.map_nil]); first | done | rfl | (simp only [List.length_drop, List.length_take]; rfl)) ?_; (with_reducible refine (ih k3 (by have := HJ1.out; have := HJ73.out; have := HK3.out; omega) ((qj_ z0_ vz_).f0) ((qj_ z0_ vz_).f1) ((qj_ z0_ vz_).f2) _ _ ((qj_ z0_ vz_).f3) _ _ ((qj_ z0_ vz_).f4) false _ ?zQ_ ?zZ_ ?zY_ ?zK_ A81.out).mono ?_); (case zQ_ => repeat (first | exact (Kd.qD_ FQ_.out HB.out) | (with_reducible refine Kd.qP_ ?_ _) | (with_reducible refine Kd.qr_ ?_ _) | (with_reducible refine Kd.qR_ ?_))); (case zZ_ => exact Fp_.out); (case zY_ => repeat (first | exact (Kd.qD_ Fw_.out HB.out) | (with_reducible refine Kd.qP_ ?_ _) | (with_reducible refine Kd.qr_ ?_ _) | (with_reducible refine Kd.qR_ ?_))); (case zK_ => exact FD_.out); rintro e w86 ⟨rfl, hb⟩; refine ⟨_, rfl, ?_⟩; have n0_ := q0_.mk (q2_ (g := z6_) (o := .cells #[.int .i64 z1_, .bool z5_, .string z3_, .slice (some ad239) z0_.length z9_, .slice zz_ z2_.length zq_] 25 (0, 0)) (by (with_reducible repeat (first | refine q9_ ?_ _ | refine qz_ ?_ | refine q8_ ?_ _)); exact qS_.out) hb); have n1_ := q0_.mk (q4_ (by repeat (first | (with_reducible first | exact HB.out | apply q6_ | apply q5_ | apply q7_ | refine qq_ ?_ jw_.out) | exact HB.out)) hb); clear qS_; clear HB; have qS_ := n0_; have HB := n1_; clear n0_ n1_; (try clear hb); (try clear hb2); (try clear hk); (try clear hi)))
            go_ret
            exact ⟨by first | rfl | (simp [qk_, qy_] <;> rfl) | (simp [qk_, qy_] <;> decide +kernel) | (simp [*, qk_, qy_] <;> rfl), by repeat (first | (with_reducible first | exact HB.out | apply q6_ | apply q5_ | apply q7_ | refine qq_ ?_ jw_.out) | exact HB.out)⟩
          ·
           rw [if_neg c80] at H
           exact absurd H (by simp)
         ·
          rw [if_neg c79] at H
          have c79b0 : decide (vz_ < (z0_.length : Int)) = false := decide_eq_false c79
          clear c79
          obtain rfl := Option.some.inj H
          have hcz87_0 : wr.cell? ⟨z6_, 0, none⟩ = some (.int .i64 z1_) := (q1_ qS_.out 0).trans rfl
          have hcz87_1 : wr.cell? ⟨z6_, 1, none⟩ = some (.bool z5_) := (q1_ qS_.out 1).trans rfl
          have hcz87_2 : wr.cell? ⟨z6_, 2, none⟩ = some (.string z3_) := (q1_ qS_.out 2).trans rfl
          have hcz87_3 : wr.cell? ⟨z6_, 3, none⟩ = some (.slice zj_ z0_.length z9_) := (q1_ qS_.out 3).trans rfl
          have hcz87_4 : wr.cell? ⟨z6_, 4, none⟩ = some (.slice zz_ z2_.length zq_) := (q1_ qS_.out 4).trans rfl
          have hfz87_0 := q3_ qS_.out 0
          have hfz87_1 := q3_ qS_.out 1
          have hfz87_2 := q3_ qS_.out 2
          have hfz87_3 := q3_ qS_.out 3
          have hfz87_4 := q3_ qS_.out 4
          go_wp2
          go_ret
          exact ⟨by first | rfl | (simp [qk_, qy_] <;> rfl) | (simp [qk_, qy_] <;> decide +kernel) | (simp [*, qk_, qy_] <;> rfl), by repeat (first | (with_reducible first | exact HB.out | apply q6_ | apply q5_ | apply q7_ | refine qq_ ?_ jw_.out) | exact HB.out)⟩
end Go.Proofs.YtfpmompdgmklmaaDoor.P
