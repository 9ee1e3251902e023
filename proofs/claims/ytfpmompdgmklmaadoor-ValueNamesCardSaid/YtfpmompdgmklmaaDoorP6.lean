import Derived.Test.YtfpmompdgmklmaaDoorP0
namespace Go.Proofs.YtfpmompdgmklmaaDoor.P
attribute [-simp] List.length_drop List.length_take ByteArray.size_append
open Go.RowKit Go.Proofs.YtfpmompdgmklmaaDoorW.PrintWords Go.Proofs.YtfpmompdgmklmaaDoorW.PrintLast Go.Proofs.YtfpmompdgmklmaaDoorW.PrintMore
attribute [local go_sem] max2_int min2_int max_two min_two max_three min_three max_four min_four   -- for this text's walks alone
set_option linter.unusedVariables false
set_option linter.unusedSimpArgs false
/-! ### value_Text: function 32 -/
def value_Text.f (a0 : ByteArray) : Option (Int × Bool × ByteArray × (List (S25)) × List ByteArray) := some (3, false, a0, ([] : List (S25)), ([] : List ByteArray))
set_option maxHeartbeats 8000000 in
set_option maxRecDepth 100000 in
theorem value_Text.calls (a0 : ByteArray) (r1 : Int) (r2 : Bool) (r3 : ByteArray) (r4 : List (S25)) (r5 : List ByteArray) (w : World) (h : value_Text.f a0 = some (r1, r2, r3, r4, r5)) :
  Calls Tryd.prog 32 #[.string a0] w fun e w' => ∃ v3_ v4_ : Value, e = .returned (.agg #[.int .i64 r1, .bool r2, .string r3, v3_, v4_]) ∧ Kd.R k25 25 w' w.heap.size (fun k_ => some k_ ≠ (v4_ : Value).ownBlock) v3_ r4 ∧ Kd.R Kd.string 9 w' w.heap.size (fun _ => True) v4_ r5 ∧ Below w.heap.size w w' := by
 have kP_ := Tryd.underlying25
 have HB := q0_.mk (Below.refl w.heap.size w)
 have H : (some (3, false, a0, ([] : List (S25)), ([] : List ByteArray))) = some (r1, r2, r3, r4, r5) := h
 clear h
 simp only [Option.some.injEq, Prod.mk.injEq] at H
 obtain ⟨rfl, rfl, rfl, rfl, rfl⟩ := H
 go_enter Tryd.func32, Tryd.ntmps32
 go_wp2_with (first | ((with_reducible refine qZ_ (N := 2) rfl ?_); refine qJ_ ?hg (N := 2) ?hd (cs := #[.int .i64 0, .bool false, .string (⟨#[]⟩ : ByteArray), .slice none 0 0, .slice none 0 0]) (t := 25) ?hr ?_; (case hd => rfl); (case hg => rfl); (case hr => first | (go_simp; done) | (go_simp; rfl)); intro Vz_ hg w2 hbox hb; have n0_ := q0_.mk (q4_ (by repeat (first | (with_reducible first | exact HB.out | apply q6_ | apply q5_ | apply q7_) | exact HB.out)) hb); have n1_ := q0_.mk (hbox); have n2_ := q0_.mk ((by rw [hg]; exact (qw_ (by repeat (first | (with_reducible first | exact HB.out | apply q6_ | apply q5_ | apply q7_) | exact HB.out))) : w.heap.size ≤ Vz_)); have n3_ := q0_.mk ((by rw [hg]; exact (qw_ (by repeat (first | (with_reducible first | exact HB.out | apply q6_ | apply q5_ | apply q7_) | exact HB.out))) : w.heap.size ≤ Vz_)); clear HB; have HB := n0_; have KJ_ := n1_; have GW148 := n2_; have GE148 := n3_; clear n0_ n1_ n2_ n3_; clear hb hbox hg; have dg_ : w2.cell? ⟨Vz_, 0, none⟩ = some (.int .i64 0) := (q1_ KJ_.out 0).trans rfl; have dW_ : w2.cell? ⟨Vz_, 1, none⟩ = some (.bool false) := (q1_ KJ_.out 1).trans rfl; have dV_ : w2.cell? ⟨Vz_, 2, none⟩ = some (.string (⟨#[]⟩ : ByteArray)) := (q1_ KJ_.out 2).trans rfl; have dY_ : w2.cell? ⟨Vz_, 3, none⟩ = some (.slice none 0 0) := (q1_ KJ_.out 3).trans rfl; have dK_ : w2.cell? ⟨Vz_, 4, none⟩ = some (.slice none 0 0) := (q1_ KJ_.out 4).trans rfl; have d1_ := q3_ KJ_.out 0; have d0_ := q3_ KJ_.out 1; have BS_ := q3_ KJ_.out 2; have Bs_ := q3_ KJ_.out 3; have BR_ := q3_ KJ_.out 4))
 refine bodyPost_ret (results_cell_row rfl _ _ Vz_ 25 #[.int .i64 3, .bool false, .string a0, .slice none 0 0, .slice none 0 0] (0, 0) _ rfl (by (with_reducible repeat (first | refine q9_ ?_ _ | refine qz_ ?_ | refine q8_ ?_ _)); refine qv_ (cs := #[.int .i64 3, .bool false, .string a0, .slice none 0 0, .slice none 0 0]) ?_ 4 _ rfl; (with_reducible repeat (first | refine q9_ ?_ _ | refine qz_ ?_ | refine q8_ ?_ _)); refine qv_ (cs := #[.int .i64 3, .bool false, .string a0, .slice none 0 0, .slice none 0 0]) ?_ 3 _ rfl; (with_reducible repeat (first | refine q9_ ?_ _ | refine qz_ ?_ | refine q8_ ?_ _)); refine qv_ (cs := #[.int .i64 3, .bool false, .string (⟨#[]⟩ : ByteArray), .slice none 0 0, .slice none 0 0]) ?_ 2 _ rfl; (with_reducible repeat (first | refine q9_ ?_ _ | refine qz_ ?_ | refine q8_ ?_ _)); refine qv_ (cs := #[.int .i64 3, .bool false, .string (⟨#[]⟩ : ByteArray), .slice none 0 0, .slice none 0 0]) ?_ 1 _ rfl; (with_reducible repeat (first | refine q9_ ?_ _ | refine qz_ ?_ | refine q8_ ?_ _)); refine qv_ (cs := #[.int .i64 0, .bool false, .string (⟨#[]⟩ : ByteArray), .slice none 0 0, .slice none 0 0]) ?_ 0 _ rfl; (with_reducible repeat (first | refine q9_ ?_ _ | refine qz_ ?_ | refine q8_ ?_ _)); exact KJ_.out) Tryd.underlying25 rfl (by kernel_rfl)) rfl ?_
 exact ⟨_, _, by first | rfl | (simp [qk_, qy_] <;> rfl) | (simp [qk_, qy_] <;> decide +kernel) | (simp [*, qk_, qy_] <;> rfl), by first | exact Kd.R_nil _ _ _ _ _ | exact Kd.N_nil _ _ _ _ _ | exact Kd.V_nil _ _ _ _ _ | exact Kd.Q_nil _ _ _ _ _ | exact Kd.S_nil _ _ _ _ _, by first | exact Kd.R_nil _ _ _ _ _ | exact Kd.N_nil _ _ _ _ _ | exact Kd.V_nil _ _ _ _ _ | exact Kd.Q_nil _ _ _ _ _ | exact Kd.S_nil _ _ _ _ _, by repeat (first | (with_reducible first | exact HB.out | apply q6_ | apply q5_ | apply q7_ | refine qq_ ?_ GE148.out) | exact HB.out)⟩
/-! ### value_Bool: function 33 -/
def value_Bool.f (a0 : Bool) : Option (Int × Bool × ByteArray × (List (S25)) × List ByteArray) := some (1, a0, (⟨#[]⟩ : ByteArray), ([] : List (S25)), ([] : List ByteArray))
set_option maxHeartbeats 8000000 in
set_option maxRecDepth 100000 in
theorem value_Bool.calls (a0 : Bool) (r1 : Int) (r2 : Bool) (r3 : ByteArray) (r4 : List (S25)) (r5 : List ByteArray) (w : World) (h : value_Bool.f a0 = some (r1, r2, r3, r4, r5)) :
  Calls Tryd.prog 33 #[.bool a0] w fun e w' => ∃ v3_ v4_ : Value, e = .returned (.agg #[.int .i64 r1, .bool r2, .string r3, v3_, v4_]) ∧ Kd.R k25 25 w' w.heap.size (fun k_ => some k_ ≠ (v4_ : Value).ownBlock) v3_ r4 ∧ Kd.R Kd.string 9 w' w.heap.size (fun _ => True) v4_ r5 ∧ Below w.heap.size w w' := by
 have kP_ := Tryd.underlying25
 have HB := q0_.mk (Below.refl w.heap.size w)
 have H : (some (1, a0, (⟨#[]⟩ : ByteArray), ([] : List (S25)), ([] : List ByteArray))) = some (r1, r2, r3, r4, r5) := h
 clear h
 simp only [Option.some.injEq, Prod.mk.injEq] at H
 obtain ⟨rfl, rfl, rfl, rfl, rfl⟩ := H
 go_enter Tryd.func33, Tryd.ntmps33
 go_wp2_with (first | ((with_reducible refine qZ_ (N := 2) rfl ?_); refine qJ_ ?hg (N := 2) ?hd (cs := #[.int .i64 0, .bool false, .string (⟨#[]⟩ : ByteArray), .slice none 0 0, .slice none 0 0]) (t := 25) ?hr ?_; (case hd => rfl); (case hg => rfl); (case hr => first | (go_simp; done) | (go_simp; rfl)); intro Vq_ hg w2 hbox hb; have n0_ := q0_.mk (q4_ (by repeat (first | (with_reducible first | exact HB.out | apply q6_ | apply q5_ | apply q7_) | exact HB.out)) hb); have n1_ := q0_.mk (hbox); have n2_ := q0_.mk ((by rw [hg]; exact (qw_ (by repeat (first | (with_reducible first | exact HB.out | apply q6_ | apply q5_ | apply q7_) | exact HB.out))) : w.heap.size ≤ Vq_)); have n3_ := q0_.mk ((by rw [hg]; exact (qw_ (by repeat (first | (with_reducible first | exact HB.out | apply q6_ | apply q5_ | apply q7_) | exact HB.out))) : w.heap.size ≤ Vq_)); clear HB; have HB := n0_; have KZ_ := n1_; have GW149 := n2_; have GE149 := n3_; clear n0_ n1_ n2_ n3_; clear hb hbox hg; have dg_ : w2.cell? ⟨Vq_, 0, none⟩ = some (.int .i64 0) := (q1_ KZ_.out 0).trans rfl; have dW_ : w2.cell? ⟨Vq_, 1, none⟩ = some (.bool false) := (q1_ KZ_.out 1).trans rfl; have dV_ : w2.cell? ⟨Vq_, 2, none⟩ = some (.string (⟨#[]⟩ : ByteArray)) := (q1_ KZ_.out 2).trans rfl; have dY_ : w2.cell? ⟨Vq_, 3, none⟩ = some (.slice none 0 0) := (q1_ KZ_.out 3).trans rfl; have dK_ : w2.cell? ⟨Vq_, 4, none⟩ = some (.slice none 0 0) := (q1_ KZ_.out 4).trans rfl; have d1_ := q3_ KZ_.out 0; have d0_ := q3_ KZ_.out 1; have BS_ := q3_ KZ_.out 2; have Bs_ := q3_ KZ_.out 3; have BR_ := q3_ KZ_.out 4))
 refine bodyPost_ret (results_cell_row rfl _ _ Vq_ 25 #[.int .i64 1, .bool a0, .string (⟨#[]⟩ : ByteArray), .slice none 0 0, .slice none 0 0] (0, 0) _ rfl (by (with_reducible repeat (first | refine q9_ ?_ _ | refine qz_ ?_ | refine q8_ ?_ _)); refine qv_ (cs := #[.int .i64 1, .bool a0, .string (⟨#[]⟩ : ByteArray), .slice none 0 0, .slice none 0 0]) ?_ 4 _ rfl; (with_reducible repeat (first | refine q9_ ?_ _ | refine qz_ ?_ | refine q8_ ?_ _)); refine qv_ (cs := #[.int .i64 1, .bool a0, .string (⟨#[]⟩ : ByteArray), .slice none 0 0, .slice none 0 0]) ?_ 3 _ rfl; (with_reducible repeat (first | refine q9_ ?_ _ | refine qz_ ?_ | refine q8_ ?_ _)); refine qv_ (cs := #[.int .i64 1, .bool a0, .string (⟨#[]⟩ : ByteArray), .slice none 0 0, .slice none 0 0]) ?_ 2 _ rfl; (with_reducible repeat (first | refine q9_ ?_ _ | refine qz_ ?_ | refine q8_ ?_ _)); refine qv_ (cs := #[.int .i64 1, .bool false, .string (⟨#[]⟩ : ByteArray), .slice none 0 0, .slice none 0 0]) ?_ 1 _ rfl; (with_reducible repeat (first | refine q9_ ?_ _ | refine qz_ ?_ | refine q8_ ?_ _)); refine qv_ (cs := #[.int .i64 0, .bool false, .string (⟨#[]⟩ : ByteArray), .slice none 0 0, .slice none 0 0]) ?_ 0 _ rfl; (with_reducible repeat (first | refine q9_ ?_ _ | refine qz_ ?_ | refine q8_ ?_ _)); exact KZ_.out) Tryd.underlying25 rfl (by kernel_rfl)) rfl ?_
 exact ⟨_, _, by first | rfl | (simp [qk_, qy_] <;> rfl) | (simp [qk_, qy_] <;> decide +kernel) | (simp [*, qk_, qy_] <;> rfl), by first | exact Kd.R_nil _ _ _ _ _ | exact Kd.N_nil _ _ _ _ _ | exact Kd.V_nil _ _ _ _ _ | exact Kd.Q_nil _ _ _ _ _ | exact Kd.S_nil _ _ _ _ _, by first | exact Kd.R_nil _ _ _ _ _ | exact Kd.N_nil _ _ _ _ _ | exact Kd.V_nil _ _ _ _ _ | exact Kd.Q_nil _ _ _ _ _ | exact Kd.S_nil _ _ _ _ _, by repeat (first | (with_reducible first | exact HB.out | apply q6_ | apply q5_ | apply q7_ | refine qq_ ?_ GE149.out) | exact HB.out)⟩
/-! ### colophonref00_Bring: function 34 -/
def colophonref00_Bring.f (a0 : Int) (a1 : Int) : Option (Int) := if a1 ≤ 0 then (some 0) else (if a1 = 0 then (none) else (if (Int.tmod a0 a1) < 0 then (some (wrap64 ((Int.tmod a0 a1) + a1))) else (some (Int.tmod a0 a1))))
set_option maxHeartbeats 8000000 in
set_option maxRecDepth 100000 in
theorem colophonref00_Bring.calls (a0 : Int) (a1 : Int) (r : Int) (w : World) (h : colophonref00_Bring.f a0 a1 = some r) :
  Calls Tryd.prog 34 #[.int .i64 a0, .int .i64 a1] w fun e w' => e = .returned (.int .i64 r) ∧ Drawn0 w w' := by
 have H : (if a1 ≤ 0 then (some 0) else (if a1 = 0 then (none) else (if (Int.tmod a0 a1) < 0 then (some (wrap64 ((Int.tmod a0 a1) + a1))) else (some (Int.tmod a0 a1))))) = some r := h
 clear h
 by_cases c3 : a1 ≤ 0
 ·
  rw [if_pos c3] at H
  have Z5_ : decide (a1 ≤ 0) = true := decide_eq_true c3
  clear c3
  obtain rfl := Option.some.inj H
  go_enter Tryd.func34, Tryd.ntmps34
  go_wp2
  go_ret
  exact ⟨by first | rfl | (simp; done) | (simp [*]; done), by repeat (first | exact Drawn0.refl _ | apply Drawn0.step)⟩
 ·
  rw [if_neg c3] at H
  have Z5_ : decide (a1 ≤ 0) = false := decide_eq_false c3
  clear c3
  by_cases c4 : a1 = 0
  ·
   rw [if_pos c4] at H
   exact absurd H (by simp)
  ·
   rw [if_neg c4] at H
   have Z2_ : (a1 == 0) = false := beq_eq_false_iff_ne.mpr c4
   have c4b1 : (a1 != 0) = true := bne_iff_ne.mpr c4
   by_cases c5 : (Int.tmod a0 a1) < 0
   ·
    rw [if_pos c5] at H
    have bK_ : decide ((Int.tmod a0 a1) < 0) = true := decide_eq_true c5
    clear c5
    obtain rfl := Option.some.inj H
    go_enter Tryd.func34, Tryd.ntmps34
    go_wp2
    go_ret
    exact ⟨by first | rfl | (simp; done) | (simp [*]; done), by repeat (first | exact Drawn0.refl _ | apply Drawn0.step)⟩
   ·
    rw [if_neg c5] at H
    have bK_ : decide ((Int.tmod a0 a1) < 0) = false := decide_eq_false c5
    clear c5
    obtain rfl := Option.some.inj H
    go_enter Tryd.func34, Tryd.ntmps34
    go_wp2
    go_ret
    exact ⟨by first | rfl | (simp; done) | (simp [*]; done), by repeat (first | exact Drawn0.refl _ | apply Drawn0.step)⟩
/-! ### colophonref10_Deep: function 36 -/
mutual
def colophonref10_Deep.l0 : Nat → Int → Int → Int → Bool → ByteArray → List (S25) → List ByteArray → Option (Bool)
 | 0, _, _, _, _, _, _, _ => none
 | k + 1, x1, x5, rY_, rK_, rX_, wR_, rJ_ => if x5 < (wR_.length : Int) then (if 0 ≤ x5 then ((colophonref10_Deep.f k ((qj_ wR_ x5).f0) ((qj_ wR_ x5).f1) ((qj_ wR_ x5).f2) ((qj_ wR_ x5).f3) ((qj_ wR_ x5).f4) (wrap64 (x1 - 1))).bind fun t213 => (if t213 = true then (some true) else (colophonref10_Deep.l0 k x1 (wrap64 (x5 + 1)) rY_ rK_ rX_ wR_ rJ_))) else (none)) else (some false)
def colophonref10_Deep.f : Nat → Int → Bool → ByteArray → List (S25) → List ByteArray → Int → Option (Bool)
 | 0, _, _, _, _, _, _ => none
 | k + 1, z1_, z5_, z3_, z0_, z2_, a1 => if a1 < 0 then (some true) else (colophonref10_Deep.l0 k a1 0 z1_ z5_ z3_ z0_ z2_)
end
theorem colophonref10_Deep.mono_l : ∀ k, (∀ y0 y1 y2 y3 y4 y5, LeO (colophonref10_Deep.f k y0 y1 y2 y3 y4 y5) (colophonref10_Deep.f (k + 1) y0 y1 y2 y3 y4 y5)) ∧ (∀ y0 y1 y2 y3 y4 y5 y6, LeO (colophonref10_Deep.l0 k y0 y1 y2 y3 y4 y5 y6) (colophonref10_Deep.l0 (k + 1) y0 y1 y2 y3 y4 y5 y6))
 | 0 => ⟨fun _ _ _ _ _ _ r h => by simp [colophonref10_Deep.f] at h, fun _ _ _ _ _ _ _ r h => by simp [colophonref10_Deep.l0] at h⟩
 | k + 1 => by
  obtain ⟨ih0, ih1⟩ := colophonref10_Deep.mono_l k
  refine ⟨?_, ?_⟩
  ·
   intro y0 y1 y2 y3 y4 y5
   unfold colophonref10_Deep.f
   repeat' first
   | (with_reducible exact ih0 _ _ _ _ _ _)
   | (with_reducible exact ih1 _ _ _ _ _ _ _)
   | (with_reducible exact LeO.refl _)
   | (with_reducible exact LeO.none _)
   | (with_reducible refine LeO.ite ?_ ?_)
   | (with_reducible refine LeO.bind ?_ (fun _ => ?_))
   | exact ih0 _ _ _ _ _ _
   | exact ih1 _ _ _ _ _ _ _
   | exact LeO.none _
   | refine LeO.ite ?_ ?_
   | refine LeO.bind ?_ (fun _ => ?_)
  ·
   intro y0 y1 y2 y3 y4 y5 y6
   unfold colophonref10_Deep.l0
   repeat' first
   | (with_reducible exact ih0 _ _ _ _ _ _)
   | (with_reducible exact ih1 _ _ _ _ _ _ _)
   | (with_reducible exact LeO.refl _)
   | (with_reducible exact LeO.none _)
   | (with_reducible refine LeO.ite ?_ ?_)
   | (with_reducible refine LeO.bind ?_ (fun _ => ?_))
   | exact ih0 _ _ _ _ _ _
   | exact ih1 _ _ _ _ _ _ _
   | exact LeO.none _
   | refine LeO.ite ?_ ?_
   | refine LeO.bind ?_ (fun _ => ?_)
theorem colophonref10_Deep.mono : ∀ a0 a1 a2 a3 a4 a5 k, LeO (colophonref10_Deep.f k a0 a1 a2 a3 a4 a5) (colophonref10_Deep.f (k + 1) a0 a1 a2 a3 a4 a5) := by
 intro a0 a1 a2 a3 a4 a5 k
 obtain ⟨ih0, ih1⟩ := colophonref10_Deep.mono_l k
 exact ih0 a0 a1 a2 a3 a4 a5
set_option maxHeartbeats 8000000 in
set_option maxRecDepth 100000 in
theorem colophonref10_Deep.calls (k : Nat) : ∀ (z1_ : Int) (z5_ : Bool) (z3_ : ByteArray) (zj_ : Option Addr) (z9_ : Nat) (z0_ : List (S25)) (zz_ : Option Addr) (zq_ : Nat) (z2_ : List ByteArray) (a1 : Int) (r : Bool) (w : World) (jk_ : Kd.C k25 w zj_ z0_.length z0_) (jv_ : z0_.length ≤ z9_) (jx_ : Kd.C Kd.string w zz_ z2_.length z2_) (jy_ : z2_.length ≤ zq_) (h : colophonref10_Deep.f k z1_ z5_ z3_ z0_ z2_ a1 = some r),
  Calls Tryd.prog 36 #[.agg #[.int .i64 z1_, .bool z5_, .string z3_, .slice zj_ z0_.length z9_, .slice zz_ z2_.length zq_], .int .i64 a1] w fun e w' => e = .returned (.bool r) ∧ Below w.heap.size w w' := by
 induction k using Nat.strongRecOn with
 | _ k ih =>
 intro z1_ z5_ z3_ zj_ z9_ z0_ zz_ zq_ z2_ a1 r w jk_ jv_ jx_ jy_ h
 cases k with
 | zero => exact absurd h (by simp [colophonref10_Deep.f])
 | succ k =>
 simp only [colophonref10_Deep.f] at h
 have kP_ := Tryd.underlying25
 have x3_ := q0_.mk jk_
 have k4_ := q0_.mk jv_
 clear jk_ jv_
 have xX_ := q0_.mk jx_
 have xr_ := q0_.mk jy_
 clear jx_ jy_
 have HB := q0_.mk (Below.refl w.heap.size w)
 have H : (if a1 < 0 then (some true) else (colophonref10_Deep.l0 k a1 0 z1_ z5_ z3_ z0_ z2_)) = some r := h
 clear h
 by_cases c3 : a1 < 0
 ·
  rw [if_pos c3] at H
  have Z5_ : decide (a1 < 0) = true := decide_eq_true c3
  clear c3
  obtain rfl := Option.some.inj H
  go_enter Tryd.func36, Tryd.ntmps36
  go_wp2_with (first | ((with_reducible refine qZ_ (N := 2) rfl ?_); refine qJ_ ?hg (N := 2) ?hd (cs := #[.int .i64 z1_, .bool z5_, .string z3_, .slice zj_ z0_.length z9_, .slice zz_ z2_.length zq_]) (t := 25) ?hr ?_; (case hd => rfl); (case hg => rfl); (case hr => first | (go_simp; done) | (go_simp; rfl)); intro kF_ hg w4 hbox hb; have n0_ := q0_.mk (q4_ (by repeat (first | (with_reducible first | exact HB.out | apply q6_ | apply q5_ | apply q7_) | exact HB.out)) hb); have n1_ := q0_.mk (hbox); have n2_ := q0_.mk ((by rw [hg]; exact (qw_ (by repeat (first | (with_reducible first | exact HB.out | apply q6_ | apply q5_ | apply q7_) | exact HB.out))) : w.heap.size ≤ kF_)); have n3_ := q0_.mk ((by rw [hg]; exact (qw_ (by repeat (first | (with_reducible first | exact HB.out | apply q6_ | apply q5_ | apply q7_) | exact HB.out))) : w.heap.size ≤ kF_)); clear HB; have HB := n0_; have jp_ := n1_; have GW211 := n2_; have VJ_ := n3_; clear n0_ n1_ n2_ n3_; clear hb hbox hg))
  go_ret
  exact ⟨by first | rfl | (simp [qk_, qy_] <;> rfl) | (simp [qk_, qy_] <;> decide +kernel) | (simp [*, qk_, qy_] <;> rfl), by repeat (first | (with_reducible first | exact HB.out | apply q6_ | apply q5_ | apply q7_ | refine qq_ ?_ VJ_.out) | exact HB.out)⟩
 ·
  rw [if_neg c3] at H
  have Z5_ : decide (a1 < 0) = false := decide_eq_false c3
  clear c3
  have H' := q0_.mk H
  clear H
  go_enter Tryd.func36, Tryd.ntmps36
  go_wp2_with (first | ((with_reducible refine qZ_ (N := 2) rfl ?_); refine qJ_ ?hg (N := 2) ?hd (cs := #[.int .i64 z1_, .bool z5_, .string z3_, .slice zj_ z0_.length z9_, .slice zz_ z2_.length zq_]) (t := 25) ?hr ?_; (case hd => rfl); (case hg => rfl); (case hr => first | (go_simp; done) | (go_simp; rfl)); intro kF_ hg w5 hbox hb; have n0_ := q0_.mk (q4_ (by repeat (first | (with_reducible first | exact HB.out | apply q6_ | apply q5_ | apply q7_) | exact HB.out)) hb); have n1_ := q0_.mk (hbox); have n2_ := q0_.mk ((by rw [hg]; exact (qw_ (by repeat (first | (with_reducible first | exact HB.out | apply q6_ | apply q5_ | apply q7_) | exact HB.out))) : w.heap.size ≤ kF_)); have n3_ := q0_.mk ((by rw [hg]; exact (qw_ (by repeat (first | (with_reducible first | exact HB.out | apply q6_ | apply q5_ | apply q7_) | exact HB.out))) : w.heap.size ≤ kF_)); clear HB; have HB := n0_; have jp_ := n1_; have GW211 := n2_; have VJ_ := n3_; clear n0_ n1_ n2_ n3_; clear hb hbox hg))
  go_loopg [5] k (fun kq v5 w' => ∃ (jP_ : Int), v5 = .int .i64 jP_ ∧ q0_ (colophonref10_Deep.l0 kq a1 jP_ z1_ z5_ z3_ z0_ z2_ = some r) ∧ q0_ (kq ≤ k) ∧ q0_ (w'.heap[kF_]? = some (.cells #[.int .i64 z1_, .bool z5_, .string z3_, (.slice zj_ z0_.length z9_), (.slice zz_ z2_.length zq_)] 25 (0, 0))) ∧ q0_ (Below w.heap.size w w'))
  case atStart => exact ⟨(0), (by first | rfl | (simp; done) | (simp [*]; done)), H', ⟨Nat.le_refl _⟩, ⟨by (with_reducible repeat (first | refine q9_ ?_ _ | refine qz_ ?_ | refine q8_ ?_ _)); exact jp_.out⟩, ⟨by repeat (first | (with_reducible first | exact HB.out | apply q6_ | apply q5_ | apply q7_ | refine qq_ ?_ VJ_.out) | exact HB.out)⟩⟩
  case round =>
   clear H'
   try clear p2
   try clear c3
   try clear Z5_
   obtain ⟨jP_, rfl, HA, HK1, jp_, HB⟩ := hrel
   cases gk with
   | zero => exact absurd HA.out (by simp [colophonref10_Deep.l0])
   | succ k1 =>
    have H := HA.out
    clear HA
    simp only [colophonref10_Deep.l0] at H
    by_cases c6 : jP_ < (z0_.length : Int)
    ·
     rw [if_pos c6] at H
     have Fy_ : decide (jP_ < (z0_.length : Int)) = true := decide_eq_true c6
     clear c6
     by_cases c7 : 0 ≤ jP_
     ·
      rw [if_pos c7] at H
      have py_ : decide (0 ≤ jP_) = true := decide_eq_true c7
      clear c7
      replace H := Option.bind_eq_some_iff.mp H
      obtain ⟨t213, A80, H⟩ := H
      replace H : (if t213 = true then (some true) else (colophonref10_Deep.l0 k1 a1 (wrap64 (jP_ + 1)) z1_ z5_ z3_ z0_ z2_)) = some r := H
      have A8 := q0_.mk A80
      clear A80
      by_cases c9 : t213 = true
      ·
       subst c9
       have H1 : (some true) = some r := by rw [if_pos rfl] at H; exact H
       clear H
       have H := H1
       clear H1
       obtain rfl := Option.some.inj H
       have wy_ : wr.cell? ⟨kF_, 0, none⟩ = some (.int .i64 z1_) := (q1_ jp_.out 0).trans rfl
       have wk_ : wr.cell? ⟨kF_, 1, none⟩ = some (.bool z5_) := (q1_ jp_.out 1).trans rfl
       have wx_ : wr.cell? ⟨kF_, 2, none⟩ = some (.string z3_) := (q1_ jp_.out 2).trans rfl
       have wj_ : wr.cell? ⟨kF_, 3, none⟩ = some (.slice zj_ z0_.length z9_) := (q1_ jp_.out 3).trans rfl
       have wz_ : wr.cell? ⟨kF_, 4, none⟩ = some (.slice zz_ z2_.length zq_) := (q1_ jp_.out 4).trans rfl
       have vP_ := q3_ jp_.out 0
       have vp_ := q3_ jp_.out 1
       have vD_ := q3_ jp_.out 2
       have vd_ := q3_ jp_.out 3
       have vB_ := q3_ jp_.out 4
       have Rq_ : 0 ≤ (jP_ : Int) := of_decide_eq_true (by first | (with_reducible assumption) | assumption)
       have rS_ : jP_ < (z0_.length : Int) := of_decide_eq_true (by first | (with_reducible assumption) | assumption)
       obtain ⟨ad212, DJ_, dr_, DZ_, dP_, e212, QZ_, QQ_, Qw_, Qv_, Qy_, Jy_, JF_, Jk_, Jf_⟩ := at_T25 x3_.out jP_ Rq_ rS_
       cases e212
       replace QZ_ := (HB.out.cell (World.block_lt_of_cell? w _ QZ_)).trans QZ_
       replace QQ_ := (HB.out.cell (World.block_lt_of_cell? w _ QQ_)).trans QQ_
       replace Qw_ := (HB.out.cell (World.block_lt_of_cell? w _ Qw_)).trans Qw_
       replace Qv_ := (HB.out.cell (World.block_lt_of_cell? w _ Qv_)).trans Qv_
       replace Qy_ := (HB.out.cell (World.block_lt_of_cell? w _ Qy_)).trans Qy_
       have FK_ := q0_.mk JF_
       have Fs_ := q0_.mk Jy_
       clear JF_ Jy_
       have FX_ := q0_.mk Jf_
       have FR_ := q0_.mk Jk_
       clear Jf_ Jk_
       replace Rq_ := eq_true Rq_
       replace rS_ := eq_true rS_
       go_wp2_with (first | ((with_reducible refine qh_ (f := 36) rfl ?_); refine goesL_ (some 22) rfl rfl Tryd.func36 (by kernel_rfl) rfl #[.agg #[.int .i64 ((qj_ z0_ jP_).f0), .bool ((qj_ z0_ jP_).f1), .string ((qj_ z0_ jP_).f2), .slice DJ_ ((qj_ z0_ jP_).f3).length dr_, .slice DZ_ ((qj_ z0_ jP_).f4).length dP_], .int .i64 (wrap64 (a1 - 1))] rfl (by (try simp only [List.map_toArray, List.map_cons, List.map_nil]); first | done | rfl | (simp only [List.length_drop, List.length_take]; rfl)) ?_; (with_reducible refine (ih k1 (by have := HK1.out; omega) ((qj_ z0_ jP_).f0) ((qj_ z0_ jP_).f1) ((qj_ z0_ jP_).f2) _ _ ((qj_ z0_ jP_).f3) _ _ ((qj_ z0_ jP_).f4) (wrap64 (a1 - 1)) true _ ?zQ_ ?zZ_ ?zY_ ?zK_ A8.out).mono ?_); (case zQ_ => repeat (first | exact (Kd.qD_ FK_.out HB.out) | (with_reducible refine Kd.qP_ ?_ _) | (with_reducible refine Kd.qr_ ?_ _) | (with_reducible refine Kd.qR_ ?_))); (case zZ_ => exact Fs_.out); (case zY_ => repeat (first | exact (Kd.qD_ FX_.out HB.out) | (with_reducible refine Kd.qP_ ?_ _) | (with_reducible refine Kd.qr_ ?_ _) | (with_reducible refine Kd.qR_ ?_))); (case zK_ => exact FR_.out); rintro e w11 ⟨rfl, hb⟩; refine ⟨_, rfl, ?_⟩; have n0_ := q0_.mk (q2_ (g := kF_) (o := .cells #[.int .i64 z1_, .bool z5_, .string z3_, .slice (some ad212) z0_.length z9_, .slice zz_ z2_.length zq_] 25 (0, 0)) (by (with_reducible repeat (first | refine q9_ ?_ _ | refine qz_ ?_ | refine q8_ ?_ _)); exact jp_.out) hb); have n1_ := q0_.mk (q4_ (by repeat (first | (with_reducible first | exact HB.out | apply q6_ | apply q5_ | apply q7_ | refine qq_ ?_ VJ_.out) | exact HB.out)) hb); clear jp_; clear HB; have jp_ := n0_; have HB := n1_; clear n0_ n1_; (try clear hb); (try clear hb2); (try clear hk); (try clear hi)))
       go_ret
       exact ⟨by first | rfl | (simp [qk_, qy_] <;> rfl) | (simp [qk_, qy_] <;> decide +kernel) | (simp [*, qk_, qy_] <;> rfl), by repeat (first | (with_reducible first | exact HB.out | apply q6_ | apply q5_ | apply q7_ | refine qq_ ?_ VJ_.out) | exact HB.out)⟩
      ·
       replace c9 := Bool.eq_false_iff.mpr c9
       subst c9
       have H1 : (colophonref10_Deep.l0 k1 a1 (wrap64 (jP_ + 1)) z1_ z5_ z3_ z0_ z2_) = some r := by rw [if_neg (show ¬ (false = true) by decide)] at H; exact H
       clear H
       have H := H1
       clear H1
       have H' := q0_.mk H
       clear H
       have Fx_ : wr.cell? ⟨kF_, 0, none⟩ = some (.int .i64 z1_) := (q1_ jp_.out 0).trans rfl
       have Fj_ : wr.cell? ⟨kF_, 1, none⟩ = some (.bool z5_) := (q1_ jp_.out 1).trans rfl
       have Fz_ : wr.cell? ⟨kF_, 2, none⟩ = some (.string z3_) := (q1_ jp_.out 2).trans rfl
       have Fq_ : wr.cell? ⟨kF_, 3, none⟩ = some (.slice zj_ z0_.length z9_) := (q1_ jp_.out 3).trans rfl
       have F9_ : wr.cell? ⟨kF_, 4, none⟩ = some (.slice zz_ z2_.length zq_) := (q1_ jp_.out 4).trans rfl
       have hk_ := q3_ jp_.out 0
       have hx_ := q3_ jp_.out 1
       have hj_ := q3_ jp_.out 2
       have hz_ := q3_ jp_.out 3
       have hq_ := q3_ jp_.out 4
       have Rq_ : 0 ≤ (jP_ : Int) := of_decide_eq_true (by first | (with_reducible assumption) | assumption)
       have rS_ : jP_ < (z0_.length : Int) := of_decide_eq_true (by first | (with_reducible assumption) | assumption)
       obtain ⟨ad212, DJ_, dr_, DZ_, dP_, e212, QZ_, QQ_, Qw_, Qv_, Qy_, Jy_, JF_, Jk_, Jf_⟩ := at_T25 x3_.out jP_ Rq_ rS_
       cases e212
       replace QZ_ := (HB.out.cell (World.block_lt_of_cell? w _ QZ_)).trans QZ_
       replace QQ_ := (HB.out.cell (World.block_lt_of_cell? w _ QQ_)).trans QQ_
       replace Qw_ := (HB.out.cell (World.block_lt_of_cell? w _ Qw_)).trans Qw_
       replace Qv_ := (HB.out.cell (World.block_lt_of_cell? w _ Qv_)).trans Qv_
       replace Qy_ := (HB.out.cell (World.block_lt_of_cell? w _ Qy_)).trans Qy_
       have FK_ := q0_.mk JF_
       have Fs_ := q0_.mk Jy_
       clear JF_ Jy_
       have FX_ := q0_.mk Jf_
       have FR_ := q0_.mk Jk_
       clear Jf_ Jk_
       replace Rq_ := eq_true Rq_
       replace rS_ := eq_true rS_
       go_wp2_with (first | ((with_reducible refine qh_ (f := 36) rfl ?_); refine goesL_ (some 22) rfl rfl Tryd.func36 (by kernel_rfl) rfl #[.agg #[.int .i64 ((qj_ z0_ jP_).f0), .bool ((qj_ z0_ jP_).f1), .string ((qj_ z0_ jP_).f2), .slice DJ_ ((qj_ z0_ jP_).f3).length dr_, .slice DZ_ ((qj_ z0_ jP_).f4).length dP_], .int .i64 (wrap64 (a1 - 1))] rfl (by (try simp only [List.map_toArray, List.map_cons, List.map_nil]); first | done | rfl | (simp only [List.length_drop, List.length_take]; rfl)) ?_; (with_reducible refine (ih k1 (by have := HK1.out; omega) ((qj_ z0_ jP_).f0) ((qj_ z0_ jP_).f1) ((qj_ z0_ jP_).f2) _ _ ((qj_ z0_ jP_).f3) _ _ ((qj_ z0_ jP_).f4) (wrap64 (a1 - 1)) false _ ?zQ_ ?zZ_ ?zY_ ?zK_ A8.out).mono ?_); (case zQ_ => repeat (first | exact (Kd.qD_ FK_.out HB.out) | (with_reducible refine Kd.qP_ ?_ _) | (with_reducible refine Kd.qr_ ?_ _) | (with_reducible refine Kd.qR_ ?_))); (case zZ_ => exact Fs_.out); (case zY_ => repeat (first | exact (Kd.qD_ FX_.out HB.out) | (with_reducible refine Kd.qP_ ?_ _) | (with_reducible refine Kd.qr_ ?_ _) | (with_reducible refine Kd.qR_ ?_))); (case zK_ => exact FR_.out); rintro e w13 ⟨rfl, hb⟩; refine ⟨_, rfl, ?_⟩; have n0_ := q0_.mk (q2_ (g := kF_) (o := .cells #[.int .i64 z1_, .bool z5_, .string z3_, .slice (some ad212) z0_.length z9_, .slice zz_ z2_.length zq_] 25 (0, 0)) (by (with_reducible repeat (first | refine q9_ ?_ _ | refine qz_ ?_ | refine q8_ ?_ _)); exact jp_.out) hb); have n1_ := q0_.mk (q4_ (by repeat (first | (with_reducible first | exact HB.out | apply q6_ | apply q5_ | apply q7_ | refine qq_ ?_ VJ_.out) | exact HB.out)) hb); clear jp_; clear HB; have jp_ := n0_; have HB := n1_; clear n0_ n1_; (try clear hb); (try clear hb2); (try clear hk); (try clear hi)))
       go_roundg k1
       case measure => have := HK1.out; omega
       case rel => exact ⟨(wrap64 (jP_ + 1)), (by first | rfl | (simp; done) | (simp [*]; done)), H', ⟨by have := HK1.out; omega⟩, ⟨by (with_reducible repeat (first | refine q9_ ?_ _ | refine qz_ ?_ | refine q8_ ?_ _)); exact jp_.out⟩, ⟨by repeat (first | (with_reducible first | exact HB.out | apply q6_ | apply q5_ | apply q7_ | refine qq_ ?_ VJ_.out) | exact HB.out)⟩⟩
     ·
      rw [if_neg c7] at H
      exact absurd H (by simp)
    ·
     rw [if_neg c6] at H
     have Fy_ : decide (jP_ < (z0_.length : Int)) = false := decide_eq_false c6
     clear c6
     obtain rfl := Option.some.inj H
     have F8_ : wr.cell? ⟨kF_, 0, none⟩ = some (.int .i64 z1_) := (q1_ jp_.out 0).trans rfl
     have F7_ : wr.cell? ⟨kF_, 1, none⟩ = some (.bool z5_) := (q1_ jp_.out 1).trans rfl
     have F6_ : wr.cell? ⟨kF_, 2, none⟩ = some (.string z3_) := (q1_ jp_.out 2).trans rfl
     have F5_ : wr.cell? ⟨kF_, 3, none⟩ = some (.slice zj_ z0_.length z9_) := (q1_ jp_.out 3).trans rfl
     have F4_ : wr.cell? ⟨kF_, 4, none⟩ = some (.slice zz_ z2_.length zq_) := (q1_ jp_.out 4).trans rfl
     have h9_ := q3_ jp_.out 0
     have h8_ := q3_ jp_.out 1
     have h7_ := q3_ jp_.out 2
     have h6_ := q3_ jp_.out 3
     have h5_ := q3_ jp_.out 4
     go_wp2
     go_ret
     exact ⟨by first | rfl | (simp [qk_, qy_] <;> rfl) | (simp [qk_, qy_] <;> decide +kernel) | (simp [*, qk_, qy_] <;> rfl), by repeat (first | (with_reducible first | exact HB.out | apply q6_ | apply q5_ | apply q7_ | refine qq_ ?_ VJ_.out) | exact HB.out)⟩
/-! ### colophonref10_DeepList: function 13 -/
def colophonref10_DeepList.l0 : Nat → List (S25) → Int → Option (Bool)
 | 0, _, _ => none
 | k + 1, x0, x3 => if x3 < (x0.length : Int) then (if 0 ≤ x3 then ((colophonref10_Deep.f k ((qj_ x0 x3).f0) ((qj_ x0 x3).f1) ((qj_ x0 x3).f2) ((qj_ x0 x3).f3) ((qj_ x0 x3).f4) 990).bind fun t215 => (if t215 = true then (some true) else (colophonref10_DeepList.l0 k x0 (wrap64 (x3 + 1))))) else (none)) else (some false)
def colophonref10_DeepList.f (k : Nat) (l0 : List (S25)) : Option (Bool) := colophonref10_DeepList.l0 k l0 0
theorem colophonref10_DeepList.mono_l : ∀ k, (∀ y0 y1, LeO (colophonref10_DeepList.l0 k y0 y1) (colophonref10_DeepList.l0 (k + 1) y0 y1))
 | 0 => fun _ _ r h => by simp [colophonref10_DeepList.l0] at h
 | k + 1 => by
  have ih0 := colophonref10_DeepList.mono_l k
  ·
   intro y0 y1
   unfold colophonref10_DeepList.l0
   repeat' first
   | (with_reducible exact ih0 _ _)
   | (with_reducible exact colophonref10_Deep.mono _ _ _ _ _ _ _)
   | (with_reducible exact LeO.refl _)
   | (with_reducible exact LeO.none _)
   | (with_reducible refine LeO.ite ?_ ?_)
   | (with_reducible refine LeO.bind ?_ (fun _ => ?_))
   | exact ih0 _ _
   | exact colophonref10_Deep.mono _ _ _ _ _ _ _
   | exact LeO.none _
   | refine LeO.ite ?_ ?_
   | refine LeO.bind ?_ (fun _ => ?_)
theorem colophonref10_DeepList.mono : ∀ a0 k, LeO (colophonref10_DeepList.f k a0) (colophonref10_DeepList.f (k + 1) a0) := by
 intro a0 k
 have ih0 := colophonref10_DeepList.mono_l k
 unfold colophonref10_DeepList.f
 repeat' first
   | (with_reducible exact ih0 _ _)
   | (with_reducible exact colophonref10_Deep.mono _ _ _ _ _ _ _)
   | (with_reducible exact LeO.refl _)
   | (with_reducible exact LeO.none _)
   | (with_reducible refine LeO.ite ?_ ?_)
   | (with_reducible refine LeO.bind ?_ (fun _ => ?_))
   | exact ih0 _ _
   | exact colophonref10_Deep.mono _ _ _ _ _ _ _
   | exact LeO.none _
   | refine LeO.ite ?_ ?_
   | refine LeO.bind ?_ (fun _ => ?_)
set_option maxHeartbeats 8000000 in
set_option maxRecDepth 100000 in
theorem colophonref10_DeepList.calls (k : Nat) (A0 : Option Addr) (c0 : Nat) (l0 : List (S25)) (r : Bool) (w : World) (hr0 : Kd.C k25 w A0 l0.length l0) (hc0 : l0.length ≤ c0) (h : colophonref10_DeepList.f k l0 = some r) :
  Calls Tryd.prog 13 #[.slice A0 l0.length c0] w fun e w' => e = .returned (.bool r) ∧ Below w.heap.size w w' := by
 have kP_ := Tryd.underlying25
 have HR0 := q0_.mk hr0
 have HC0 := q0_.mk hc0
 clear hr0 hc0
 have HB := q0_.mk (Below.refl w.heap.size w)
 have H : (colophonref10_DeepList.l0 k l0 0) = some r := h
 clear h
 have H' := q0_.mk H
 clear H
 go_enter Tryd.func13, Tryd.ntmps13
 go_wp2
 go_loopg [3] k (fun kq v3 w' => ∃ (xd_ : Int), v3 = .int .i64 xd_ ∧ q0_ (colophonref10_DeepList.l0 kq l0 xd_ = some r) ∧ q0_ (kq ≤ k) ∧ q0_ (Below w.heap.size w w'))
 case atStart => exact ⟨(0), (by first | rfl | (simp; done) | (simp [*]; done)), H', ⟨Nat.le_refl _⟩, ⟨by repeat (first | (with_reducible first | exact HB.out | apply q6_ | apply q5_ | apply q7_) | exact HB.out)⟩⟩
 case round =>
  clear H'
  try clear c1
  obtain ⟨xd_, rfl, HA, HK1, HB⟩ := hrel
  cases gk with
  | zero => exact absurd HA.out (by simp [colophonref10_DeepList.l0])
  | succ k1 =>
   have H := HA.out
   clear HA
   simp only [colophonref10_DeepList.l0] at H
   by_cases c2 : xd_ < (l0.length : Int)
   ·
    rw [if_pos c2] at H
    have c2b0 : decide (xd_ < (l0.length : Int)) = true := decide_eq_true c2
    clear c2
    by_cases c3 : 0 ≤ xd_
    ·
     rw [if_pos c3] at H
     have Z5_ : decide (0 ≤ xd_) = true := decide_eq_true c3
     clear c3
     replace H := Option.bind_eq_some_iff.mp H
     obtain ⟨t215, A40, H⟩ := H
     replace H : (if t215 = true then (some true) else (colophonref10_DeepList.l0 k1 l0 (wrap64 (xd_ + 1)))) = some r := H
     have A4 := q0_.mk A40
     clear A40
     by_cases c5 : t215 = true
     ·
      subst c5
      have H1 : (some true) = some r := by rw [if_pos rfl] at H; exact H
      clear H
      have H := H1
      clear H1
      obtain rfl := Option.some.inj H
      have R9_ : 0 ≤ (xd_ : Int) := of_decide_eq_true (by first | (with_reducible assumption) | assumption)
      have rs_ : xd_ < (l0.length : Int) := of_decide_eq_true (by first | (with_reducible assumption) | assumption)
      obtain ⟨ad214, DQ_, dp_, Dw_, dD_, e214, Qk_, Qx_, Qj_, Qz_, Qq_, Jx_, JH_, Jj_, Jh_⟩ := at_T25 HR0.out xd_ R9_ rs_
      cases e214
      replace Qk_ := (HB.out.cell (World.block_lt_of_cell? w _ Qk_)).trans Qk_
      replace Qx_ := (HB.out.cell (World.block_lt_of_cell? w _ Qx_)).trans Qx_
      replace Qj_ := (HB.out.cell (World.block_lt_of_cell? w _ Qj_)).trans Qj_
      replace Qz_ := (HB.out.cell (World.block_lt_of_cell? w _ Qz_)).trans Qz_
      replace Qq_ := (HB.out.cell (World.block_lt_of_cell? w _ Qq_)).trans Qq_
      have FJ_ := q0_.mk JH_
      have Fr_ := q0_.mk Jx_
      clear JH_ Jx_
      have FZ_ := q0_.mk Jh_
      have FP_ := q0_.mk Jj_
      clear Jh_ Jj_
      replace R9_ := eq_true R9_
      replace rs_ := eq_true rs_
      go_wp2_with (first | ((with_reducible refine qh_ (f := 36) rfl ?_); refine goesL_ (some 14) rfl rfl Tryd.func36 (by kernel_rfl) rfl #[.agg #[.int .i64 ((qj_ l0 xd_).f0), .bool ((qj_ l0 xd_).f1), .string ((qj_ l0 xd_).f2), .slice DQ_ ((qj_ l0 xd_).f3).length dp_, .slice Dw_ ((qj_ l0 xd_).f4).length dD_], .int .i64 990] rfl (by (try simp only [List.map_toArray, List.map_cons, List.map_nil]); first | done | rfl | (simp only [List.length_drop, List.length_take]; rfl)) ?_; (with_reducible refine (colophonref10_Deep.calls k1 ((qj_ l0 xd_).f0) ((qj_ l0 xd_).f1) ((qj_ l0 xd_).f2) _ _ ((qj_ l0 xd_).f3) _ _ ((qj_ l0 xd_).f4) 990 true _ ?zQ_ ?zZ_ ?zY_ ?zK_ A4.out).mono ?_); (case zQ_ => repeat (first | exact (Kd.qD_ FJ_.out HB.out) | (with_reducible refine Kd.qP_ ?_ _) | (with_reducible refine Kd.qr_ ?_ _) | (with_reducible refine Kd.qR_ ?_))); (case zZ_ => exact Fr_.out); (case zY_ => repeat (first | exact (Kd.qD_ FZ_.out HB.out) | (with_reducible refine Kd.qP_ ?_ _) | (with_reducible refine Kd.qr_ ?_ _) | (with_reducible refine Kd.qR_ ?_))); (case zK_ => exact FP_.out); rintro e w6 ⟨rfl, hb⟩; refine ⟨_, rfl, ?_⟩; have n0_ := q0_.mk (q4_ (by repeat (first | (with_reducible first | exact HB.out | apply q6_ | apply q5_ | apply q7_) | exact HB.out)) hb); clear HB; have HB := n0_; clear n0_; (try clear hb); (try clear hb2); (try clear hk); (try clear hi)))
      go_ret
      exact ⟨by first | rfl | (simp [qk_, qy_] <;> rfl) | (simp [qk_, qy_] <;> decide +kernel) | (simp [*, qk_, qy_] <;> rfl), by repeat (first | (with_reducible first | exact HB.out | apply q6_ | apply q5_ | apply q7_) | exact HB.out)⟩
     ·
      replace c5 := Bool.eq_false_iff.mpr c5
      subst c5
      have H1 : (colophonref10_DeepList.l0 k1 l0 (wrap64 (xd_ + 1))) = some r := by rw [if_neg (show ¬ (false = true) by decide)] at H; exact H
      clear H
      have H := H1
      clear H1
      have H' := q0_.mk H
      clear H
      have R9_ : 0 ≤ (xd_ : Int) := of_decide_eq_true (by first | (with_reducible assumption) | assumption)
      have rs_ : xd_ < (l0.length : Int) := of_decide_eq_true (by first | (with_reducible assumption) | assumption)
      obtain ⟨ad214, DQ_, dp_, Dw_, dD_, e214, Qk_, Qx_, Qj_, Qz_, Qq_, Jx_, JH_, Jj_, Jh_⟩ := at_T25 HR0.out xd_ R9_ rs_
      cases e214
      replace Qk_ := (HB.out.cell (World.block_lt_of_cell? w _ Qk_)).trans Qk_
      replace Qx_ := (HB.out.cell (World.block_lt_of_cell? w _ Qx_)).trans Qx_
      replace Qj_ := (HB.out.cell (World.block_lt_of_cell? w _ Qj_)).trans Qj_
      replace Qz_ := (HB.out.cell (World.block_lt_of_cell? w _ Qz_)).trans Qz_
      replace Qq_ := (HB.out.cell (World.block_lt_of_cell? w _ Qq_)).trans Qq_
      have FJ_ := q0_.mk JH_
      have Fr_ := q0_.mk Jx_
      clear JH_ Jx_
      have FZ_ := q0_.mk Jh_
      have FP_ := q0_.mk Jj_
      clear Jh_ Jj_
      replace R9_ := eq_true R9_
      replace rs_ := eq_true rs_
      go_wp2_with (first | ((with_reducible refine qh_ (f := 36) rfl ?_); refine goesL_ (some 14) rfl rfl Tryd.func36 (by kernel_rfl) rfl #[.agg #[.int .i64 ((qj_ l0 xd_).f0), .bool ((qj_ l0 xd_).f1), .string ((qj_ l0 xd_).f2), .slice DQ_ ((qj_ l0 xd_).f3).length dp_, .slice Dw_ ((qj_ l0 xd_).f4).length dD_], .int .i64 990] rfl (by (try simp only [List.map_toArray, List.map_cons, List.map_nil]); first | done | rfl | (simp only [List.length_drop, List.length_take]; rfl)) ?_; (with_reducible refine (colophonref10_Deep.calls k1 ((qj_ l0 xd_).f0) ((qj_ l0 xd_).f1) ((qj_ l0 xd_).f2) _ _ ((qj_ l0 xd_).f3) _ _ ((qj_ l0 xd_).f4) 990 false _ ?zQ_ ?zZ_ ?zY_ ?zK_ A4.out).mono ?_); (case zQ_ => repeat (first | exact (Kd.qD_ FJ_.out HB.out) | (with_reducible refine Kd.qP_ ?_ _) | (with_reducible refine Kd.qr_ ?_ _) | (with_reducible refine Kd.qR_ ?_))); (case zZ_ => exact Fr_.out); (case zY_ => repeat (first | exact (Kd.qD_ FZ_.out HB.out) | (with_reducible refine Kd.qP_ ?_ _) | (with_reducible refine Kd.qr_ ?_ _) | (with_reducible refine Kd.qR_ ?_))); (case zK_ => exact FP_.out); rintro e w7 ⟨rfl, hb⟩; refine ⟨_, rfl, ?_⟩; have n0_ := q0_.mk (q4_ (by repeat (first | (with_reducible first | exact HB.out | apply q6_ | apply q5_ | apply q7_) | exact HB.out)) hb); clear HB; have HB := n0_; clear n0_; (try clear hb); (try clear hb2); (try clear hk); (try clear hi)))
      go_roundg k1
      case measure => have := HK1.out; omega
      case rel => exact ⟨(wrap64 (xd_ + 1)), (by first | rfl | (simp; done) | (simp [*]; done)), H', ⟨by have := HK1.out; omega⟩, ⟨by repeat (first | (with_reducible first | exact HB.out | apply q6_ | apply q5_ | apply q7_) | exact HB.out)⟩⟩
    ·
     rw [if_neg c3] at H
     exact absurd H (by simp)
   ·
    rw [if_neg c2] at H
    have c2b0 : decide (xd_ < (l0.length : Int)) = false := decide_eq_false c2
    clear c2
    obtain rfl := Option.some.inj H
    go_wp2
    go_ret
    exact ⟨by first | rfl | (simp [qk_, qy_] <;> rfl) | (simp [qk_, qy_] <;> decide +kernel) | (simp [*, qk_, qy_] <;> rfl), by repeat (first | (with_reducible first | exact HB.out | apply q6_ | apply q5_ | apply q7_) | exact HB.out)⟩
/-! ### colophonref10_Copy: function 15 -/
mutual
def colophonref10_Copy.l0 : Nat → Int → Int → Bool → ByteArray → List (S25) → List ByteArray → Int → Bool → ByteArray → List (S25) → Option (Int × Bool × ByteArray × (List (S25)) × List ByteArray)
 | 0, _, _, _, _, _, _, _, _, _, _ => none
 | k + 1, x4, rZ_, rQ_, rw_, wr_, VP_, bd_, bB_, bb_, Vp_ => if x4 < (wr_.length : Int) then (if 0 ≤ x4 then ((colophonref10_Copy.f k ((qj_ wr_ x4).f0) ((qj_ wr_ x4).f1) ((qj_ wr_ x4).f2) ((qj_ wr_ x4).f3) ((qj_ wr_ x4).f4)).bind fun D5_ => (if Vp_.length < 1759218604441 then (colophonref10_Copy.l0 k (wrap64 (x4 + 1)) rZ_ rQ_ rw_ wr_ VP_ bd_ bB_ bb_ (Vp_ ++ [(⟨D5_.1, D5_.2.1, D5_.2.2.1, D5_.2.2.2.1, D5_.2.2.2.2⟩ : S25)])) else (none))) else (none)) else (if ([] : List ByteArray).length + VP_.length < 8796093022208 then (some (bd_, bB_, bb_, Vp_, (([] : List ByteArray) ++ VP_))) else (none))
def colophonref10_Copy.f : Nat → Int → Bool → ByteArray → List (S25) → List ByteArray → Option (Int × Bool × ByteArray × (List (S25)) × List ByteArray)
 | 0, _, _, _, _, _ => none
 | k + 1, z1_, z5_, z3_, z0_, z2_ => colophonref10_Copy.l0 k 0 z1_ z5_ z3_ z0_ z2_ z1_ z5_ z3_ ([] : List (S25))
end
theorem colophonref10_Copy.mono_l : ∀ k, (∀ y0 y1 y2 y3 y4, LeO (colophonref10_Copy.f k y0 y1 y2 y3 y4) (colophonref10_Copy.f (k + 1) y0 y1 y2 y3 y4)) ∧ (∀ y0 y1 y2 y3 y4 y5 y6 y7 y8 y9, LeO (colophonref10_Copy.l0 k y0 y1 y2 y3 y4 y5 y6 y7 y8 y9) (colophonref10_Copy.l0 (k + 1) y0 y1 y2 y3 y4 y5 y6 y7 y8 y9))
 | 0 => ⟨fun _ _ _ _ _ r h => by simp [colophonref10_Copy.f] at h, fun _ _ _ _ _ _ _ _ _ _ r h => by simp [colophonref10_Copy.l0] at h⟩
 | k + 1 => by
  obtain ⟨ih0, ih1⟩ := colophonref10_Copy.mono_l k
  refine ⟨?_, ?_⟩
  ·
   intro y0 y1 y2 y3 y4
   unfold colophonref10_Copy.f
   repeat' first
   | (with_reducible exact ih0 _ _ _ _ _)
   | (with_reducible exact ih1 _ _ _ _ _ _ _ _ _ _)
   | (with_reducible exact LeO.refl _)
   | (with_reducible exact LeO.none _)
   | (with_reducible refine LeO.ite ?_ ?_)
   | (with_reducible refine LeO.bind ?_ (fun _ => ?_))
   | exact ih0 _ _ _ _ _
   | exact ih1 _ _ _ _ _ _ _ _ _ _
   | exact LeO.none _
   | refine LeO.ite ?_ ?_
   | refine LeO.bind ?_ (fun _ => ?_)
  ·
   intro y0 y1 y2 y3 y4 y5 y6 y7 y8 y9
   unfold colophonref10_Copy.l0
   repeat' first
   | (with_reducible exact ih0 _ _ _ _ _)
   | (with_reducible exact ih1 _ _ _ _ _ _ _ _ _ _)
   | (with_reducible exact LeO.refl _)
   | (with_reducible exact LeO.none _)
   | (with_reducible refine LeO.ite ?_ ?_)
   | (with_reducible refine LeO.bind ?_ (fun _ => ?_))
   | exact ih0 _ _ _ _ _
   | exact ih1 _ _ _ _ _ _ _ _ _ _
   | exact LeO.none _
   | refine LeO.ite ?_ ?_
   | refine LeO.bind ?_ (fun _ => ?_)
theorem colophonref10_Copy.mono : ∀ a0 a1 a2 a3 a4 k, LeO (colophonref10_Copy.f k a0 a1 a2 a3 a4) (colophonref10_Copy.f (k + 1) a0 a1 a2 a3 a4) := by
 intro a0 a1 a2 a3 a4 k
 obtain ⟨ih0, ih1⟩ := colophonref10_Copy.mono_l k
 exact ih0 a0 a1 a2 a3 a4
def colophonref10_Copy.T5 : Bool × List (List Nat × List Nat) := (true, [([], []), ([0], [0]), ([], []), ([2], [2]), ([], []), ([3, 4], [3, 4]), ([5], [5]), ([6], [6]), ([7], [7]), ([1, 8, 7], [1, 8]), ([0, 1, 2, 3, 4, 5, 6, 7, 8, 9], []), ([10, 9, 9, 0, 1, 2, 3, 4, 5, 6, 7, 8, 9], [9, 10])])
def colophonref10_Copy.B5 : List Nat := [0, 1, 0, 4, 0, 28, 60, 124, 252, 511, 1023, 2047]
theorem colophonref10_Copy.tab5 : rtab .any (opsOf Tryd.f15 5) = colophonref10_Copy.T5 := by kernel_rfl
theorem colophonref10_Copy.bits5 : waitsOk colophonref10_Copy.T5.2 colophonref10_Copy.B5 = true := by kernel_rfl
set_option maxHeartbeats 8000000 in
set_option maxRecDepth 100000 in
theorem colophonref10_Copy.calls (k : Nat) : ∀ (z1_ : Int) (z5_ : Bool) (z3_ : ByteArray) (zj_ : Option Addr) (z9_ : Nat) (z0_ : List (S25)) (zz_ : Option Addr) (zq_ : Nat) (z2_ : List ByteArray) (r1 : Int) (r2 : Bool) (r3 : ByteArray) (r4 : List (S25)) (r5 : List ByteArray) (w : World) (jk_ : Kd.C k25 w zj_ z0_.length z0_) (jv_ : z0_.length ≤ z9_) (jx_ : Kd.C Kd.string w zz_ z2_.length z2_) (jy_ : z2_.length ≤ zq_) (h : colophonref10_Copy.f k z1_ z5_ z3_ z0_ z2_ = some (r1, r2, r3, r4, r5)),
  Calls Tryd.prog 15 #[.agg #[.int .i64 z1_, .bool z5_, .string z3_, .slice zj_ z0_.length z9_, .slice zz_ z2_.length zq_]] w fun e w' => ∃ v3_ v4_ : Value, e = .returned (.agg #[.int .i64 r1, .bool r2, .string r3, v3_, v4_]) ∧ Kd.R k25 25 w' w.heap.size (fun k_ => some k_ ≠ (v4_ : Value).ownBlock) v3_ r4 ∧ Kd.R Kd.string 9 w' w.heap.size (fun _ => True) v4_ r5 ∧ Below w.heap.size w w' := by
 induction k using Nat.strongRecOn with
 | _ k ih =>
 intro z1_ z5_ z3_ zj_ z9_ z0_ zz_ zq_ z2_ r1 r2 r3 r4 r5 w jk_ jv_ jx_ jy_ h
 cases k with
 | zero => exact absurd h (by simp [colophonref10_Copy.f])
 | succ k =>
 simp only [colophonref10_Copy.f] at h
 have kP_ := Tryd.underlying25
 have x3_ := q0_.mk jk_
 have k4_ := q0_.mk jv_
 clear jk_ jv_
 have xX_ := q0_.mk jx_
 have xr_ := q0_.mk jy_
 clear jx_ jy_
 have HB := q0_.mk (Below.refl w.heap.size w)
 have H : (colophonref10_Copy.l0 k 0 z1_ z5_ z3_ z0_ z2_ z1_ z5_ z3_ ([] : List (S25))) = some (r1, r2, r3, r4, r5) := h
 clear h
 have H' := q0_.mk H
 clear H
 go_enter Tryd.func15, Tryd.ntmps15
 go_wp2_with (first | ((with_reducible refine qZ_ (N := 1) rfl ?_); refine qJ_ ?hg (N := 1) ?hd (cs := #[.int .i64 z1_, .bool z5_, .string z3_, .slice zj_ z0_.length z9_, .slice zz_ z2_.length zq_]) (t := 25) ?hr ?_; (case hd => rfl); (case hg => rfl); (case hr => first | (go_simp; done) | (go_simp; rfl)); intro jH_ hg w2 hbox hb; have n0_ := q0_.mk (q4_ (by repeat (first | (with_reducible first | exact HB.out | apply q6_ | apply q5_ | apply q7_) | exact HB.out)) hb); have n1_ := q0_.mk (hbox); have n2_ := q0_.mk ((by rw [hg]; exact (qw_ (by repeat (first | (with_reducible first | exact HB.out | apply q6_ | apply q5_ | apply q7_) | exact HB.out))) : w.heap.size ≤ jH_)); have n3_ := q0_.mk ((by rw [hg]; exact (qw_ (by repeat (first | (with_reducible first | exact HB.out | apply q6_ | apply q5_ | apply q7_) | exact HB.out))) : w.heap.size ≤ jH_)); clear HB; have HB := n0_; have zJ_ := n1_; have GW216 := n2_; have wg_ := n3_; clear n0_ n1_ n2_ n3_; clear hb hbox hg) | ((with_reducible refine qZ_ (N := 2) rfl ?_); refine qJ_ ?hg (N := 2) ?hd (cs := #[.int .i64 0, .bool false, .string (⟨#[]⟩ : ByteArray), .slice none 0 0, .slice none 0 0]) (t := 25) ?hr ?_; (case hd => rfl); (case hg => rfl); (case hr => first | (go_simp; done) | (go_simp; rfl)); intro xz_ hg w3 hbox hb; have n0_ := q0_.mk (q2_ (g := jH_) (o := .cells #[.int .i64 z1_, .bool z5_, .string z3_, .slice zj_ z0_.length z9_, .slice zz_ z2_.length zq_] 25 (0, 0)) (by (with_reducible repeat (first | refine q9_ ?_ _ | refine qz_ ?_ | refine q8_ ?_ _)); exact zJ_.out) hb); have n1_ := q0_.mk (q4_ (by repeat (first | (with_reducible first | exact HB.out | apply q6_ | apply q5_ | apply q7_ | refine qq_ ?_ wg_.out) | exact HB.out)) hb); have n2_ := q0_.mk (hbox); have n3_ := q0_.mk ((by rw [hg]; exact (qw_ (by repeat (first | (with_reducible first | exact HB.out | apply q6_ | apply q5_ | apply q7_ | refine qq_ ?_ wg_.out) | exact HB.out))) : w.heap.size ≤ xz_)); have n4_ := q0_.mk ((by rw [hg]; exact (qw_ (by repeat (first | (with_reducible first | exact HB.out | apply q6_ | apply q5_ | apply q7_ | refine qq_ ?_ wg_.out) | exact HB.out))) : w.heap.size ≤ xz_)); have n5_ := q0_.mk ((by rw [hg]; exact Nat.ne_of_lt (qY_ (g := jH_) (o := .cells #[.int .i64 z1_, .bool z5_, .string z3_, .slice zj_ z0_.length z9_, .slice zz_ z2_.length zq_] 25 (0, 0)) (by (with_reducible repeat (first | refine q9_ ?_ _ | refine qz_ ?_ | refine q8_ ?_ _)); exact zJ_.out)) : jH_ ≠ xz_)); have n6_ := q0_.mk ((by rw [hg]; exact Nat.ne_of_gt (qY_ (g := jH_) (o := .cells #[.int .i64 z1_, .bool z5_, .string z3_, .slice zj_ z0_.length z9_, .slice zz_ z2_.length zq_] 25 (0, 0)) (by (with_reducible repeat (first | refine q9_ ?_ _ | refine qz_ ?_ | refine q8_ ?_ _)); exact zJ_.out)) : xz_ ≠ jH_)); clear zJ_; clear HB; have zJ_ := n0_; have HB := n1_; have x6_ := n2_; have GW217 := n3_; have Zf_ := n4_; have Kx_ := n5_; have Kj_ := n6_; clear n0_ n1_ n2_ n3_ n4_ n5_ n6_; clear hb hbox hg; have hnb4 := Kx_.out; have hnc4 := Kj_.out; have w0_ : w3.cell? ⟨jH_, 0, none⟩ = some (.int .i64 z1_) := (q1_ zJ_.out 0).trans rfl; have vS_ : w3.cell? ⟨jH_, 1, none⟩ = some (.bool z5_) := (q1_ zJ_.out 1).trans rfl; have vs_ : w3.cell? ⟨jH_, 2, none⟩ = some (.string z3_) := (q1_ zJ_.out 2).trans rfl; have vR_ : w3.cell? ⟨jH_, 3, none⟩ = some (.slice zj_ z0_.length z9_) := (q1_ zJ_.out 3).trans rfl; have vr_ : w3.cell? ⟨jH_, 4, none⟩ = some (.slice zz_ z2_.length zq_) := (q1_ zJ_.out 4).trans rfl; have vK_ := q3_ zJ_.out 0; have vX_ := q3_ zJ_.out 1; have vJ_ := q3_ zJ_.out 2; have vZ_ := q3_ zJ_.out 3; have vQ_ := q3_ zJ_.out 4) | ((with_reducible refine qZ_ (N := 3) rfl ?_); refine qJ_ ?hg (N := 3) ?hd (cs := #[.int .i64 0, .bool false, .string (⟨#[]⟩ : ByteArray), .slice none 0 0, .slice none 0 0]) (t := 25) ?hr ?_; (case hd => rfl); (case hg => rfl); (case hr => first | (go_simp; done) | (go_simp; rfl)); intro x4_ hg w6 hbox hb; have n0_ := q0_.mk (q2_ (g := jH_) (o := .cells #[.int .i64 z1_, .bool z5_, .string z3_, .slice zj_ z0_.length z9_, .slice zz_ z2_.length zq_] 25 (0, 0)) (by (with_reducible repeat (first | refine q9_ ?_ _ | refine qz_ ?_ | refine q8_ ?_ _)); exact zJ_.out) hb); have n1_ := q0_.mk (q2_ (g := xz_) (o := .cells #[.int .i64 0, .bool false, .string (⟨#[]⟩ : ByteArray), .slice none 0 0, .slice none 0 0] 25 (0, 0)) (by (with_reducible repeat (first | refine q9_ ?_ _ | refine qz_ ?_ | refine q8_ ?_ _)); exact x6_.out) hb); have n2_ := q0_.mk (q4_ (by repeat (first | (with_reducible first | exact HB.out | apply q6_ | apply q5_ | apply q7_ | refine qq_ ?_ wg_.out | refine qq_ ?_ Zf_.out) | exact HB.out)) hb); have n3_ := q0_.mk (hbox); have n4_ := q0_.mk ((by rw [hg]; exact (qw_ (by repeat (first | (with_reducible first | exact HB.out | apply q6_ | apply q5_ | apply q7_ | refine qq_ ?_ wg_.out | refine qq_ ?_ Zf_.out) | exact HB.out))) : w.heap.size ≤ x4_)); have n5_ := q0_.mk ((by rw [hg]; exact (qw_ (by repeat (first | (with_reducible first | exact HB.out | apply q6_ | apply q5_ | apply q7_ | refine qq_ ?_ wg_.out | refine qq_ ?_ Zf_.out) | exact HB.out))) : w.heap.size ≤ x4_)); have n6_ := q0_.mk ((by rw [hg]; exact Nat.ne_of_lt (qY_ (g := jH_) (o := .cells #[.int .i64 z1_, .bool z5_, .string z3_, .slice zj_ z0_.length z9_, .slice zz_ z2_.length zq_] 25 (0, 0)) (by (with_reducible repeat (first | refine q9_ ?_ _ | refine qz_ ?_ | refine q8_ ?_ _)); exact zJ_.out)) : jH_ ≠ x4_)); have n7_ := q0_.mk ((by rw [hg]; exact Nat.ne_of_gt (qY_ (g := jH_) (o := .cells #[.int .i64 z1_, .bool z5_, .string z3_, .slice zj_ z0_.length z9_, .slice zz_ z2_.length zq_] 25 (0, 0)) (by (with_reducible repeat (first | refine q9_ ?_ _ | refine qz_ ?_ | refine q8_ ?_ _)); exact zJ_.out)) : x4_ ≠ jH_)); have n8_ := q0_.mk ((by rw [hg]; exact Nat.ne_of_lt (qY_ (g := xz_) (o := .cells #[.int .i64 0, .bool false, .string (⟨#[]⟩ : ByteArray), .slice none 0 0, .slice none 0 0] 25 (0, 0)) (by (with_reducible repeat (first | refine q9_ ?_ _ | refine qz_ ?_ | refine q8_ ?_ _)); exact x6_.out)) : xz_ ≠ x4_)); have n9_ := q0_.mk ((by rw [hg]; exact Nat.ne_of_gt (qY_ (g := xz_) (o := .cells #[.int .i64 0, .bool false, .string (⟨#[]⟩ : ByteArray), .slice none 0 0, .slice none 0 0] 25 (0, 0)) (by (with_reducible repeat (first | refine q9_ ?_ _ | refine qz_ ?_ | refine q8_ ?_ _)); exact x6_.out)) : x4_ ≠ xz_)); clear zJ_; clear x6_; clear HB; have zJ_ := n0_; have x6_ := n1_; have HB := n2_; have zR_ := n3_; have GW218 := n4_; have KV_ := n5_; have xJ_ := n6_; have Z9_ := n7_; have xZ_ := n8_; have Kz_ := n9_; clear n0_ n1_ n2_ n3_ n4_ n5_ n6_ n7_ n8_ n9_; clear hb hbox hg; have hnb7 := Z9_.out; have hnc7 := xJ_.out; have hnb8 := Kz_.out; have hnc8 := xZ_.out; have XW_ : w6.cell? ⟨x4_, 0, none⟩ = some (.int .i64 0) := (q1_ zR_.out 0).trans rfl; have XV_ : w6.cell? ⟨x4_, 1, none⟩ = some (.bool false) := (q1_ zR_.out 1).trans rfl; have XY_ : w6.cell? ⟨x4_, 2, none⟩ = some (.string (⟨#[]⟩ : ByteArray)) := (q1_ zR_.out 2).trans rfl; have XK_ : w6.cell? ⟨x4_, 3, none⟩ = some (.slice none 0 0) := (q1_ zR_.out 3).trans rfl; have XX_ : w6.cell? ⟨x4_, 4, none⟩ = some (.slice none 0 0) := (q1_ zR_.out 4).trans rfl; have X0_ := q3_ zR_.out 0; have JS_ := q3_ zR_.out 1; have Js_ := q3_ zR_.out 2; have JR_ := q3_ zR_.out 3; have Jr_ := q3_ zR_.out 4))
 go_loopg [4] k (fun kq v4 w' => ∃ (xY_ : Int) (jg_ : List (S25)) (xf_ : Value), v4 = .int .i64 xY_ ∧ q0_ (colophonref10_Copy.l0 kq xY_ z1_ z5_ z3_ z0_ z2_ z1_ z5_ z3_ jg_ = some (r1, r2, r3, r4, r5)) ∧ q0_ (kq ≤ k) ∧ q0_ (Kd.R k25 25 w' w.heap.size (fun k_ => k_ ≠ jH_ ∧ k_ ≠ xz_ ∧ k_ ≠ x4_) xf_ jg_) ∧ q0_ (w'.heap[jH_]? = some (.cells #[.int .i64 z1_, .bool z5_, .string z3_, (.slice zj_ z0_.length z9_), (.slice zz_ z2_.length zq_)] 25 (0, 0))) ∧ q0_ (w'.heap[xz_]? = some (.cells #[.int .i64 0, .bool false, .string (⟨#[]⟩ : ByteArray), (.slice none 0 0), (.slice none 0 0)] 25 (0, 0))) ∧ q0_ (w'.heap[x4_]? = some (.cells #[.int .i64 z1_, .bool z5_, .string z3_, xf_, (.slice none 0 0)] 25 (0, 0))) ∧ q0_ (Below w.heap.size w w'))
 case atStart => exact ⟨(0), (([] : List (S25))), (.slice none 0 0), (by first | rfl | (simp; done) | (simp [*]; done)), H', ⟨Nat.le_refl _⟩, ⟨by first | exact Kd.R_nil _ _ _ _ _ | exact Kd.N_nil _ _ _ _ _ | exact Kd.V_nil _ _ _ _ _ | exact Kd.Q_nil _ _ _ _ _ | exact Kd.S_nil _ _ _ _ _⟩, ⟨by (with_reducible repeat (first | refine q9_ ?_ _ | refine qz_ ?_ | refine q8_ ?_ _)); refine blk_far ?_ xJ_.out _; (with_reducible repeat (first | refine q9_ ?_ _ | refine qz_ ?_ | refine q8_ ?_ _)); refine blk_far ?_ xJ_.out _; (with_reducible repeat (first | refine q9_ ?_ _ | refine qz_ ?_ | refine q8_ ?_ _)); refine blk_far ?_ xJ_.out _; (with_reducible repeat (first | refine q9_ ?_ _ | refine qz_ ?_ | refine q8_ ?_ _)); refine blk_far ?_ xJ_.out _; (with_reducible repeat (first | refine q9_ ?_ _ | refine qz_ ?_ | refine q8_ ?_ _)); refine blk_far ?_ xJ_.out _; (with_reducible repeat (first | refine q9_ ?_ _ | refine qz_ ?_ | refine q8_ ?_ _)); exact zJ_.out⟩, ⟨by (with_reducible repeat (first | refine q9_ ?_ _ | refine qz_ ?_ | refine q8_ ?_ _)); refine blk_far ?_ xZ_.out _; (with_reducible repeat (first | refine q9_ ?_ _ | refine qz_ ?_ | refine q8_ ?_ _)); refine blk_far ?_ xZ_.out _; (with_reducible repeat (first | refine q9_ ?_ _ | refine qz_ ?_ | refine q8_ ?_ _)); refine blk_far ?_ xZ_.out _; (with_reducible repeat (first | refine q9_ ?_ _ | refine qz_ ?_ | refine q8_ ?_ _)); refine blk_far ?_ xZ_.out _; (with_reducible repeat (first | refine q9_ ?_ _ | refine qz_ ?_ | refine q8_ ?_ _)); refine blk_far ?_ xZ_.out _; (with_reducible repeat (first | refine q9_ ?_ _ | refine qz_ ?_ | refine q8_ ?_ _)); exact x6_.out⟩, ⟨by (with_reducible repeat (first | refine q9_ ?_ _ | refine qz_ ?_ | refine q8_ ?_ _)); refine qv_ (cs := #[.int .i64 z1_, .bool z5_, .string z3_, .slice none 0 0, .slice none 0 0]) ?_ 4 _ rfl; (with_reducible repeat (first | refine q9_ ?_ _ | refine qz_ ?_ | refine q8_ ?_ _)); refine qv_ (cs := #[.int .i64 z1_, .bool z5_, .string z3_, .slice none 0 0, .slice none 0 0]) ?_ 3 _ rfl; (with_reducible repeat (first | refine q9_ ?_ _ | refine qz_ ?_ | refine q8_ ?_ _)); refine qv_ (cs := #[.int .i64 z1_, .bool z5_, .string (⟨#[]⟩ : ByteArray), .slice none 0 0, .slice none 0 0]) ?_ 2 _ rfl; (with_reducible repeat (first | refine q9_ ?_ _ | refine qz_ ?_ | refine q8_ ?_ _)); refine qv_ (cs := #[.int .i64 z1_, .bool false, .string (⟨#[]⟩ : ByteArray), .slice none 0 0, .slice none 0 0]) ?_ 1 _ rfl; (with_reducible repeat (first | refine q9_ ?_ _ | refine qz_ ?_ | refine q8_ ?_ _)); refine qv_ (cs := #[.int .i64 0, .bool false, .string (⟨#[]⟩ : ByteArray), .slice none 0 0, .slice none 0 0]) ?_ 0 _ rfl; (with_reducible repeat (first | refine q9_ ?_ _ | refine qz_ ?_ | refine q8_ ?_ _)); exact zR_.out⟩, ⟨by repeat (first | (with_reducible first | exact HB.out | apply q6_ | apply q5_ | apply q7_ | refine qq_ ?_ wg_.out | refine qq_ ?_ Zf_.out | refine qq_ ?_ KV_.out) | exact HB.out)⟩⟩
 case round =>
  clear H'
  try clear c1
  try clear p2
  try clear c4
  try clear c7
  try clear c8
  try clear w0_
  try clear vS_
  try clear vs_
  try clear vR_
  try clear vr_
  try clear XW_
  try clear XV_
  try clear XY_
  try clear XK_
  try clear XX_
  try clear vK_
  try clear vX_
  try clear vJ_
  try clear vZ_
  try clear vQ_
  try clear X0_
  try clear JS_
  try clear Js_
  try clear JR_
  try clear Jr_
  obtain ⟨xY_, jg_, xf_, rfl, HA, HK1, j0_, zJ_, x6_, zR_, HB⟩ := hrel
  cases gk with
  | zero => exact absurd HA.out (by simp [colophonref10_Copy.l0])
  | succ k1 =>
   have H := HA.out
   clear HA
   simp only [colophonref10_Copy.l0] at H
   by_cases c10 : xY_ < (z0_.length : Int)
   ·
    rw [if_pos c10] at H
    have dS_ : decide (xY_ < (z0_.length : Int)) = true := decide_eq_true c10
    clear c10
    by_cases c11 : 0 ≤ xY_
    ·
     rw [if_pos c11] at H
     have Vw_ : decide (0 ≤ xY_) = true := decide_eq_true c11
     clear c11
     replace H := Option.bind_eq_some_iff.mp H
     obtain ⟨⟨t220, t221, t222, t223, t226⟩, A120, H⟩ := H
     replace H : (if jg_.length < 1759218604441 then (colophonref10_Copy.l0 k1 (wrap64 (xY_ + 1)) z1_ z5_ z3_ z0_ z2_ z1_ z5_ z3_ (jg_ ++ [(⟨t220, t221, t222, t223, t226⟩ : S25)])) else (none)) = some (r1, r2, r3, r4, r5) := H
     have A12 := q0_.mk A120
     clear A120
     by_cases c13 : jg_.length < 1759218604441
     ·
      rw [if_pos c13] at H
      have LMc13 := q0_.mk c13
      clear c13
      obtain ⟨y229, B2_⟩ : ∃ y_ : List (S25), y_ = (jg_ ++ [(⟨t220, t221, t222, t223, t226⟩ : S25)]) := ⟨_, rfl⟩
      replace H : (colophonref10_Copy.l0 k1 (wrap64 (xY_ + 1)) z1_ z5_ z3_ z0_ z2_ z1_ z5_ z3_ y229) = some (r1, r2, r3, r4, r5) := by first | (rw [B2_]; with_reducible exact H) | (have H2_ := (Option.bind_some _ _).symm.trans H; rw [B2_]; with_reducible exact H2_) | (have H2_ := (Option.bind_some _ _).symm.trans H; with_reducible exact H2_) | with_reducible exact H | (rw [B2_]; exact H) | exact H
      have Ny229 := q0_.mk B2_
      clear B2_
      have H' := q0_.mk H
      clear H
      have hnb14 := Kx_.out
      have hnc14 := Kj_.out
      have hnb15 := xJ_.out
      have hnc15 := Z9_.out
      have Qs_ : wr.cell? ⟨jH_, 0, none⟩ = some (.int .i64 z1_) := (q1_ zJ_.out 0).trans rfl
      have QR_ : wr.cell? ⟨jH_, 1, none⟩ = some (.bool z5_) := (q1_ zJ_.out 1).trans rfl
      have Qr_ : wr.cell? ⟨jH_, 2, none⟩ = some (.string z3_) := (q1_ zJ_.out 2).trans rfl
      have QP_ : wr.cell? ⟨jH_, 3, none⟩ = some (.slice zj_ z0_.length z9_) := (q1_ zJ_.out 3).trans rfl
      have Qp_ : wr.cell? ⟨jH_, 4, none⟩ = some (.slice zz_ z2_.length zq_) := (q1_ zJ_.out 4).trans rfl
      have QD_ := q3_ zJ_.out 0
      have Qd_ := q3_ zJ_.out 1
      have QB_ := q3_ zJ_.out 2
      have Qb_ := q3_ zJ_.out 3
      have QF_ := q3_ zJ_.out 4
      try go_wp2
      have n0_ := q0_.mk (Kd.R_drew j0_.out)
      have n1_ := q0_.mk (qz_ zJ_.out)
      have n2_ := q0_.mk (qz_ x6_.out)
      have n3_ := q0_.mk (qz_ zR_.out)
      have n4_ := q0_.mk (q7_ HB.out)
      clear j0_
      clear zJ_
      clear x6_
      clear zR_
      clear HB
      have j0_ := n0_
      have zJ_ := n1_
      have x6_ := n2_
      have zR_ := n3_
      have HB := n4_
      clear n0_ n1_ n2_ n3_ n4_
      have p219 : 0 ≤ (xY_ : Int) := of_decide_eq_true (by first | (with_reducible assumption) | assumption)
      have q219 : xY_ < (z0_.length : Int) := of_decide_eq_true (by first | (with_reducible assumption) | assumption)
      obtain ⟨Z6_, r8_, r5_, r7_, r4_, e219, J4_, J3_, J2_, J1_, J0_, B9_, BZ_, B8_, BQ_⟩ := at_T25 x3_.out xY_ p219 q219
      have kr_ := J0_
      have kR_ := J1_
      have ks_ := J2_
      have kS_ := J3_
      have y0_ := J4_
      cases e219
      replace J4_ := (HB.out.cell (World.block_lt_of_cell? w _ J4_)).trans J4_
      replace J3_ := (HB.out.cell (World.block_lt_of_cell? w _ J3_)).trans J3_
      replace J2_ := (HB.out.cell (World.block_lt_of_cell? w _ J2_)).trans J2_
      replace J1_ := (HB.out.cell (World.block_lt_of_cell? w _ J1_)).trans J1_
      replace J0_ := (HB.out.cell (World.block_lt_of_cell? w _ J0_)).trans J0_
      have Dz_ := q0_.mk BZ_
      have HC219_3 := q0_.mk B9_
      clear BZ_ B9_
      have Dq_ := q0_.mk BQ_
      have HC219_4 := q0_.mk B8_
      clear BQ_ B8_
      replace p219 := eq_true p219
      replace q219 := eq_true q219
      refine start_ (n := 12) (S := fun w' => w'.cell? ⟨x4_, 0, none⟩ = some (.int .i64 z1_) ∧ w'.cell? ⟨x4_, 1, none⟩ = some (.bool z5_) ∧ w'.cell? ⟨x4_, 2, none⟩ = some (.string z3_) ∧ w'.cell? ⟨x4_, 3, none⟩ = some (xf_) ∧ w'.cell? ⟨x4_, 4, none⟩ = some (.slice none 0 0) ∧ w'.cell? ⟨jH_, 0, none⟩ = some (.int .i64 z1_) ∧ w'.cell? ⟨jH_, 1, none⟩ = some (.bool z5_) ∧ w'.cell? ⟨jH_, 2, none⟩ = some (.string z3_) ∧ w'.cell? ⟨jH_, 3, none⟩ = some (.slice (some Z6_) z0_.length z9_) ∧ w'.cell? ⟨jH_, 4, none⟩ = some (.slice zz_ z2_.length zq_) ∧ w'.cell? (Z6_.add ((xY_).toNat * 5)) = some (.int .i64 ((qj_ z0_ xY_).f0)) ∧ w'.cell? ⟨(Z6_.add ((xY_).toNat * 5)).block, (Z6_.add ((xY_).toNat * 5)).off + 1, none⟩ = some (.bool ((qj_ z0_ xY_).f1)) ∧ w'.cell? ⟨(Z6_.add ((xY_).toNat * 5)).block, (Z6_.add ((xY_).toNat * 5)).off + 2, none⟩ = some (.string ((qj_ z0_ xY_).f2)) ∧ w'.cell? ⟨(Z6_.add ((xY_).toNat * 5)).block, (Z6_.add ((xY_).toNat * 5)).off + 3, none⟩ = some (.slice r8_ ((qj_ z0_ xY_).f3).length r5_) ∧ w'.cell? ⟨(Z6_.add ((xY_).toNat * 5)).block, (Z6_.add ((xY_).toNat * 5)).off + 4, none⟩ = some (.slice r7_ ((qj_ z0_ xY_).f4).length r4_)) (ds := [11]) #[false, false, false, false, false, false, false, false, false, false, false, false] (by kernel_rfl) rfl rfl ⟨(q1_ zR_.out 0).trans rfl, (q1_ zR_.out 1).trans rfl, (q1_ zR_.out 2).trans rfl, (q1_ zR_.out 3).trans rfl, (q1_ zR_.out 4).trans rfl, (q1_ zJ_.out 0).trans rfl, (q1_ zJ_.out 1).trans rfl, (q1_ zJ_.out 2).trans rfl, (q1_ zJ_.out 3).trans rfl, (q1_ zJ_.out 4).trans rfl, ((HB.out.cell (World.block_lt_of_cell? w _ y0_)).trans y0_), ((HB.out.cell (World.block_lt_of_cell? w _ kS_)).trans kS_), ((HB.out.cell (World.block_lt_of_cell? w _ ks_)).trans ks_), ((HB.out.cell (World.block_lt_of_cell? w _ kR_)).trans kR_), ((HB.out.cell (World.block_lt_of_cell? w _ kr_)).trans kr_)⟩ (fun hHeld => ?_); refine with_tabW colophonref10_Copy.tab5 colophonref10_Copy.bits5 (fun HT_ HW_ => ?_)
      generalize wr.drew = w17 at j0_ zJ_ x6_ zR_ HB Dz_ Dq_ J4_ J3_ J2_ J1_ J0_ hHeld ⊢
      refine pure_ (i := 0) (N := some 20) (v := ?_) (a' := ?_) #[true, false, false, false, false, false, false, false, false, false, false, false] rfl rfl (any_of HT_.out (by kernel_rfl)) (fun _ _ _ h => h) (Or.inl ⟨by rfl, ?_⟩) ?_ ?_
      rotate_left
      ·
       intro w'
       go_simp
       with_reducible rfl
      rotate_left
      ·
       simp only [Act.put, List.setIfInBounds_toArray, List.set_cons_zero, List.set_cons_succ, i64_w, i32_w]
       rfl
      refine pure_ (i := 2) (N := some 22) (v := ?_) (a' := ?_) #[true, false, true, false, false, false, false, false, false, false, false, false] rfl rfl (any_of HT_.out (by kernel_rfl)) (fun _ _ _ h => h) (Or.inl ⟨by rfl, ?_⟩) ?_ ?_
      rotate_left
      ·
       intro w'
       go_simp
       with_reducible rfl
      rotate_left
      ·
       simp only [Act.put, List.setIfInBounds_toArray, List.set_cons_zero, List.set_cons_succ, i64_w, i32_w]
       rfl
      refine pure_ (i := 4) (N := some 24) (v := ?_) (a' := ?_) #[true, false, true, false, true, false, false, false, false, false, false, false] rfl rfl (any_of HT_.out (by kernel_rfl)) (fun _ _ _ h => h) (Or.inl ⟨by rfl, ?_⟩) ?_ ?_
      rotate_left
      ·
       intro w'
       go_simp
       with_reducible rfl
      rotate_left
      ·
       simp only [Act.put, List.setIfInBounds_toArray, List.set_cons_zero, List.set_cons_succ, i64_w, i32_w]
       rfl
      refine take_ (i := 1) (N := some 21) (v := ?_) (a' := ?_) #[true, true, true, false, true, false, false, false, false, false, false, false] rfl rfl (take_ofW HT_.out HW_.out (by kernel_rfl)) (fun _ _ _ h => h) (Or.inl ⟨by rfl, ?_⟩) hHeld ?_ ?_
      rotate_left
      ·
       rintro w' ⟨s0, s1, s2, s3, s4, s5, s6, s7, s8, s9, s10, s11, s12, s13, s14⟩
       go_simp
       with_reducible rfl
      rotate_left
      ·
       simp only [Act.put, List.setIfInBounds_toArray, List.set_cons_zero, List.set_cons_succ, i64_w, i32_w]
       rfl
      refine take_ (i := 3) (N := some 23) (v := ?_) (a' := ?_) #[true, true, true, true, true, false, false, false, false, false, false, false] rfl rfl (take_ofW HT_.out HW_.out (by kernel_rfl)) (fun _ _ _ h => h) (Or.inl ⟨by rfl, ?_⟩) hHeld ?_ ?_
      rotate_left
      ·
       rintro w' ⟨s0, s1, s2, s3, s4, s5, s6, s7, s8, s9, s10, s11, s12, s13, s14⟩
       go_simp
       with_reducible rfl
      rotate_left
      ·
       simp only [Act.put, List.setIfInBounds_toArray, List.set_cons_zero, List.set_cons_succ, i64_w, i32_w]
       rfl
      refine pure_ (i := 5) (N := some 25) (v := ?_) (a' := ?_) #[true, true, true, true, true, true, false, false, false, false, false, false] rfl rfl (any_of HT_.out (by kernel_rfl)) (fun _ _ _ h => h) (Or.inl ⟨by rfl, ?_⟩) ?_ ?_
      rotate_left
      ·
       intro w'
       go_simp
       with_reducible rfl
      rotate_left
      ·
       simp only [Act.put, List.setIfInBounds_toArray, List.set_cons_zero, List.set_cons_succ, i64_w, i32_w]
       rfl
      refine take_ (i := 6) (N := some 26) (v := ?_) (a' := ?_) #[true, true, true, true, true, true, true, false, false, false, false, false] rfl rfl (take_ofW HT_.out HW_.out (by kernel_rfl)) (fun _ _ _ h => h) (Or.inl ⟨by rfl, ?_⟩) hHeld ?_ ?_
      rotate_left
      ·
       rintro w' ⟨s0, s1, s2, s3, s4, s5, s6, s7, s8, s9, s10, s11, s12, s13, s14⟩
       go_simp
       with_reducible rfl
      rotate_left
      ·
       simp only [Act.put, List.setIfInBounds_toArray, List.set_cons_zero, List.set_cons_succ, i64_w, i32_w]
       rfl
      refine one_ (i := 7) (N := some 27) #[true, true, true, true, true, true, true, true, false, false, false, false] rfl rfl (one_of HT_.out (by kernel_rfl)) (by decide) (fun K hK => ?_)
      refine goes_ Tryd.func15 (by kernel_rfl) rfl #[.agg #[.int .i64 ((qj_ z0_ xY_).f0), .bool ((qj_ z0_ xY_).f1), .string ((qj_ z0_ xY_).f2), .slice r8_ ((qj_ z0_ xY_).f3).length r5_, .slice r7_ ((qj_ z0_ xY_).f4).length r4_]] (by rfl) rfl rfl (by (try simp only [List.map_toArray, List.map_cons, List.map_nil]); first | done | rfl | (simp only [List.length_drop, List.length_take]; rfl)) ?_
      with_reducible refine (ih k1 (by have := HK1.out; omega) ((qj_ z0_ xY_).f0) ((qj_ z0_ xY_).f1) ((qj_ z0_ xY_).f2) _ _ ((qj_ z0_ xY_).f3) _ _ ((qj_ z0_ xY_).f4) t220 t221 t222 t223 t226 _ ?zQ_ ?zZ_ ?zY_ ?zK_ A12.out).mono ?_
      (case zQ_ => repeat (first | exact (Kd.qD_ Dz_.out HB.out) | (with_reducible refine Kd.qP_ ?_ _) | (with_reducible refine Kd.qr_ ?_ _) | (with_reducible refine Kd.qR_ ?_)))
      (case zZ_ => exact HC219_3.out)
      (case zY_ => repeat (first | exact (Kd.qD_ Dq_.out HB.out) | (with_reducible refine Kd.qP_ ?_ _) | (with_reducible refine Kd.qr_ ?_ _) | (with_reducible refine Kd.qR_ ?_)))
      (case zK_ => exact HC219_4.out)
      rintro e w18 ⟨v224, v227, rfl, ho0, ho1, hb⟩
      refine ⟨_, rfl, ?_⟩
      have n0_ := q0_.mk (Kd.qd_ (Kd.R_told (Kd.R_told (Kd.R_old (by (with_reducible repeat (first | apply Kd.R_alloc | apply Kd.R_drewN | apply Kd.R_drew)); exact j0_.out) hb) (Kd.R_base ho0)) (Kd.R_base ho1)) (fun _ h_ => h_.1))
      have n1_ := q0_.mk (Kd.R_lower (Kd.R_newB (Kd.R_newB (Kd.R_newB (Kd.R_new' ho0 (Kd.R_lt (by (with_reducible repeat (first | apply Kd.R_alloc | apply Kd.R_drewN | apply Kd.R_drew)); exact j0_.out))) (g := jH_) (o := .cells #[.int .i64 z1_, .bool z5_, .string z3_, .slice (some Z6_) z0_.length z9_, .slice zz_ z2_.length zq_] 25 (0, 0)) (by (with_reducible repeat (first | refine q9_ ?_ _ | refine qz_ ?_ | refine q8_ ?_ _)); exact zJ_.out)) (g := xz_) (o := .cells #[.int .i64 0, .bool false, .string (⟨#[]⟩ : ByteArray), .slice none 0 0, .slice none 0 0] 25 (0, 0)) (by (with_reducible repeat (first | refine q9_ ?_ _ | refine qz_ ?_ | refine q8_ ?_ _)); exact x6_.out)) (g := x4_) (o := .cells #[.int .i64 z1_, .bool z5_, .string z3_, xf_, .slice none 0 0] 25 (0, 0)) (by (with_reducible repeat (first | refine q9_ ?_ _ | refine qz_ ?_ | refine q8_ ?_ _)); exact zR_.out)) (qw_ (by repeat (first | (with_reducible first | exact HB.out | apply q6_ | apply q5_ | apply q7_ | refine qq_ ?_ wg_.out | refine qq_ ?_ Zf_.out | refine qq_ ?_ KV_.out) | exact HB.out))))
      have n2_ := q0_.mk (Kd.R_lower ho1 (qw_ (by repeat (first | (with_reducible first | exact HB.out | apply q6_ | apply q5_ | apply q7_ | refine qq_ ?_ wg_.out | refine qq_ ?_ Zf_.out | refine qq_ ?_ KV_.out) | exact HB.out))))
      have n3_ := q0_.mk (q2_ (g := jH_) (o := .cells #[.int .i64 z1_, .bool z5_, .string z3_, .slice (some Z6_) z0_.length z9_, .slice zz_ z2_.length zq_] 25 (0, 0)) (by (with_reducible repeat (first | refine q9_ ?_ _ | refine qz_ ?_ | refine q8_ ?_ _)); exact zJ_.out) hb)
      have n4_ := q0_.mk (q2_ (g := xz_) (o := .cells #[.int .i64 0, .bool false, .string (⟨#[]⟩ : ByteArray), .slice none 0 0, .slice none 0 0] 25 (0, 0)) (by (with_reducible repeat (first | refine q9_ ?_ _ | refine qz_ ?_ | refine q8_ ?_ _)); exact x6_.out) hb)
      have n5_ := q0_.mk (q2_ (g := x4_) (o := .cells #[.int .i64 z1_, .bool z5_, .string z3_, xf_, .slice none 0 0] 25 (0, 0)) (by (with_reducible repeat (first | refine q9_ ?_ _ | refine qz_ ?_ | refine q8_ ?_ _)); exact zR_.out) hb)
      have n6_ := q0_.mk (q4_ (by repeat (first | (with_reducible first | exact HB.out | apply q6_ | apply q5_ | apply q7_ | refine qq_ ?_ wg_.out | refine qq_ ?_ Zf_.out | refine qq_ ?_ KV_.out) | exact HB.out)) hb)
      clear j0_
      clear zJ_
      clear x6_
      clear zR_
      clear HB
      have j0_ := n0_
      have HO225 := n1_
      have HO228 := n2_
      have zJ_ := n3_
      have x6_ := n4_
      have zR_ := n5_
      have HB := n6_
      clear n0_ n1_ n2_ n3_ n4_ n5_ n6_
      (try clear hb)
      (try clear hb2)
      (try clear hk)
      (try clear hi)
      (try clear ho0)
      (try clear ho1)
      obtain ⟨PK_, px_, eo20⟩ := Kd.qp_ HO225.out
      (first | subst eo20 | (injection eo20 with f1_ f2_ f3_; have f4_ := f1_.symm; have f5_ := f3_.symm; clear f1_ f2_ f3_; subst f4_; subst f5_))
      obtain ⟨Ao21, co21, eo21⟩ := Kd.qp_ HO228.out
      (first | subst eo21 | (injection eo21 with f1_ f2_ f3_; have f4_ := f1_.symm; have f5_ := f3_.symm; clear f1_ f2_ f3_; subst f4_; subst f5_))
      refine hK.out _ _ ⟨(q1_ zR_.out 0).trans rfl, (q1_ zR_.out 1).trans rfl, (q1_ zR_.out 2).trans rfl, (q1_ zR_.out 3).trans rfl, (q1_ zR_.out 4).trans rfl, (q1_ zJ_.out 0).trans rfl, (q1_ zJ_.out 1).trans rfl, (q1_ zJ_.out 2).trans rfl, (q1_ zJ_.out 3).trans rfl, (q1_ zJ_.out 4).trans rfl, ((HB.out.cell (World.block_lt_of_cell? w _ y0_)).trans y0_), ((HB.out.cell (World.block_lt_of_cell? w _ kS_)).trans kS_), ((HB.out.cell (World.block_lt_of_cell? w _ ks_)).trans ks_), ((HB.out.cell (World.block_lt_of_cell? w _ kR_)).trans kR_), ((HB.out.cell (World.block_lt_of_cell? w _ kr_)).trans kr_)⟩ (fun hHeld => ?_)
      clear hK K
      refine norm_ (a' := ?_) ?_ ?_
      rotate_left
      ·
       show Act.put _ (some 27) _ = _
       simp only [Act.put, List.setIfInBounds_toArray, List.set_cons_zero, List.set_cons_succ, i64_w, i32_w]
       rfl
      refine one_ (i := 8) (N := some 28) #[true, true, true, true, true, true, true, true, true, false, false, false] rfl rfl (one_of HT_.out (by kernel_rfl)) (by decide) (fun K hK => ?_)
      refine value_ (w1 := ?_) (v := ?_) (by rfl) rfl ?_ ?_
      rotate_left 2
      ·
       go_simp
       constructor
       · rfl
       · rfl
      refine hK.out _ _ ⟨(q1_ (q8_ zR_.out _) 0).trans rfl, (q1_ (q8_ zR_.out _) 1).trans rfl, (q1_ (q8_ zR_.out _) 2).trans rfl, (q1_ (q8_ zR_.out _) 3).trans rfl, (q1_ (q8_ zR_.out _) 4).trans rfl, (q1_ (q8_ zJ_.out _) 0).trans rfl, (q1_ (q8_ zJ_.out _) 1).trans rfl, (q1_ (q8_ zJ_.out _) 2).trans rfl, (q1_ (q8_ zJ_.out _) 3).trans rfl, (q1_ (q8_ zJ_.out _) 4).trans rfl, (World.cell?_alloc_lt _ _ _ (World.block_lt_of_cell? _ _ (((HB.out.cell (World.block_lt_of_cell? w _ y0_)).trans y0_)))).trans (((HB.out.cell (World.block_lt_of_cell? w _ y0_)).trans y0_)), (World.cell?_alloc_lt _ _ _ (World.block_lt_of_cell? _ _ (((HB.out.cell (World.block_lt_of_cell? w _ kS_)).trans kS_)))).trans (((HB.out.cell (World.block_lt_of_cell? w _ kS_)).trans kS_)), (World.cell?_alloc_lt _ _ _ (World.block_lt_of_cell? _ _ (((HB.out.cell (World.block_lt_of_cell? w _ ks_)).trans ks_)))).trans (((HB.out.cell (World.block_lt_of_cell? w _ ks_)).trans ks_)), (World.cell?_alloc_lt _ _ _ (World.block_lt_of_cell? _ _ (((HB.out.cell (World.block_lt_of_cell? w _ kR_)).trans kR_)))).trans (((HB.out.cell (World.block_lt_of_cell? w _ kR_)).trans kR_)), (World.cell?_alloc_lt _ _ _ (World.block_lt_of_cell? _ _ (((HB.out.cell (World.block_lt_of_cell? w _ kr_)).trans kr_)))).trans (((HB.out.cell (World.block_lt_of_cell? w _ kr_)).trans kr_))⟩ (fun hHeld => ?_)
      clear hK K
      refine norm_ (a' := ?_) ?_ ?_
      rotate_left
      ·
       show Act.put _ (some 28) _ = _
       simp only [Act.put, List.setIfInBounds_toArray, List.set_cons_zero, List.set_cons_succ, i64_w, i32_w]
       rfl
      refine one_ (i := 9) (N := some 29) #[true, true, true, true, true, true, true, true, true, true, false, false] rfl rfl (one_of HT_.out (by kernel_rfl)) (by decide) (fun K hK => ?_)
      refine Kd.R_append_step k25 (w0 := w) w.heap.size (by rfl) (.tmp 21) (.tmp 28) 22 25 (.agg #[(.int .i64 0), (.bool false), (.string ⟨#[]⟩), (.slice none 0 0), (.slice none 0 0)]) 80 rfl Tryd.underlying22 info25 rfl (by decide) (by omega) xf_ jg_ (⟨t220, t221, t222, t223, t226⟩ : S25) [.int .i64 t220, .bool t221, .string t222, .slice PK_ t223.length px_, .slice Ao21 t226.length co21] (fun k_ => k_ ≠ jH_ ∧ k_ ≠ xz_ ∧ k_ ≠ x4_) (fun k_ => ((fun k_ => k_ ≠ jH_ ∧ k_ ≠ xz_ ∧ k_ ≠ x4_)) k_ ∧ some k_ ≠ (xf_ : Value).ownBlock) rfl rfl ?aP (fun _ hk => hk) ?aF ?aO ?aB ?aS ?aL ?_
      (case aP => exact k25_mkM _ _ _ (⟨t220, t221, t222, t223, t226⟩ : S25) (Kd.qd_ (HO225.out) (fun k_ hk => ⟨⟨hk.1.1.2, ⟨hk.1.2, hk.2⟩⟩, hk.1.1.1.2⟩)) (Kd.qd_ (Kd.R_types (Kd.R_types (Kd.R_types (Kd.R_apart' (HO228.out) (Kd.R_typed j0_.out) (by decide)) zJ_.out (by decide)) x6_.out (by decide)) zR_.out (by decide)) (fun k_ hk => ⟨⟨hk.1.1.2, ⟨hk.1.2, hk.2⟩⟩, hk.1.1.1.2⟩)))
      (case aB => exact (by repeat (first | (with_reducible first | exact HB.out | apply q6_ | apply q5_ | apply q7_ | refine qq_ ?_ wg_.out | refine qq_ ?_ Zf_.out | refine qq_ ?_ KV_.out) | exact HB.out)))
      (case aF => exact (fun k_ hk => ⟨Kd.freshB (g := jH_) (o := .cells #[.int .i64 z1_, .bool z5_, .string z3_, .slice (some Z6_) z0_.length z9_, .slice zz_ z2_.length zq_] 25 (0, 0)) (by (with_reducible repeat (first | refine q9_ ?_ _ | refine qz_ ?_ | refine q8_ ?_ _)); exact zJ_.out) k_ hk, Kd.freshB (g := xz_) (o := .cells #[.int .i64 0, .bool false, .string (⟨#[]⟩ : ByteArray), .slice none 0 0, .slice none 0 0] 25 (0, 0)) (by (with_reducible repeat (first | refine q9_ ?_ _ | refine qz_ ?_ | refine q8_ ?_ _)); exact x6_.out) k_ hk, Kd.freshB (g := x4_) (o := .cells #[.int .i64 z1_, .bool z5_, .string z3_, xf_, .slice none 0 0] 25 (0, 0)) (by (with_reducible repeat (first | refine q9_ ?_ _ | refine qz_ ?_ | refine q8_ ?_ _)); exact zR_.out) k_ hk⟩))
      (case aO => exact (by (with_reducible repeat (first | apply Kd.R_alloc | apply Kd.R_drewN | apply Kd.R_drew)); exact Kd.qd_ j0_.out (fun _ hk => ⟨hk.1.1.1, ⟨hk.1.1.2.1, hk.1.1.2.2⟩⟩)))
      (case aS => exact (qw_ (by repeat (first | (with_reducible first | exact HB.out | apply q6_ | apply q5_ | apply q7_ | refine qq_ ?_ wg_.out | refine qq_ ?_ Zf_.out | refine qq_ ?_ KV_.out) | exact HB.out))))
      (case aL => have := LMc13.out; omega)
      intro v230 w19 ho hb hg hat
      rw [← Ny229.out] at ho
      have n0_ := q0_.mk (blk_grown (g := jH_) (o := .cells #[.int .i64 z1_, .bool z5_, .string z3_, .slice (some Z6_) z0_.length z9_, .slice zz_ z2_.length zq_] 25 (0, 0)) (by (with_reducible repeat (first | refine q9_ ?_ _ | refine qz_ ?_ | refine q8_ ?_ _)); exact zJ_.out) hg (Kd.R_away j0_.out (fun _ hk => hk.1.1.1)))
      have n1_ := q0_.mk (blk_grown (g := xz_) (o := .cells #[.int .i64 0, .bool false, .string (⟨#[]⟩ : ByteArray), .slice none 0 0, .slice none 0 0] 25 (0, 0)) (by (with_reducible repeat (first | refine q9_ ?_ _ | refine qz_ ?_ | refine q8_ ?_ _)); exact x6_.out) hg (Kd.R_away j0_.out (fun _ hk => hk.1.1.2.1)))
      have n2_ := q0_.mk (blk_grown (g := x4_) (o := .cells #[.int .i64 z1_, .bool z5_, .string z3_, xf_, .slice none 0 0] 25 (0, 0)) (by (with_reducible repeat (first | refine q9_ ?_ _ | refine qz_ ?_ | refine q8_ ?_ _)); exact zR_.out) hg (Kd.R_away j0_.out (fun _ hk => hk.1.1.2.2)))
      have n3_ := q0_.mk (hb)
      have n4_ := q0_.mk (ho)
      clear zJ_
      clear x6_
      clear zR_
      clear HB
      clear j0_
      clear HO225
      clear HO228
      have zJ_ := n0_
      have x6_ := n1_
      have zR_ := n2_
      have HB := n3_
      have HO231 := n4_
      clear n0_ n1_ n2_ n3_ n4_
      clear ho hb hg hat
      obtain ⟨Ao22, co22, eo22⟩ := Kd.qp_ HO231.out
      (first | subst eo22 | (injection eo22 with f1_ f2_ f3_; have f4_ := f1_.symm; have f5_ := f3_.symm; clear f1_ f2_ f3_; subst f4_; subst f5_))
      refine hK.out _ _ ⟨(q1_ zR_.out 0).trans rfl, (q1_ zR_.out 1).trans rfl, (q1_ zR_.out 2).trans rfl, (q1_ zR_.out 3).trans rfl, (q1_ zR_.out 4).trans rfl, (q1_ zJ_.out 0).trans rfl, (q1_ zJ_.out 1).trans rfl, (q1_ zJ_.out 2).trans rfl, (q1_ zJ_.out 3).trans rfl, (q1_ zJ_.out 4).trans rfl, ((HB.out.cell (World.block_lt_of_cell? w _ y0_)).trans y0_), ((HB.out.cell (World.block_lt_of_cell? w _ kS_)).trans kS_), ((HB.out.cell (World.block_lt_of_cell? w _ ks_)).trans ks_), ((HB.out.cell (World.block_lt_of_cell? w _ kR_)).trans kR_), ((HB.out.cell (World.block_lt_of_cell? w _ kr_)).trans kr_)⟩ (fun hHeld => ?_)
      clear hK K
      refine norm_ (a' := ?_) ?_ ?_
      rotate_left
      ·
       show Act.put _ (some 29) _ = _
       simp only [Act.put, List.setIfInBounds_toArray, List.set_cons_zero, List.set_cons_succ, i64_w, i32_w]
       rfl
      refine pure_ (i := 10) (N := some 30) (v := ?_) (a' := ?_) #[true, true, true, true, true, true, true, true, true, true, true, false] rfl rfl (any_of HT_.out (by kernel_rfl)) (fun _ _ _ h => h) (Or.inl ⟨by rfl, ?_⟩) ?_ ?_
      rotate_left
      ·
       intro w'
       go_simp
       with_reducible rfl
      rotate_left
      ·
       simp only [Act.put, List.setIfInBounds_toArray, List.set_cons_zero, List.set_cons_succ, i64_w, i32_w]
       rfl
      refine last_ (i := 11) (N := none) #[true, true, true, true, true, true, true, true, true, true, true, true] rfl rfl (one_of HT_.out (by kernel_rfl)) (by decide) (fun K hK => ?_)
      have hs23 : w19.cell? ⟨x4_, 3, none⟩ = some (xf_) := (q1_ zR_.out 3).trans rfl
      have hfs23 := q3_ zR_.out 3
      have hns23_0 := xJ_.out
      have hns23_1 := xZ_.out
      have hms23_0 := Z9_.out
      have hms23_1 := Kz_.out
      refine skip_ (w1 := ?_) (by rfl) rfl ?_ ?_
      rotate_left
      ·
       go_simp
       rfl
      refine hK.out _ _ ?_
      clear hK K
      refine done_ (done_of HT_.out (by kernel_rfl)) ?_
      try go_wp2
      go_roundg k1
      case measure => have := HK1.out; omega
      case rel => exact ⟨(wrap64 (xY_ + 1)), (y229), (.slice Ao22 y229.length co22), (by first | rfl | (simp; done) | (simp [*]; done)), H', ⟨by have := HK1.out; omega⟩, ⟨by (with_reducible repeat (first | apply Kd.R_alloc | apply Kd.R_drewN | apply Kd.R_drew)); exact Kd.qd_ (Kd.qs_ (p := ⟨x4_, 3, none⟩) (Kd.qd_ HO231.out (fun k_ hk => (⟨hk, hk.2.2⟩ : _ ∧ k_ ≠ x4_))) (fun _ hk => hk.2) (.slice Ao22 y229.length co22)) (fun _ hk => ⟨hk.1.1, ⟨hk.1.2.1, hk.1.2.2⟩⟩)⟩, ⟨by (with_reducible repeat (first | refine q9_ ?_ _ | refine qz_ ?_ | refine q8_ ?_ _)); refine blk_far ?_ xJ_.out _; (with_reducible repeat (first | refine q9_ ?_ _ | refine qz_ ?_ | refine q8_ ?_ _)); exact zJ_.out⟩, ⟨by (with_reducible repeat (first | refine q9_ ?_ _ | refine qz_ ?_ | refine q8_ ?_ _)); refine blk_far ?_ xZ_.out _; (with_reducible repeat (first | refine q9_ ?_ _ | refine qz_ ?_ | refine q8_ ?_ _)); exact x6_.out⟩, ⟨by (with_reducible repeat (first | refine q9_ ?_ _ | refine qz_ ?_ | refine q8_ ?_ _)); refine qv_ (cs := #[.int .i64 z1_, .bool z5_, .string z3_, xf_, .slice none 0 0]) ?_ 3 _ rfl; (with_reducible repeat (first | refine q9_ ?_ _ | refine qz_ ?_ | refine q8_ ?_ _)); exact zR_.out⟩, ⟨by repeat (first | (with_reducible first | exact HB.out | apply q6_ | apply q5_ | apply q7_ | refine qq_ ?_ wg_.out | refine qq_ ?_ Zf_.out | refine qq_ ?_ KV_.out) | exact HB.out)⟩⟩
     ·
      rw [if_neg c13] at H
      exact absurd H (by simp)
    ·
     rw [if_neg c11] at H
     exact absurd H (by simp)
   ·
    rw [if_neg c10] at H
    have dS_ : decide (xY_ < (z0_.length : Int)) = false := decide_eq_false c10
    clear c10
    by_cases c24 : ([] : List ByteArray).length + z2_.length < 8796093022208
    ·
     rw [if_pos c24] at H
     have LMc24 := q0_.mk c24
     clear c24
     obtain ⟨y232, B1_⟩ : ∃ y_ : List ByteArray, y_ = (([] : List ByteArray) ++ z2_) := ⟨_, rfl⟩
     replace H : (some (z1_, z5_, z3_, jg_, y232)) = some (r1, r2, r3, r4, r5) := by first | (rw [B1_]; with_reducible exact H) | (have H2_ := (Option.bind_some _ _).symm.trans H; rw [B1_]; with_reducible exact H2_) | (have H2_ := (Option.bind_some _ _).symm.trans H; with_reducible exact H2_) | with_reducible exact H | (rw [B1_]; exact H) | exact H
     have Ny232 := q0_.mk B1_
     clear B1_
     simp only [Option.some.injEq, Prod.mk.injEq] at H
     obtain ⟨rfl, rfl, rfl, rfl, rfl⟩ := H
     have hnb25 := Kx_.out
     have hnc25 := Kj_.out
     have hnb26 := xJ_.out
     have hnc26 := Z9_.out
     have hcz27_0 : wr.cell? ⟨jH_, 0, none⟩ = some (.int .i64 z1_) := (q1_ zJ_.out 0).trans rfl
     have hcz27_1 : wr.cell? ⟨jH_, 1, none⟩ = some (.bool z5_) := (q1_ zJ_.out 1).trans rfl
     have hcz27_2 : wr.cell? ⟨jH_, 2, none⟩ = some (.string z3_) := (q1_ zJ_.out 2).trans rfl
     have hcz27_3 : wr.cell? ⟨jH_, 3, none⟩ = some (.slice zj_ z0_.length z9_) := (q1_ zJ_.out 3).trans rfl
     have hcz27_4 : wr.cell? ⟨jH_, 4, none⟩ = some (.slice zz_ z2_.length zq_) := (q1_ zJ_.out 4).trans rfl
     have hfz27_0 := q3_ zJ_.out 0
     have hfz27_1 := q3_ zJ_.out 1
     have hfz27_2 := q3_ zJ_.out 2
     have hfz27_3 := q3_ zJ_.out 3
     have hfz27_4 := q3_ zJ_.out 4
     go_wp2_with (first | ((with_reducible refine gate_builtin (b := .append) (xs := #[.tmp 31, .tmp 33]) rfl ?_); at_builtin; refine Kd.R_append_rows Kd.string (w0 := w) w.heap.size rfl (.tmp 31) (.tmp 33) 23 9 (.string ⟨#[]⟩) 16 rfl Tryd.underlying23 info9 rfl (by decide) (by omega) (.slice none 0 0) ([] : List ByteArray) z2_ _ _ _ (fun _ => True) (fun _ => False) rfl rfl ?aO ?aR (fun _ _ h => h) (fun _ h => h.elim) ?aF ?aB ?aS ?aL ?_; (case aR => repeat (first | exact (Kd.qD_ xX_.out HB.out) | (with_reducible refine Kd.qP_ ?_ _) | (with_reducible refine Kd.qr_ ?_ _) | (with_reducible refine Kd.qR_ ?_))); (case aB => exact (by repeat (first | (with_reducible first | exact HB.out | apply q6_ | apply q5_ | apply q7_ | refine qq_ ?_ wg_.out | refine qq_ ?_ Zf_.out | refine qq_ ?_ KV_.out) | exact HB.out))); (case aF => exact (fun _ _ => trivial)); (case aO => exact ((Kd.R_nil _ _ _ _ (fun _ => True)))); (case aS => exact (qw_ (by repeat (first | (with_reducible first | exact HB.out | apply q6_ | apply q5_ | apply q7_ | refine qq_ ?_ wg_.out | refine qq_ ?_ Zf_.out | refine qq_ ?_ KV_.out) | exact HB.out)))); (case aL => have := LMc24.out; omega); intro v233 w28 ho hb hg hat; rw [← Ny232.out] at ho; have n0_ := q0_.mk (Kd.R_after (Kd.R_apart_nil (by (with_reducible repeat (first | apply Kd.R_alloc | apply Kd.R_drewN | apply Kd.R_drew)); exact j0_.out)) hg hat); have n1_ := q0_.mk (blk_grown (g := jH_) (o := .cells #[.int .i64 z1_, .bool z5_, .string z3_, .slice zj_ z0_.length z9_, .slice zz_ z2_.length zq_] 25 (0, 0)) (by (with_reducible repeat (first | refine q9_ ?_ _ | refine qz_ ?_ | refine q8_ ?_ _)); exact zJ_.out) hg (by simp [Value.ownBlock])); have n2_ := q0_.mk (blk_grown (g := xz_) (o := .cells #[.int .i64 0, .bool false, .string (⟨#[]⟩ : ByteArray), .slice none 0 0, .slice none 0 0] 25 (0, 0)) (by (with_reducible repeat (first | refine q9_ ?_ _ | refine qz_ ?_ | refine q8_ ?_ _)); exact x6_.out) hg (by simp [Value.ownBlock])); have n3_ := q0_.mk (blk_grown (g := x4_) (o := .cells #[.int .i64 z1_, .bool z5_, .string z3_, xf_, .slice none 0 0] 25 (0, 0)) (by (with_reducible repeat (first | refine q9_ ?_ _ | refine qz_ ?_ | refine q8_ ?_ _)); exact zR_.out) hg (by simp [Value.ownBlock])); have n4_ := q0_.mk (hb); have n5_ := q0_.mk (ho); clear j0_; clear zJ_; clear x6_; clear zR_; clear HB; have j0_ := n0_; have zJ_ := n1_; have x6_ := n2_; have zR_ := n3_; have HB := n4_; have HO234 := n5_; clear n0_ n1_ n2_ n3_ n4_ n5_; clear ho hb hg hat; obtain ⟨Ao29, co29, eo29⟩ := Kd.qp_ HO234.out; subst eo29; have hnb30 := Kz_.out; have hnc30 := xZ_.out; have hcz31_0 : w28.cell? ⟨x4_, 0, none⟩ = some (.int .i64 z1_) := (q1_ zR_.out 0).trans rfl; have hcz31_1 : w28.cell? ⟨x4_, 1, none⟩ = some (.bool z5_) := (q1_ zR_.out 1).trans rfl; have hcz31_2 : w28.cell? ⟨x4_, 2, none⟩ = some (.string z3_) := (q1_ zR_.out 2).trans rfl; have hcz31_3 : w28.cell? ⟨x4_, 3, none⟩ = some (xf_) := (q1_ zR_.out 3).trans rfl; have hcz31_4 : w28.cell? ⟨x4_, 4, none⟩ = some (.slice none 0 0) := (q1_ zR_.out 4).trans rfl; have hfz31_0 := q3_ zR_.out 0; have hfz31_1 := q3_ zR_.out 1; have hfz31_2 := q3_ zR_.out 2; have hfz31_3 := q3_ zR_.out 3; have hfz31_4 := q3_ zR_.out 4; have hcz32_0 : w28.cell? ⟨xz_, 0, none⟩ = some (.int .i64 0) := (q1_ x6_.out 0).trans rfl; have hcz32_1 : w28.cell? ⟨xz_, 1, none⟩ = some (.bool false) := (q1_ x6_.out 1).trans rfl; have hcz32_2 : w28.cell? ⟨xz_, 2, none⟩ = some (.string (⟨#[]⟩ : ByteArray)) := (q1_ x6_.out 2).trans rfl; have hcz32_3 : w28.cell? ⟨xz_, 3, none⟩ = some (.slice none 0 0) := (q1_ x6_.out 3).trans rfl; have hcz32_4 : w28.cell? ⟨xz_, 4, none⟩ = some (.slice none 0 0) := (q1_ x6_.out 4).trans rfl; have hfz32_0 := q3_ x6_.out 0; have hfz32_1 := q3_ x6_.out 1; have hfz32_2 := q3_ x6_.out 2; have hfz32_3 := q3_ x6_.out 3; have hfz32_4 := q3_ x6_.out 4; obtain ⟨Ao33, co33, eo33⟩ := Kd.qp_ j0_.out; subst eo33))
     refine bodyPost_ret (results_cell_row rfl _ _ xz_ 25 #[.int .i64 z1_, .bool z5_, .string z3_, .slice Ao33 jg_.length co33, .slice Ao29 y232.length co29] (0, 0) _ rfl (by (with_reducible repeat (first | refine q9_ ?_ _ | refine qz_ ?_ | refine q8_ ?_ _)); refine qv_ (cs := #[.int .i64 z1_, .bool z5_, .string z3_, .slice Ao33 jg_.length co33, .slice none 0 0]) ?_ 4 _ rfl; (with_reducible repeat (first | refine q9_ ?_ _ | refine qz_ ?_ | refine q8_ ?_ _)); refine qv_ (cs := #[.int .i64 z1_, .bool z5_, .string z3_, .slice none 0 0, .slice none 0 0]) ?_ 3 _ rfl; (with_reducible repeat (first | refine q9_ ?_ _ | refine qz_ ?_ | refine q8_ ?_ _)); refine qv_ (cs := #[.int .i64 z1_, .bool z5_, .string (⟨#[]⟩ : ByteArray), .slice none 0 0, .slice none 0 0]) ?_ 2 _ rfl; (with_reducible repeat (first | refine q9_ ?_ _ | refine qz_ ?_ | refine q8_ ?_ _)); refine qv_ (cs := #[.int .i64 z1_, .bool false, .string (⟨#[]⟩ : ByteArray), .slice none 0 0, .slice none 0 0]) ?_ 1 _ rfl; (with_reducible repeat (first | refine q9_ ?_ _ | refine qz_ ?_ | refine q8_ ?_ _)); refine qv_ (cs := #[.int .i64 0, .bool false, .string (⟨#[]⟩ : ByteArray), .slice none 0 0, .slice none 0 0]) ?_ 0 _ rfl; (with_reducible repeat (first | refine q9_ ?_ _ | refine qz_ ?_ | refine q8_ ?_ _)); refine blk_far ?_ xZ_.out _; (with_reducible repeat (first | refine q9_ ?_ _ | refine qz_ ?_ | refine q8_ ?_ _)); exact x6_.out) Tryd.underlying25 rfl (by kernel_rfl)) rfl ?_
     exact ⟨_, _, by first | rfl | (simp [qk_, qy_] <;> rfl) | (simp [qk_, qy_] <;> decide +kernel) | (simp [*, qk_, qy_] <;> rfl), by (with_reducible repeat (first | apply Kd.R_alloc | apply Kd.R_drewN | apply Kd.R_drew)); exact Kd.qd_ (Kd.qs_ (p := ⟨xz_, 4, none⟩) (Kd.qs_ (p := ⟨xz_, 3, none⟩) (Kd.qs_ (p := ⟨xz_, 2, none⟩) (Kd.qs_ (p := ⟨xz_, 1, none⟩) (Kd.qs_ (p := ⟨xz_, 0, none⟩) (Kd.qs_ (p := ⟨x4_, 4, none⟩) (Kd.qd_ (Kd.qd_ j0_.out (fun k_ hk => (⟨hk, hk.1.2.2⟩ : _ ∧ k_ ≠ x4_))) (fun k_ hk => (⟨hk, hk.1.1.2.1⟩ : _ ∧ k_ ≠ xz_))) (fun _ hk => hk.1.2) (.slice Ao29 y232.length co29)) (fun _ hk => hk.2) (.int .i64 z1_)) (fun _ hk => hk.2) (.bool z5_)) (fun _ hk => hk.2) (.string z3_)) (fun _ hk => hk.2) (.slice Ao33 jg_.length co33)) (fun _ hk => hk.2) (.slice Ao29 y232.length co29)) (fun _ hk => hk.1.1.2), by (with_reducible repeat (first | apply Kd.R_alloc | apply Kd.R_drewN | apply Kd.R_drew)); exact Kd.qd_ (Kd.qs_ (p := ⟨xz_, 4, none⟩) (Kd.qs_ (p := ⟨xz_, 3, none⟩) (Kd.qs_ (p := ⟨xz_, 2, none⟩) (Kd.qs_ (p := ⟨xz_, 1, none⟩) (Kd.qs_ (p := ⟨xz_, 0, none⟩) (Kd.qs_ (p := ⟨x4_, 4, none⟩) (Kd.R_types (Kd.R_types HO234.out zR_.out (by decide)) x6_.out (by decide)) (fun _ hk => hk.1.2) (.slice Ao29 y232.length co29)) (fun _ hk => hk.2) (.int .i64 z1_)) (fun _ hk => hk.2) (.bool z5_)) (fun _ hk => hk.2) (.string z3_)) (fun _ hk => hk.2) (.slice Ao33 jg_.length co33)) (fun _ hk => hk.2) (.slice Ao29 y232.length co29)) (fun _ hk => trivial), by repeat (first | (with_reducible first | exact HB.out | apply q6_ | apply q5_ | apply q7_ | refine qq_ ?_ wg_.out | refine qq_ ?_ Zf_.out | refine qq_ ?_ KV_.out) | exact HB.out)⟩
    ·
     rw [if_neg c24] at H
     exact absurd H (by simp)
end Go.Proofs.YtfpmompdgmklmaaDoor.P
