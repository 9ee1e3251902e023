-- Written by xprint.py (a program of this work) over the kit's printer. Not trusted: Lean checks it.
import Derived.Test.YtfpmompdgmklmaaDoorP0
import Derived.Test.YtfpmompdgmklmaaDoorP2
import Derived.Test.YtfpmompdgmklmaaDoorP5
import Derived.Test.YtfpmompdgmklmaaDoorV2
import Derived.Test.YtfpmompdgmklmaaDoorVA
namespace Go.Proofs.YtfpmompdgmklmaaDoor.P
attribute [-simp] List.length_drop List.length_take ByteArray.size_append
open Go.RowKit Go.Proofs.YtfpmompdgmklmaaDoorW.PrintWords Go.Proofs.YtfpmompdgmklmaaDoorW.PrintLast Go.Proofs.YtfpmompdgmklmaaDoorW.PrintMore
attribute [local go_sem] max2_int min2_int max_two min_two max_three min_three max_four min_four   -- for this text's walks alone
set_option linter.unusedVariables false
set_option linter.unusedSimpArgs false

/-! ### colophonlaw10_ValueNumbers: function 9 -/
mutual
def colophonlaw10_ValueNumbers.j0 : Nat → Int → Int → ByteArray → Int → Bool → ByteArray → List (S25) → List ByteArray → Int → Bool → ByteArray → List (S25) → List ByteArray → Option (Bool)
  | 0, _, _, _, _, _, _, _, _, _, _, _, _, _ => none
  | k + 1, x0, x1, x7, x404000, x404001, x404002, x404003, x404004, x405000, x405001, x405002, x405003, x405004 => colophonlaw10_ValueNumbers.l0 k x0 x1 x7 0 x404000 x404001 x404002 x404003 x404004 x405000 x405001 x405002 x405003 x405004
def colophonlaw10_ValueNumbers.l0 : Nat → Int → Int → ByteArray → Int → Int → Bool → ByteArray → List (S25) → List ByteArray → Int → Bool → ByteArray → List (S25) → List ByteArray → Option (Bool)
  | 0, _, _, _, _, _, _, _, _, _, _, _, _, _, _ => none
  | k + 1, x0, x1, x7, x8, x404000, x404001, x404002, x404003, x404004, x405000, x405001, x405002, x405003, x405004 => if x8 < (x7.size : Int) then (if 0 ≤ x8 then (if (bt x7 x8) < 48 then (some false) else (if (bt x7 x8) > 57 then (some false) else (if x8 = 0 then (if (bt x7 x8) = 48 then (if (x7.size : Int) > 1 then (some false) else (colophonlaw10_ValueNumbers.l0 k x0 x1 x7 (wrap64 (x8 + 1)) x404000 x404001 x404002 x404003 x404004 x405000 x405001 x405002 x405003 x405004)) else (colophonlaw10_ValueNumbers.l0 k x0 x1 x7 (wrap64 (x8 + 1)) x404000 x404001 x404002 x404003 x404004 x405000 x405001 x405002 x405003 x405004)) else (colophonlaw10_ValueNumbers.l0 k x0 x1 x7 (wrap64 (x8 + 1)) x404000 x404001 x404002 x404003 x404004 x405000 x405001 x405002 x405003 x405004)))) else (none)) else (if (x7.size : Int) > 0 then ((value_Equal.f x404000 x404001 x404002 x404003 x404004 x405000 x405001 x405002 x405003 x405004).bind fun t405 => (if (t405 == (x0 == x1)) = true then ((value_Check.f k x404000 x404001 x404002 x404003 x404004).bind fun t406 => (if t406 = 0 then ((colophonlaw10_awake.f).bind fun t407 => (some t407)) else (some false))) else (some false))) else (some false))
end
def colophonlaw10_ValueNumbers.f (k : Nat) (a0 : Int) (a1 : Int) : Option (Bool) := (value_Number.f a0).bind fun bt385 => ((value_Number.f a1).bind fun bt394 => (if a0 < 0 then (if (bt385.2.2.1.size : Int) = 0 then (some false) else (if 0 < (bt385.2.2.1.size : Int) then (if (bt bt385.2.2.1 0) = 45 then (if 1 ≤ (bt385.2.2.1.size : Int) then (colophonlaw10_ValueNumbers.j0 k a0 a1 (bt385.2.2.1.extract 1 bt385.2.2.1.size) bt385.1 bt385.2.1 bt385.2.2.1 bt385.2.2.2.1 bt385.2.2.2.2 bt394.1 bt394.2.1 bt394.2.2.1 bt394.2.2.2.1 bt394.2.2.2.2) else (none)) else (some false)) else (none))) else (colophonlaw10_ValueNumbers.j0 k a0 a1 bt385.2.2.1 bt385.1 bt385.2.1 bt385.2.2.1 bt385.2.2.2.1 bt385.2.2.2.2 bt394.1 bt394.2.1 bt394.2.2.1 bt394.2.2.2.1 bt394.2.2.2.2)))
theorem colophonlaw10_ValueNumbers.mono_l : ∀ k, (∀ y0 y1 y2 y3 y4 y5 y6 y7 y8 y9 y10 y11 y12, LeO (colophonlaw10_ValueNumbers.j0 k y0 y1 y2 y3 y4 y5 y6 y7 y8 y9 y10 y11 y12) (colophonlaw10_ValueNumbers.j0 (k + 1) y0 y1 y2 y3 y4 y5 y6 y7 y8 y9 y10 y11 y12)) ∧ (∀ y0 y1 y2 y3 y4 y5 y6 y7 y8 y9 y10 y11 y12 y13, LeO (colophonlaw10_ValueNumbers.l0 k y0 y1 y2 y3 y4 y5 y6 y7 y8 y9 y10 y11 y12 y13) (colophonlaw10_ValueNumbers.l0 (k + 1) y0 y1 y2 y3 y4 y5 y6 y7 y8 y9 y10 y11 y12 y13))
  | 0 => ⟨fun _ _ _ _ _ _ _ _ _ _ _ _ _ r h => by simp [colophonlaw10_ValueNumbers.j0] at h, fun _ _ _ _ _ _ _ _ _ _ _ _ _ _ r h => by simp [colophonlaw10_ValueNumbers.l0] at h⟩
  | k + 1 => by
    obtain ⟨ih0, ih1⟩ := colophonlaw10_ValueNumbers.mono_l k
    refine ⟨?_, ?_⟩
    · intro y0 y1 y2 y3 y4 y5 y6 y7 y8 y9 y10 y11 y12
      unfold colophonlaw10_ValueNumbers.j0
      repeat' first
      | (with_reducible exact ih0 _ _ _ _ _ _ _ _ _ _ _ _ _)
      | (with_reducible exact ih1 _ _ _ _ _ _ _ _ _ _ _ _ _ _)
      | (with_reducible exact value_Check.mono _ _ _ _ _ _)
      | (with_reducible exact LeO.refl _)
      | (with_reducible exact LeO.none _)
      | (with_reducible refine LeO.ite ?_ ?_)
      | (with_reducible refine LeO.bind ?_ (fun _ => ?_))
      | exact ih0 _ _ _ _ _ _ _ _ _ _ _ _ _
      | exact ih1 _ _ _ _ _ _ _ _ _ _ _ _ _ _
      | exact value_Check.mono _ _ _ _ _ _
      | exact LeO.none _
      | refine LeO.ite ?_ ?_
      | refine LeO.bind ?_ (fun _ => ?_)
    · intro y0 y1 y2 y3 y4 y5 y6 y7 y8 y9 y10 y11 y12 y13
      unfold colophonlaw10_ValueNumbers.l0
      repeat' first
      | (with_reducible exact ih0 _ _ _ _ _ _ _ _ _ _ _ _ _)
      | (with_reducible exact ih1 _ _ _ _ _ _ _ _ _ _ _ _ _ _)
      | (with_reducible exact value_Check.mono _ _ _ _ _ _)
      | (with_reducible exact LeO.refl _)
      | (with_reducible exact LeO.none _)
      | (with_reducible refine LeO.ite ?_ ?_)
      | (with_reducible refine LeO.bind ?_ (fun _ => ?_))
      | exact ih0 _ _ _ _ _ _ _ _ _ _ _ _ _
      | exact ih1 _ _ _ _ _ _ _ _ _ _ _ _ _ _
      | exact value_Check.mono _ _ _ _ _ _
      | exact LeO.none _
      | refine LeO.ite ?_ ?_
      | refine LeO.bind ?_ (fun _ => ?_)
theorem colophonlaw10_ValueNumbers.mono : ∀ a0 a1 k, LeO (colophonlaw10_ValueNumbers.f k a0 a1) (colophonlaw10_ValueNumbers.f (k + 1) a0 a1) := by
  intro a0 a1 k
  obtain ⟨ih0, ih1⟩ := colophonlaw10_ValueNumbers.mono_l k
  unfold colophonlaw10_ValueNumbers.f
  repeat' first
      | (with_reducible exact ih0 _ _ _ _ _ _ _ _ _ _ _ _ _)
      | (with_reducible exact ih1 _ _ _ _ _ _ _ _ _ _ _ _ _ _)
      | (with_reducible exact value_Check.mono _ _ _ _ _ _)
      | (with_reducible exact LeO.refl _)
      | (with_reducible exact LeO.none _)
      | (with_reducible refine LeO.ite ?_ ?_)
      | (with_reducible refine LeO.bind ?_ (fun _ => ?_))
      | exact ih0 _ _ _ _ _ _ _ _ _ _ _ _ _
      | exact ih1 _ _ _ _ _ _ _ _ _ _ _ _ _ _
      | exact value_Check.mono _ _ _ _ _ _
      | exact LeO.none _
      | refine LeO.ite ?_ ?_
      | refine LeO.bind ?_ (fun _ => ?_)
set_option maxHeartbeats 8000000 in
set_option maxRecDepth 100000 in
theorem colophonlaw10_ValueNumbers.calls (k : Nat) (a0 : Int) (a1 : Int) (r : Bool) (w : World) (hT : TAB w) (h : colophonlaw10_ValueNumbers.f k a0 a1 = some r) :
    Calls Tryd.prog 9 #[.int .i64 a0, .int .i64 a1] w fun e w' => e = .returned (.bool r) ∧ Below w.heap.size w w' := by
  have hu25 := Tryd.underlying25
  have HT := Aside0.mk hT
  clear hT
  have HB := Aside0.mk (Below.refl w.heap.size w)
  have H : ((value_Number.f a0).bind fun bt385 => ((value_Number.f a1).bind fun bt394 => (if a0 < 0 then (if (bt385.2.2.1.size : Int) = 0 then (some false) else (if 0 < (bt385.2.2.1.size : Int) then (if (bt bt385.2.2.1 0) = 45 then (if 1 ≤ (bt385.2.2.1.size : Int) then (colophonlaw10_ValueNumbers.j0 k a0 a1 (bt385.2.2.1.extract 1 bt385.2.2.1.size) bt385.1 bt385.2.1 bt385.2.2.1 bt385.2.2.2.1 bt385.2.2.2.2 bt394.1 bt394.2.1 bt394.2.2.1 bt394.2.2.2.1 bt394.2.2.2.2) else (none)) else (some false)) else (none))) else (colophonlaw10_ValueNumbers.j0 k a0 a1 bt385.2.2.1 bt385.1 bt385.2.1 bt385.2.2.1 bt385.2.2.2.1 bt385.2.2.2.2 bt394.1 bt394.2.1 bt394.2.2.1 bt394.2.2.2.1 bt394.2.2.2.2)))) = some r := h
  clear h
  replace H := Option.bind_eq_some_iff.mp H
  obtain ⟨⟨t385, t386, t387, t388, t391⟩, A30, H⟩ := H
  replace H : ((value_Number.f a1).bind fun bt394 => (if a0 < 0 then (if (t387.size : Int) = 0 then (some false) else (if 0 < (t387.size : Int) then (if (bt t387 0) = 45 then (if 1 ≤ (t387.size : Int) then (colophonlaw10_ValueNumbers.j0 k a0 a1 (t387.extract 1 t387.size) t385 t386 t387 t388 t391 bt394.1 bt394.2.1 bt394.2.2.1 bt394.2.2.2.1 bt394.2.2.2.2) else (none)) else (some false)) else (none))) else (colophonlaw10_ValueNumbers.j0 k a0 a1 t387 t385 t386 t387 t388 t391 bt394.1 bt394.2.1 bt394.2.2.1 bt394.2.2.2.1 bt394.2.2.2.2))) = some r := H
  have A3 := Aside0.mk A30
  clear A30
  replace H := Option.bind_eq_some_iff.mp H
  obtain ⟨⟨t394, t395, t396, t397, t400⟩, A40, H⟩ := H
  replace H : (if a0 < 0 then (if (t387.size : Int) = 0 then (some false) else (if 0 < (t387.size : Int) then (if (bt t387 0) = 45 then (if 1 ≤ (t387.size : Int) then (colophonlaw10_ValueNumbers.j0 k a0 a1 (t387.extract 1 t387.size) t385 t386 t387 t388 t391 t394 t395 t396 t397 t400) else (none)) else (some false)) else (none))) else (colophonlaw10_ValueNumbers.j0 k a0 a1 t387 t385 t386 t387 t388 t391 t394 t395 t396 t397 t400)) = some r := H
  have A4 := Aside0.mk A40
  clear A40
  have HC5 := Aside0.mk H
  clear H
  go_enter Tryd.func9, Tryd.ntmps9
  go_upto_if 16 with (first | ((with_reducible refine gate_callee (f := 26) rfl ?_); refine goesL_ (some 10) rfl rfl Tryd.func26 (by kernel_rfl) rfl #[.int .i64 a0] rfl (by (try simp only [List.map_toArray, List.map_cons, List.map_nil]); first | done | rfl | (simp only [List.length_drop, List.length_take]; rfl)) ?_; (with_reducible refine (value_Number.calls a0 t385 t386 t387 t388 t391 _ ?side1 A3.out).mono ?_); (case side1 => exact TAB.below HT.out (by repeat (first | (with_reducible first | exact HB.out | apply below_alloc | apply pw_below_drewN | apply below_drew1) | exact HB.out))); rintro e w6 ⟨v389, v392, rfl, ho0, ho1, hb⟩; refine ⟨_, rfl, ?_⟩; have n0_ := Aside0.mk (Kd.R_lower ho0 (below_size (by repeat (first | (with_reducible first | exact HB.out | apply below_alloc | apply pw_below_drewN | apply below_drew1) | exact HB.out)))); have n1_ := Aside0.mk (Kd.R_lower ho1 (below_size (by repeat (first | (with_reducible first | exact HB.out | apply below_alloc | apply pw_below_drewN | apply below_drew1) | exact HB.out)))); have n2_ := Aside0.mk (below_step (by repeat (first | (with_reducible first | exact HB.out | apply below_alloc | apply pw_below_drewN | apply below_drew1) | exact HB.out)) hb); clear HB; have HO390 := n0_; have HO393 := n1_; have HB := n2_; clear n0_ n1_ n2_; (try clear hb); (try clear hb2); (try clear hk); (try clear hi); (try clear ho0); (try clear ho1)) | ((with_reducible refine gate_callee (f := 26) rfl ?_); refine goesL_ (some 12) rfl rfl Tryd.func26 (by kernel_rfl) rfl #[.int .i64 a1] rfl (by (try simp only [List.map_toArray, List.map_cons, List.map_nil]); first | done | rfl | (simp only [List.length_drop, List.length_take]; rfl)) ?_; (with_reducible refine (value_Number.calls a1 t394 t395 t396 t397 t400 _ ?side1 A4.out).mono ?_); (case side1 => exact TAB.below HT.out (by repeat (first | (with_reducible first | exact HB.out | apply below_alloc | apply pw_below_drewN | apply below_drew1) | exact HB.out))); rintro e w7 ⟨v398, v401, rfl, ho0, ho1, hb⟩; refine ⟨_, rfl, ?_⟩; have n0_ := Aside0.mk (Kd.R_mono (Kd.R_told (Kd.R_told (Kd.R_old (by (with_reducible repeat (first | apply Kd.R_alloc | apply Kd.R_drewN | apply Kd.R_drew)); exact HO390.out) hb) (Kd.R_base ho0)) (Kd.R_base ho1)) (fun _ h_ => h_.1)); have n1_ := Aside0.mk (Kd.R_elder' (by (with_reducible repeat (first | apply Kd.R_alloc | apply Kd.R_drewN | apply Kd.R_drew)); exact HO393.out) (Kd.R_base ho1) hb); have n2_ := Aside0.mk (Kd.R_lower (Kd.R_new' (Kd.R_new' ho0 (Kd.R_lt (by (with_reducible repeat (first | apply Kd.R_alloc | apply Kd.R_drewN | apply Kd.R_drew)); exact HO390.out))) (Kd.R_lt (by (with_reducible repeat (first | apply Kd.R_alloc | apply Kd.R_drewN | apply Kd.R_drew)); exact HO393.out))) (below_size (by repeat (first | (with_reducible first | exact HB.out | apply below_alloc | apply pw_below_drewN | apply below_drew1) | exact HB.out)))); have n3_ := Aside0.mk (Kd.R_lower (Kd.R_new' ho1 (Kd.R_lt (by (with_reducible repeat (first | apply Kd.R_alloc | apply Kd.R_drewN | apply Kd.R_drew)); exact HO393.out))) (below_size (by repeat (first | (with_reducible first | exact HB.out | apply below_alloc | apply pw_below_drewN | apply below_drew1) | exact HB.out)))); have n4_ := Aside0.mk (below_step (by repeat (first | (with_reducible first | exact HB.out | apply below_alloc | apply pw_below_drewN | apply below_drew1) | exact HB.out)) hb); clear HO390; clear HO393; clear HB; have HO390 := n0_; have HO393 := n1_; have HO399 := n2_; have HO402 := n3_; have HB := n4_; clear n0_ n1_ n2_ n3_ n4_; (try clear hb); (try clear hb2); (try clear hk); (try clear hi); (try clear ho0); (try clear ho1)) | ((with_reducible refine gate_dst (N := 5) rfl ?_); (try (refine gate_guard (by rfl) ?_; dsimp only)); refine box_event ?hg (N := 5) ?hd (cs := #[.int .i64 0, .bool false, .string (⟨#[]⟩ : ByteArray), .slice none 0 0, .slice none 0 0]) (t := 25) ?hr ?_; (case hd => rfl); (case hg => rfl); (case hr => first | (go_simp; done) | (go_simp; rfl)); intro gb403 hg w8 hbox hb; have n0_ := Aside0.mk (Kd.R_below (Kd.R_elderB (by (with_reducible repeat (first | apply Kd.R_alloc | apply Kd.R_drewN | apply Kd.R_drew)); exact HO390.out) gb403 (Nat.le_of_eq hg.symm)) hb); have n1_ := Aside0.mk (Kd.R_below (by (with_reducible repeat (first | apply Kd.R_alloc | apply Kd.R_drewN | apply Kd.R_drew)); exact HO393.out) hb); have n2_ := Aside0.mk (Kd.R_below (Kd.R_elderB (by (with_reducible repeat (first | apply Kd.R_alloc | apply Kd.R_drewN | apply Kd.R_drew)); exact HO399.out) gb403 (Nat.le_of_eq hg.symm)) hb); have n3_ := Aside0.mk (Kd.R_below (by (with_reducible repeat (first | apply Kd.R_alloc | apply Kd.R_drewN | apply Kd.R_drew)); exact HO402.out) hb); have n4_ := Aside0.mk (below_step (by repeat (first | (with_reducible first | exact HB.out | apply below_alloc | apply pw_below_drewN | apply below_drew1) | exact HB.out)) hb); have n5_ := Aside0.mk (hbox); have n6_ := Aside0.mk ((by rw [hg]; exact (below_size (by repeat (first | (with_reducible first | exact HB.out | apply below_alloc | apply pw_below_drewN | apply below_drew1) | exact HB.out))) : w.heap.size ≤ gb403)); have n7_ := Aside0.mk ((by rw [hg]; exact (below_size (by repeat (first | (with_reducible first | exact HB.out | apply below_alloc | apply pw_below_drewN | apply below_drew1) | exact HB.out))) : w.heap.size ≤ gb403)); clear HO390; clear HO393; clear HO399; clear HO402; clear HB; have HO390 := n0_; have HO393 := n1_; have HO399 := n2_; have HO402 := n3_; have HB := n4_; have BK403 := n5_; have GW403 := n6_; have GE403 := n7_; clear n0_ n1_ n2_ n3_ n4_ n5_ n6_ n7_; clear hb hbox hg) | ((with_reducible refine gate_dst (N := 6) rfl ?_); (try (refine gate_guard (by rfl) ?_; dsimp only)); refine box_event ?hg (N := 6) ?hd (cs := #[.int .i64 0, .bool false, .string (⟨#[]⟩ : ByteArray), .slice none 0 0, .slice none 0 0]) (t := 25) ?hr ?_; (case hd => rfl); (case hg => rfl); (case hr => first | (go_simp; done) | (go_simp; rfl)); intro gb404 hg w9 hbox hb; have n0_ := Aside0.mk (Kd.R_below (Kd.R_elderB (by (with_reducible repeat (first | apply Kd.R_alloc | apply Kd.R_drewN | apply Kd.R_drew)); exact HO390.out) gb404 (Nat.le_of_eq hg.symm)) hb); have n1_ := Aside0.mk (Kd.R_below (by (with_reducible repeat (first | apply Kd.R_alloc | apply Kd.R_drewN | apply Kd.R_drew)); exact HO393.out) hb); have n2_ := Aside0.mk (Kd.R_below (Kd.R_elderB (by (with_reducible repeat (first | apply Kd.R_alloc | apply Kd.R_drewN | apply Kd.R_drew)); exact HO399.out) gb404 (Nat.le_of_eq hg.symm)) hb); have n3_ := Aside0.mk (Kd.R_below (by (with_reducible repeat (first | apply Kd.R_alloc | apply Kd.R_drewN | apply Kd.R_drew)); exact HO402.out) hb); have n4_ := Aside0.mk (blk_below (g := gb403) (o := .cells #[.int .i64 0, .bool false, .string (⟨#[]⟩ : ByteArray), .slice none 0 0, .slice none 0 0] 25 (0, 0)) (by (with_reducible repeat (first | refine blk_drewN ?_ _ | refine blk_drew ?_ | refine blk_alloc ?_ _)); exact BK403.out) hb); have n5_ := Aside0.mk (below_step (by repeat (first | (with_reducible first | exact HB.out | apply below_alloc | apply pw_below_drewN | apply below_drew1 | refine below_set ?_ GE403.out) | exact HB.out)) hb); have n6_ := Aside0.mk (hbox); have n7_ := Aside0.mk ((by rw [hg]; exact (below_size (by repeat (first | (with_reducible first | exact HB.out | apply below_alloc | apply pw_below_drewN | apply below_drew1 | refine below_set ?_ GE403.out) | exact HB.out))) : w.heap.size ≤ gb404)); have n8_ := Aside0.mk ((by rw [hg]; exact (below_size (by repeat (first | (with_reducible first | exact HB.out | apply below_alloc | apply pw_below_drewN | apply below_drew1 | refine below_set ?_ GE403.out) | exact HB.out))) : w.heap.size ≤ gb404)); have n9_ := Aside0.mk ((by rw [hg]; exact Nat.ne_of_lt (blk_lt (g := gb403) (o := .cells #[.int .i64 0, .bool false, .string (⟨#[]⟩ : ByteArray), .slice none 0 0, .slice none 0 0] 25 (0, 0)) (by (with_reducible repeat (first | refine blk_drewN ?_ _ | refine blk_drew ?_ | refine blk_alloc ?_ _)); exact BK403.out)) : gb403 ≠ gb404)); have n10_ := Aside0.mk ((by rw [hg]; exact Nat.ne_of_gt (blk_lt (g := gb403) (o := .cells #[.int .i64 0, .bool false, .string (⟨#[]⟩ : ByteArray), .slice none 0 0, .slice none 0 0] 25 (0, 0)) (by (with_reducible repeat (first | refine blk_drewN ?_ _ | refine blk_drew ?_ | refine blk_alloc ?_ _)); exact BK403.out)) : gb404 ≠ gb403)); clear HO390; clear HO393; clear HO399; clear HO402; clear BK403; clear HB; have HO390 := n0_; have HO393 := n1_; have HO399 := n2_; have HO402 := n3_; have BK403 := n4_; have HB := n5_; have BK404 := n6_; have GW404 := n7_; have GE404 := n8_; have NB403_404 := n9_; have NB404_403 := n10_; clear n0_ n1_ n2_ n3_ n4_ n5_ n6_ n7_ n8_ n9_ n10_; clear hb hbox hg; have hnb10 := NB403_404.out; have hnc10 := NB404_403.out; have hcz11_0 : w9.cell? ⟨gb403, 0, none⟩ = some (.int .i64 0) := (blk_cell BK403.out 0).trans rfl; have hcz11_1 : w9.cell? ⟨gb403, 1, none⟩ = some (.bool false) := (blk_cell BK403.out 1).trans rfl; have hcz11_2 : w9.cell? ⟨gb403, 2, none⟩ = some (.string (⟨#[]⟩ : ByteArray)) := (blk_cell BK403.out 2).trans rfl; have hcz11_3 : w9.cell? ⟨gb403, 3, none⟩ = some (.slice none 0 0) := (blk_cell BK403.out 3).trans rfl; have hcz11_4 : w9.cell? ⟨gb403, 4, none⟩ = some (.slice none 0 0) := (blk_cell BK403.out 4).trans rfl; have hfz11_0 := blk_frozen BK403.out 0; have hfz11_1 := blk_frozen BK403.out 1; have hfz11_2 := blk_frozen BK403.out 2; have hfz11_3 := blk_frozen BK403.out 3; have hfz11_4 := blk_frozen BK403.out 4; obtain ⟨Ao12, co12, eo12⟩ := Kd.R_slice HO390.out; subst eo12; obtain ⟨Ao13, co13, eo13⟩ := Kd.R_slice HO393.out; subst eo13; have hcz14_0 : w9.cell? ⟨gb404, 0, none⟩ = some (.int .i64 0) := (blk_cell BK404.out 0).trans rfl; have hcz14_1 : w9.cell? ⟨gb404, 1, none⟩ = some (.bool false) := (blk_cell BK404.out 1).trans rfl; have hcz14_2 : w9.cell? ⟨gb404, 2, none⟩ = some (.string (⟨#[]⟩ : ByteArray)) := (blk_cell BK404.out 2).trans rfl; have hcz14_3 : w9.cell? ⟨gb404, 3, none⟩ = some (.slice none 0 0) := (blk_cell BK404.out 3).trans rfl; have hcz14_4 : w9.cell? ⟨gb404, 4, none⟩ = some (.slice none 0 0) := (blk_cell BK404.out 4).trans rfl; have hfz14_0 := blk_frozen BK404.out 0; have hfz14_1 := blk_frozen BK404.out 1; have hfz14_2 := blk_frozen BK404.out 2; have hfz14_3 := blk_frozen BK404.out 3; have hfz14_4 := blk_frozen BK404.out 4; obtain ⟨Ao15, co15, eo15⟩ := Kd.R_slice HO399.out; subst eo15; obtain ⟨Ao16, co16, eo16⟩ := Kd.R_slice HO402.out; subst eo16))
  (try simp only [Act.put, List.setIfInBounds_toArray, List.set_cons_zero, List.set_cons_succ])
  go_cut [7] (fun v7 wc => ∃ (kq : Nat) (x7_4 : ByteArray), v7 = .string x7_4 ∧ Aside0 (colophonlaw10_ValueNumbers.j0 kq a0 a1 x7_4 t385 t386 t387 t388 t391 t394 t395 t396 t397 t400 = some r) ∧ Aside0 (kq ≤ k) ∧ Aside0 (Kd.R k25 25 wc w.heap.size (fun k_ => some k_ ≠ ((.slice Ao13 t391.length co13) : Value).ownBlock ∧ some k_ ≠ ((.slice Ao15 t397.length co15) : Value).ownBlock ∧ some k_ ≠ ((.slice Ao16 t400.length co16) : Value).ownBlock ∧ k_ ≠ gb403 ∧ k_ ≠ gb404) (.slice Ao12 t388.length co12) t388) ∧ Aside0 (Kd.R Kd.string 9 wc w.heap.size (fun k_ => some k_ ≠ ((.slice Ao16 t400.length co16) : Value).ownBlock) (.slice Ao13 t391.length co13) t391) ∧ Aside0 (Kd.R k25 25 wc w.heap.size (fun k_ => some k_ ≠ ((.slice Ao12 t388.length co12) : Value).ownBlock ∧ some k_ ≠ ((.slice Ao13 t391.length co13) : Value).ownBlock ∧ some k_ ≠ ((.slice Ao16 t400.length co16) : Value).ownBlock ∧ k_ ≠ gb403 ∧ k_ ≠ gb404) (.slice Ao15 t397.length co15) t397) ∧ Aside0 (Kd.R Kd.string 9 wc w.heap.size (fun k_ => some k_ ≠ ((.slice Ao13 t391.length co13) : Value).ownBlock) (.slice Ao16 t400.length co16) t400) ∧ Aside0 (wc.heap[gb403]? = some (.cells #[.int .i64 t385, .bool t386, .string t387, (.slice Ao12 t388.length co12), (.slice Ao13 t391.length co13)] 25 (0, 0))) ∧ Aside0 (wc.heap[gb404]? = some (.cells #[.int .i64 t394, .bool t395, .string t396, (.slice Ao15 t397.length co15), (.slice Ao16 t400.length co16)] 25 (0, 0))) ∧ Aside0 (Below w.heap.size w wc))
  case first =>
    have H := HC5.out
    clear HC5
    by_cases c17 : a0 < 0
    · rw [if_pos c17] at H
      have c17b0 : decide (a0 < 0) = true := decide_eq_true c17
      clear c17
      (first | rw [c17b0] | (simp only [i64_w, i32_w]; rw [c17b0]) | skip)
      by_cases c18 : (t387.size : Int) = 0
      · rw [if_pos c18] at H
        have c18b0 : ((t387.size : Int) == 0) = true := beq_iff_eq.mpr c18
        have c18b1 : ((t387.size : Int) != 0) = false := bne_eq_false_iff_eq.mpr c18
        clear c18
        obtain rfl := Option.some.inj H
        go_wp2
        go_ret
        exact ⟨by first | rfl | (simp [errW_none, errW_some] <;> rfl) | (simp [errW_none, errW_some] <;> decide +kernel) | (simp [*, errW_none, errW_some] <;> rfl), by repeat (first | (with_reducible first | exact HB.out | apply below_alloc | apply pw_below_drewN | apply below_drew1 | refine below_set ?_ GE403.out | refine below_set ?_ GE404.out) | exact HB.out)⟩
      · rw [if_neg c18] at H
        have c18b0 : ((t387.size : Int) == 0) = false := beq_eq_false_iff_ne.mpr c18
        have c18b1 : ((t387.size : Int) != 0) = true := bne_iff_ne.mpr c18
        by_cases c19 : 0 < (t387.size : Int)
        · rw [if_pos c19] at H
          have c19b0 : decide (0 < (t387.size : Int)) = true := decide_eq_true c19
          have c19b1 : decide (0 < t387.size) = true := decide_eq_true (by omega)
          clear c19
          by_cases c21 : (bt t387 0) = 45
          · rw [if_pos c21] at H
            have c21b0 : ((bt t387 0) == 45) = true := beq_iff_eq.mpr c21
            have c21b1 : ((bt t387 0) != 45) = false := bne_eq_false_iff_eq.mpr c21
            clear c21
            by_cases c22 : 1 ≤ (t387.size : Int)
            · rw [if_pos c22] at H
              have c22b0 := eq_true c22
              have c22b1 : decide (1 ≤ (t387.size : Int)) = true := decide_eq_true c22
              clear c22
              have H' := Aside0.mk H
              clear H
              have p20 : 0 ≤ (0 : Int) := (by omega)
              have q20 : 0 < t387.size := (by have : (0 : Int) < (t387.size : Int) := of_decide_eq_true (by first | (with_reducible assumption) | assumption); omega)
              have hx20 : ∀ h : 0 < t387.size, ((t387[0]'h).toNat : Int) = bt t387 0 := bt_at t387 0
              clear p20
              have qi20 : (0 < (t387.size : Int)) = True := eq_true (of_decide_eq_true (by first | (with_reducible assumption) | assumption))
              replace q20 := eq_true q20
              go_wp2
              go_meet
              case rel => exact ⟨_, (t387.extract 1 t387.size), (by first | rfl | (simp; done) | (simp [*]; done)), H', ⟨by first | omega | exact Nat.le_refl _⟩, ⟨by (with_reducible repeat (first | apply Kd.R_alloc | apply Kd.R_drewN | apply Kd.R_drew)); exact Kd.R_mono (Kd.R_far (p := ⟨gb404, 4, none⟩) (Kd.R_far (p := ⟨gb404, 3, none⟩) (Kd.R_far (p := ⟨gb404, 2, none⟩) (Kd.R_far (p := ⟨gb404, 1, none⟩) (Kd.R_far (p := ⟨gb404, 0, none⟩) (Kd.R_far (p := ⟨gb403, 4, none⟩) (Kd.R_far (p := ⟨gb403, 3, none⟩) (Kd.R_far (p := ⟨gb403, 2, none⟩) (Kd.R_far (p := ⟨gb403, 1, none⟩) (Kd.R_far (p := ⟨gb403, 0, none⟩) (Kd.R_mono (Kd.R_mono HO390.out (fun k_ hk => (⟨hk, hk.1.2⟩ : _ ∧ k_ ≠ gb403))) (fun k_ hk => (⟨hk, hk.1.2⟩ : _ ∧ k_ ≠ gb404))) (fun _ hk => hk.1.2) (.int .i64 t385)) (fun _ hk => hk.1.2) (.bool t386)) (fun _ hk => hk.1.2) (.string t387)) (fun _ hk => hk.1.2) (.slice Ao12 t388.length co12)) (fun _ hk => hk.1.2) (.slice Ao13 t391.length co13)) (fun _ hk => hk.2) (.int .i64 t394)) (fun _ hk => hk.2) (.bool t395)) (fun _ hk => hk.2) (.string t396)) (fun _ hk => hk.2) (.slice Ao15 t397.length co15)) (fun _ hk => hk.2) (.slice Ao16 t400.length co16)) (fun _ hk => ⟨hk.1.1.1.1.1.1, ⟨hk.1.1.1.1.1.2, ⟨hk.1.1.1.1.2, ⟨hk.1.1.1.2, hk.1.1.2⟩⟩⟩⟩)⟩, ⟨by (with_reducible repeat (first | apply Kd.R_alloc | apply Kd.R_drewN | apply Kd.R_drew)); exact Kd.R_mono (Kd.R_far (p := ⟨gb404, 4, none⟩) (Kd.R_far (p := ⟨gb404, 3, none⟩) (Kd.R_far (p := ⟨gb404, 2, none⟩) (Kd.R_far (p := ⟨gb404, 1, none⟩) (Kd.R_far (p := ⟨gb404, 0, none⟩) (Kd.R_far (p := ⟨gb403, 4, none⟩) (Kd.R_far (p := ⟨gb403, 3, none⟩) (Kd.R_far (p := ⟨gb403, 2, none⟩) (Kd.R_far (p := ⟨gb403, 1, none⟩) (Kd.R_far (p := ⟨gb403, 0, none⟩) (Kd.R_types (Kd.R_types HO393.out BK403.out (by decide)) BK404.out (by decide)) (fun _ hk => hk.1.2) (.int .i64 t385)) (fun _ hk => hk.1.2) (.bool t386)) (fun _ hk => hk.1.2) (.string t387)) (fun _ hk => hk.1.2) (.slice Ao12 t388.length co12)) (fun _ hk => hk.1.2) (.slice Ao13 t391.length co13)) (fun _ hk => hk.2) (.int .i64 t394)) (fun _ hk => hk.2) (.bool t395)) (fun _ hk => hk.2) (.string t396)) (fun _ hk => hk.2) (.slice Ao15 t397.length co15)) (fun _ hk => hk.2) (.slice Ao16 t400.length co16)) (fun _ hk => hk.1.1.2)⟩, ⟨by (with_reducible repeat (first | apply Kd.R_alloc | apply Kd.R_drewN | apply Kd.R_drew)); exact Kd.R_mono (Kd.R_far (p := ⟨gb404, 4, none⟩) (Kd.R_far (p := ⟨gb404, 3, none⟩) (Kd.R_far (p := ⟨gb404, 2, none⟩) (Kd.R_far (p := ⟨gb404, 1, none⟩) (Kd.R_far (p := ⟨gb404, 0, none⟩) (Kd.R_far (p := ⟨gb403, 4, none⟩) (Kd.R_far (p := ⟨gb403, 3, none⟩) (Kd.R_far (p := ⟨gb403, 2, none⟩) (Kd.R_far (p := ⟨gb403, 1, none⟩) (Kd.R_far (p := ⟨gb403, 0, none⟩) (Kd.R_mono (Kd.R_mono HO399.out (fun k_ hk => (⟨hk, hk.1.2⟩ : _ ∧ k_ ≠ gb403))) (fun k_ hk => (⟨hk, hk.1.2⟩ : _ ∧ k_ ≠ gb404))) (fun _ hk => hk.1.2) (.int .i64 t385)) (fun _ hk => hk.1.2) (.bool t386)) (fun _ hk => hk.1.2) (.string t387)) (fun _ hk => hk.1.2) (.slice Ao12 t388.length co12)) (fun _ hk => hk.1.2) (.slice Ao13 t391.length co13)) (fun _ hk => hk.2) (.int .i64 t394)) (fun _ hk => hk.2) (.bool t395)) (fun _ hk => hk.2) (.string t396)) (fun _ hk => hk.2) (.slice Ao15 t397.length co15)) (fun _ hk => hk.2) (.slice Ao16 t400.length co16)) (fun _ hk => ⟨hk.1.1.1.1.1.2, ⟨hk.1.1.1.1.2, ⟨hk.1.1.1.1.1.1, ⟨hk.1.1.1.2, hk.1.1.2⟩⟩⟩⟩)⟩, ⟨by (with_reducible repeat (first | apply Kd.R_alloc | apply Kd.R_drewN | apply Kd.R_drew)); exact Kd.R_mono (Kd.R_far (p := ⟨gb404, 4, none⟩) (Kd.R_far (p := ⟨gb404, 3, none⟩) (Kd.R_far (p := ⟨gb404, 2, none⟩) (Kd.R_far (p := ⟨gb404, 1, none⟩) (Kd.R_far (p := ⟨gb404, 0, none⟩) (Kd.R_far (p := ⟨gb403, 4, none⟩) (Kd.R_far (p := ⟨gb403, 3, none⟩) (Kd.R_far (p := ⟨gb403, 2, none⟩) (Kd.R_far (p := ⟨gb403, 1, none⟩) (Kd.R_far (p := ⟨gb403, 0, none⟩) (Kd.R_types (Kd.R_types HO402.out BK403.out (by decide)) BK404.out (by decide)) (fun _ hk => hk.1.2) (.int .i64 t385)) (fun _ hk => hk.1.2) (.bool t386)) (fun _ hk => hk.1.2) (.string t387)) (fun _ hk => hk.1.2) (.slice Ao12 t388.length co12)) (fun _ hk => hk.1.2) (.slice Ao13 t391.length co13)) (fun _ hk => hk.2) (.int .i64 t394)) (fun _ hk => hk.2) (.bool t395)) (fun _ hk => hk.2) (.string t396)) (fun _ hk => hk.2) (.slice Ao15 t397.length co15)) (fun _ hk => hk.2) (.slice Ao16 t400.length co16)) (fun _ hk => hk.1.1.2)⟩, ⟨by (with_reducible repeat (first | refine blk_drewN ?_ _ | refine blk_drew ?_ | refine blk_alloc ?_ _)); refine blk_far ?_ NB403_404.out _; (with_reducible repeat (first | refine blk_drewN ?_ _ | refine blk_drew ?_ | refine blk_alloc ?_ _)); refine blk_far ?_ NB403_404.out _; (with_reducible repeat (first | refine blk_drewN ?_ _ | refine blk_drew ?_ | refine blk_alloc ?_ _)); refine blk_far ?_ NB403_404.out _; (with_reducible repeat (first | refine blk_drewN ?_ _ | refine blk_drew ?_ | refine blk_alloc ?_ _)); refine blk_far ?_ NB403_404.out _; (with_reducible repeat (first | refine blk_drewN ?_ _ | refine blk_drew ?_ | refine blk_alloc ?_ _)); refine blk_far ?_ NB403_404.out _; (with_reducible repeat (first | refine blk_drewN ?_ _ | refine blk_drew ?_ | refine blk_alloc ?_ _)); refine blk_put (cs := #[.int .i64 t385, .bool t386, .string t387, .slice Ao12 t388.length co12, .slice none 0 0]) ?_ 4 _ rfl; (with_reducible repeat (first | refine blk_drewN ?_ _ | refine blk_drew ?_ | refine blk_alloc ?_ _)); refine blk_put (cs := #[.int .i64 t385, .bool t386, .string t387, .slice none 0 0, .slice none 0 0]) ?_ 3 _ rfl; (with_reducible repeat (first | refine blk_drewN ?_ _ | refine blk_drew ?_ | refine blk_alloc ?_ _)); refine blk_put (cs := #[.int .i64 t385, .bool t386, .string (⟨#[]⟩ : ByteArray), .slice none 0 0, .slice none 0 0]) ?_ 2 _ rfl; (with_reducible repeat (first | refine blk_drewN ?_ _ | refine blk_drew ?_ | refine blk_alloc ?_ _)); refine blk_put (cs := #[.int .i64 t385, .bool false, .string (⟨#[]⟩ : ByteArray), .slice none 0 0, .slice none 0 0]) ?_ 1 _ rfl; (with_reducible repeat (first | refine blk_drewN ?_ _ | refine blk_drew ?_ | refine blk_alloc ?_ _)); refine blk_put (cs := #[.int .i64 0, .bool false, .string (⟨#[]⟩ : ByteArray), .slice none 0 0, .slice none 0 0]) ?_ 0 _ rfl; (with_reducible repeat (first | refine blk_drewN ?_ _ | refine blk_drew ?_ | refine blk_alloc ?_ _)); exact BK403.out⟩, ⟨by (with_reducible repeat (first | refine blk_drewN ?_ _ | refine blk_drew ?_ | refine blk_alloc ?_ _)); refine blk_put (cs := #[.int .i64 t394, .bool t395, .string t396, .slice Ao15 t397.length co15, .slice none 0 0]) ?_ 4 _ rfl; (with_reducible repeat (first | refine blk_drewN ?_ _ | refine blk_drew ?_ | refine blk_alloc ?_ _)); refine blk_put (cs := #[.int .i64 t394, .bool t395, .string t396, .slice none 0 0, .slice none 0 0]) ?_ 3 _ rfl; (with_reducible repeat (first | refine blk_drewN ?_ _ | refine blk_drew ?_ | refine blk_alloc ?_ _)); refine blk_put (cs := #[.int .i64 t394, .bool t395, .string (⟨#[]⟩ : ByteArray), .slice none 0 0, .slice none 0 0]) ?_ 2 _ rfl; (with_reducible repeat (first | refine blk_drewN ?_ _ | refine blk_drew ?_ | refine blk_alloc ?_ _)); refine blk_put (cs := #[.int .i64 t394, .bool false, .string (⟨#[]⟩ : ByteArray), .slice none 0 0, .slice none 0 0]) ?_ 1 _ rfl; (with_reducible repeat (first | refine blk_drewN ?_ _ | refine blk_drew ?_ | refine blk_alloc ?_ _)); refine blk_put (cs := #[.int .i64 0, .bool false, .string (⟨#[]⟩ : ByteArray), .slice none 0 0, .slice none 0 0]) ?_ 0 _ rfl; (with_reducible repeat (first | refine blk_drewN ?_ _ | refine blk_drew ?_ | refine blk_alloc ?_ _)); refine blk_far ?_ NB404_403.out _; (with_reducible repeat (first | refine blk_drewN ?_ _ | refine blk_drew ?_ | refine blk_alloc ?_ _)); refine blk_far ?_ NB404_403.out _; (with_reducible repeat (first | refine blk_drewN ?_ _ | refine blk_drew ?_ | refine blk_alloc ?_ _)); refine blk_far ?_ NB404_403.out _; (with_reducible repeat (first | refine blk_drewN ?_ _ | refine blk_drew ?_ | refine blk_alloc ?_ _)); refine blk_far ?_ NB404_403.out _; (with_reducible repeat (first | refine blk_drewN ?_ _ | refine blk_drew ?_ | refine blk_alloc ?_ _)); refine blk_far ?_ NB404_403.out _; (with_reducible repeat (first | refine blk_drewN ?_ _ | refine blk_drew ?_ | refine blk_alloc ?_ _)); exact BK404.out⟩, ⟨by repeat (first | (with_reducible first | exact HB.out | apply below_alloc | apply pw_below_drewN | apply below_drew1 | refine below_set ?_ GE403.out | refine below_set ?_ GE404.out) | exact HB.out)⟩⟩
            · rw [if_neg c22] at H
              exact absurd H (by simp)
          · rw [if_neg c21] at H
            have c21b0 : ((bt t387 0) == 45) = false := beq_eq_false_iff_ne.mpr c21
            have c21b1 : ((bt t387 0) != 45) = true := bne_iff_ne.mpr c21
            obtain rfl := Option.some.inj H
            have p20 : 0 ≤ (0 : Int) := (by omega)
            have q20 : 0 < t387.size := (by have : (0 : Int) < (t387.size : Int) := of_decide_eq_true (by first | (with_reducible assumption) | assumption); omega)
            have hx20 : ∀ h : 0 < t387.size, ((t387[0]'h).toNat : Int) = bt t387 0 := bt_at t387 0
            clear p20
            have qi20 : (0 < (t387.size : Int)) = True := eq_true (of_decide_eq_true (by first | (with_reducible assumption) | assumption))
            replace q20 := eq_true q20
            go_wp2
            go_ret
            exact ⟨by first | rfl | (simp [errW_none, errW_some] <;> rfl) | (simp [errW_none, errW_some] <;> decide +kernel) | (simp [*, errW_none, errW_some] <;> rfl), by repeat (first | (with_reducible first | exact HB.out | apply below_alloc | apply pw_below_drewN | apply below_drew1 | refine below_set ?_ GE403.out | refine below_set ?_ GE404.out) | exact HB.out)⟩
        · rw [if_neg c19] at H
          exact absurd H (by simp)
    · rw [if_neg c17] at H
      have c17b0 : decide (a0 < 0) = false := decide_eq_false c17
      clear c17
      (first | rw [c17b0] | (simp only [i64_w, i32_w]; rw [c17b0]) | skip)
      have H' := Aside0.mk H
      clear H
      go_wp2
      go_meet
      case rel => exact ⟨_, (t387), (by first | rfl | (simp; done) | (simp [*]; done)), H', ⟨by first | omega | exact Nat.le_refl _⟩, ⟨by (with_reducible repeat (first | apply Kd.R_alloc | apply Kd.R_drewN | apply Kd.R_drew)); exact Kd.R_mono (Kd.R_far (p := ⟨gb404, 4, none⟩) (Kd.R_far (p := ⟨gb404, 3, none⟩) (Kd.R_far (p := ⟨gb404, 2, none⟩) (Kd.R_far (p := ⟨gb404, 1, none⟩) (Kd.R_far (p := ⟨gb404, 0, none⟩) (Kd.R_far (p := ⟨gb403, 4, none⟩) (Kd.R_far (p := ⟨gb403, 3, none⟩) (Kd.R_far (p := ⟨gb403, 2, none⟩) (Kd.R_far (p := ⟨gb403, 1, none⟩) (Kd.R_far (p := ⟨gb403, 0, none⟩) (Kd.R_mono (Kd.R_mono HO390.out (fun k_ hk => (⟨hk, hk.1.2⟩ : _ ∧ k_ ≠ gb403))) (fun k_ hk => (⟨hk, hk.1.2⟩ : _ ∧ k_ ≠ gb404))) (fun _ hk => hk.1.2) (.int .i64 t385)) (fun _ hk => hk.1.2) (.bool t386)) (fun _ hk => hk.1.2) (.string t387)) (fun _ hk => hk.1.2) (.slice Ao12 t388.length co12)) (fun _ hk => hk.1.2) (.slice Ao13 t391.length co13)) (fun _ hk => hk.2) (.int .i64 t394)) (fun _ hk => hk.2) (.bool t395)) (fun _ hk => hk.2) (.string t396)) (fun _ hk => hk.2) (.slice Ao15 t397.length co15)) (fun _ hk => hk.2) (.slice Ao16 t400.length co16)) (fun _ hk => ⟨hk.1.1.1.1.1.1, ⟨hk.1.1.1.1.1.2, ⟨hk.1.1.1.1.2, ⟨hk.1.1.1.2, hk.1.1.2⟩⟩⟩⟩)⟩, ⟨by (with_reducible repeat (first | apply Kd.R_alloc | apply Kd.R_drewN | apply Kd.R_drew)); exact Kd.R_mono (Kd.R_far (p := ⟨gb404, 4, none⟩) (Kd.R_far (p := ⟨gb404, 3, none⟩) (Kd.R_far (p := ⟨gb404, 2, none⟩) (Kd.R_far (p := ⟨gb404, 1, none⟩) (Kd.R_far (p := ⟨gb404, 0, none⟩) (Kd.R_far (p := ⟨gb403, 4, none⟩) (Kd.R_far (p := ⟨gb403, 3, none⟩) (Kd.R_far (p := ⟨gb403, 2, none⟩) (Kd.R_far (p := ⟨gb403, 1, none⟩) (Kd.R_far (p := ⟨gb403, 0, none⟩) (Kd.R_types (Kd.R_types HO393.out BK403.out (by decide)) BK404.out (by decide)) (fun _ hk => hk.1.2) (.int .i64 t385)) (fun _ hk => hk.1.2) (.bool t386)) (fun _ hk => hk.1.2) (.string t387)) (fun _ hk => hk.1.2) (.slice Ao12 t388.length co12)) (fun _ hk => hk.1.2) (.slice Ao13 t391.length co13)) (fun _ hk => hk.2) (.int .i64 t394)) (fun _ hk => hk.2) (.bool t395)) (fun _ hk => hk.2) (.string t396)) (fun _ hk => hk.2) (.slice Ao15 t397.length co15)) (fun _ hk => hk.2) (.slice Ao16 t400.length co16)) (fun _ hk => hk.1.1.2)⟩, ⟨by (with_reducible repeat (first | apply Kd.R_alloc | apply Kd.R_drewN | apply Kd.R_drew)); exact Kd.R_mono (Kd.R_far (p := ⟨gb404, 4, none⟩) (Kd.R_far (p := ⟨gb404, 3, none⟩) (Kd.R_far (p := ⟨gb404, 2, none⟩) (Kd.R_far (p := ⟨gb404, 1, none⟩) (Kd.R_far (p := ⟨gb404, 0, none⟩) (Kd.R_far (p := ⟨gb403, 4, none⟩) (Kd.R_far (p := ⟨gb403, 3, none⟩) (Kd.R_far (p := ⟨gb403, 2, none⟩) (Kd.R_far (p := ⟨gb403, 1, none⟩) (Kd.R_far (p := ⟨gb403, 0, none⟩) (Kd.R_mono (Kd.R_mono HO399.out (fun k_ hk => (⟨hk, hk.1.2⟩ : _ ∧ k_ ≠ gb403))) (fun k_ hk => (⟨hk, hk.1.2⟩ : _ ∧ k_ ≠ gb404))) (fun _ hk => hk.1.2) (.int .i64 t385)) (fun _ hk => hk.1.2) (.bool t386)) (fun _ hk => hk.1.2) (.string t387)) (fun _ hk => hk.1.2) (.slice Ao12 t388.length co12)) (fun _ hk => hk.1.2) (.slice Ao13 t391.length co13)) (fun _ hk => hk.2) (.int .i64 t394)) (fun _ hk => hk.2) (.bool t395)) (fun _ hk => hk.2) (.string t396)) (fun _ hk => hk.2) (.slice Ao15 t397.length co15)) (fun _ hk => hk.2) (.slice Ao16 t400.length co16)) (fun _ hk => ⟨hk.1.1.1.1.1.2, ⟨hk.1.1.1.1.2, ⟨hk.1.1.1.1.1.1, ⟨hk.1.1.1.2, hk.1.1.2⟩⟩⟩⟩)⟩, ⟨by (with_reducible repeat (first | apply Kd.R_alloc | apply Kd.R_drewN | apply Kd.R_drew)); exact Kd.R_mono (Kd.R_far (p := ⟨gb404, 4, none⟩) (Kd.R_far (p := ⟨gb404, 3, none⟩) (Kd.R_far (p := ⟨gb404, 2, none⟩) (Kd.R_far (p := ⟨gb404, 1, none⟩) (Kd.R_far (p := ⟨gb404, 0, none⟩) (Kd.R_far (p := ⟨gb403, 4, none⟩) (Kd.R_far (p := ⟨gb403, 3, none⟩) (Kd.R_far (p := ⟨gb403, 2, none⟩) (Kd.R_far (p := ⟨gb403, 1, none⟩) (Kd.R_far (p := ⟨gb403, 0, none⟩) (Kd.R_types (Kd.R_types HO402.out BK403.out (by decide)) BK404.out (by decide)) (fun _ hk => hk.1.2) (.int .i64 t385)) (fun _ hk => hk.1.2) (.bool t386)) (fun _ hk => hk.1.2) (.string t387)) (fun _ hk => hk.1.2) (.slice Ao12 t388.length co12)) (fun _ hk => hk.1.2) (.slice Ao13 t391.length co13)) (fun _ hk => hk.2) (.int .i64 t394)) (fun _ hk => hk.2) (.bool t395)) (fun _ hk => hk.2) (.string t396)) (fun _ hk => hk.2) (.slice Ao15 t397.length co15)) (fun _ hk => hk.2) (.slice Ao16 t400.length co16)) (fun _ hk => hk.1.1.2)⟩, ⟨by (with_reducible repeat (first | refine blk_drewN ?_ _ | refine blk_drew ?_ | refine blk_alloc ?_ _)); refine blk_far ?_ NB403_404.out _; (with_reducible repeat (first | refine blk_drewN ?_ _ | refine blk_drew ?_ | refine blk_alloc ?_ _)); refine blk_far ?_ NB403_404.out _; (with_reducible repeat (first | refine blk_drewN ?_ _ | refine blk_drew ?_ | refine blk_alloc ?_ _)); refine blk_far ?_ NB403_404.out _; (with_reducible repeat (first | refine blk_drewN ?_ _ | refine blk_drew ?_ | refine blk_alloc ?_ _)); refine blk_far ?_ NB403_404.out _; (with_reducible repeat (first | refine blk_drewN ?_ _ | refine blk_drew ?_ | refine blk_alloc ?_ _)); refine blk_far ?_ NB403_404.out _; (with_reducible repeat (first | refine blk_drewN ?_ _ | refine blk_drew ?_ | refine blk_alloc ?_ _)); refine blk_put (cs := #[.int .i64 t385, .bool t386, .string t387, .slice Ao12 t388.length co12, .slice none 0 0]) ?_ 4 _ rfl; (with_reducible repeat (first | refine blk_drewN ?_ _ | refine blk_drew ?_ | refine blk_alloc ?_ _)); refine blk_put (cs := #[.int .i64 t385, .bool t386, .string t387, .slice none 0 0, .slice none 0 0]) ?_ 3 _ rfl; (with_reducible repeat (first | refine blk_drewN ?_ _ | refine blk_drew ?_ | refine blk_alloc ?_ _)); refine blk_put (cs := #[.int .i64 t385, .bool t386, .string (⟨#[]⟩ : ByteArray), .slice none 0 0, .slice none 0 0]) ?_ 2 _ rfl; (with_reducible repeat (first | refine blk_drewN ?_ _ | refine blk_drew ?_ | refine blk_alloc ?_ _)); refine blk_put (cs := #[.int .i64 t385, .bool false, .string (⟨#[]⟩ : ByteArray), .slice none 0 0, .slice none 0 0]) ?_ 1 _ rfl; (with_reducible repeat (first | refine blk_drewN ?_ _ | refine blk_drew ?_ | refine blk_alloc ?_ _)); refine blk_put (cs := #[.int .i64 0, .bool false, .string (⟨#[]⟩ : ByteArray), .slice none 0 0, .slice none 0 0]) ?_ 0 _ rfl; (with_reducible repeat (first | refine blk_drewN ?_ _ | refine blk_drew ?_ | refine blk_alloc ?_ _)); exact BK403.out⟩, ⟨by (with_reducible repeat (first | refine blk_drewN ?_ _ | refine blk_drew ?_ | refine blk_alloc ?_ _)); refine blk_put (cs := #[.int .i64 t394, .bool t395, .string t396, .slice Ao15 t397.length co15, .slice none 0 0]) ?_ 4 _ rfl; (with_reducible repeat (first | refine blk_drewN ?_ _ | refine blk_drew ?_ | refine blk_alloc ?_ _)); refine blk_put (cs := #[.int .i64 t394, .bool t395, .string t396, .slice none 0 0, .slice none 0 0]) ?_ 3 _ rfl; (with_reducible repeat (first | refine blk_drewN ?_ _ | refine blk_drew ?_ | refine blk_alloc ?_ _)); refine blk_put (cs := #[.int .i64 t394, .bool t395, .string (⟨#[]⟩ : ByteArray), .slice none 0 0, .slice none 0 0]) ?_ 2 _ rfl; (with_reducible repeat (first | refine blk_drewN ?_ _ | refine blk_drew ?_ | refine blk_alloc ?_ _)); refine blk_put (cs := #[.int .i64 t394, .bool false, .string (⟨#[]⟩ : ByteArray), .slice none 0 0, .slice none 0 0]) ?_ 1 _ rfl; (with_reducible repeat (first | refine blk_drewN ?_ _ | refine blk_drew ?_ | refine blk_alloc ?_ _)); refine blk_put (cs := #[.int .i64 0, .bool false, .string (⟨#[]⟩ : ByteArray), .slice none 0 0, .slice none 0 0]) ?_ 0 _ rfl; (with_reducible repeat (first | refine blk_drewN ?_ _ | refine blk_drew ?_ | refine blk_alloc ?_ _)); refine blk_far ?_ NB404_403.out _; (with_reducible repeat (first | refine blk_drewN ?_ _ | refine blk_drew ?_ | refine blk_alloc ?_ _)); refine blk_far ?_ NB404_403.out _; (with_reducible repeat (first | refine blk_drewN ?_ _ | refine blk_drew ?_ | refine blk_alloc ?_ _)); refine blk_far ?_ NB404_403.out _; (with_reducible repeat (first | refine blk_drewN ?_ _ | refine blk_drew ?_ | refine blk_alloc ?_ _)); refine blk_far ?_ NB404_403.out _; (with_reducible repeat (first | refine blk_drewN ?_ _ | refine blk_drew ?_ | refine blk_alloc ?_ _)); refine blk_far ?_ NB404_403.out _; (with_reducible repeat (first | refine blk_drewN ?_ _ | refine blk_drew ?_ | refine blk_alloc ?_ _)); exact BK404.out⟩, ⟨by repeat (first | (with_reducible first | exact HB.out | apply below_alloc | apply pw_below_drewN | apply below_drew1 | refine below_set ?_ GE403.out | refine below_set ?_ GE404.out) | exact HB.out)⟩⟩
  case rest =>
    clear HC5
    try clear c1
    try clear c2
    try clear p2
    try clear q2
    try clear hx2
    try clear qi2
    try clear c9
    try clear c10
    try clear c17
    try clear c17b0
    try clear c18
    try clear c18b0
    try clear c18b1
    try clear c19
    try clear c19b0
    try clear c19b1
    try clear p20
    try clear q20
    try clear hx20
    try clear qi20
    try clear c21
    try clear c21b0
    try clear c21b1
    try clear c22
    try clear c22b0
    try clear c22b1
    try clear hcz11_0
    try clear hcz11_1
    try clear hcz11_2
    try clear hcz11_3
    try clear hcz11_4
    try clear hcz14_0
    try clear hcz14_1
    try clear hcz14_2
    try clear hcz14_3
    try clear hcz14_4
    try clear hfz11_0
    try clear hfz11_1
    try clear hfz11_2
    try clear hfz11_3
    try clear hfz11_4
    try clear hfz14_0
    try clear hfz14_1
    try clear hfz14_2
    try clear hfz14_3
    try clear hfz14_4
    try clear p20
    try clear q20
    obtain ⟨kq, x7_4, rfl, HA, HJ4, HO_404003, HO_404004, HO_405003, HO_405004, BK403, BK404, HB⟩ := hcut
    cases kq with
    | zero => exact absurd HA.out (by simp [colophonlaw10_ValueNumbers.j0])
    | succ kj4 =>
      have H := HA.out
      clear HA
      simp only [colophonlaw10_ValueNumbers.j0] at H
      have H' := Aside0.mk H
      clear H
      go_wp2
      go_loopg [8] kj4 (fun kq v8 w' => ∃ (x8_2 : Int), v8 = .int .i64 x8_2 ∧ Aside0 (colophonlaw10_ValueNumbers.l0 kq a0 a1 x7_4 x8_2 t385 t386 t387 t388 t391 t394 t395 t396 t397 t400 = some r) ∧ Aside0 (kq ≤ kj4) ∧ Aside0 (Kd.R k25 25 w' w.heap.size (fun k_ => some k_ ≠ ((.slice Ao13 t391.length co13) : Value).ownBlock ∧ some k_ ≠ ((.slice Ao15 t397.length co15) : Value).ownBlock ∧ some k_ ≠ ((.slice Ao16 t400.length co16) : Value).ownBlock ∧ k_ ≠ gb403 ∧ k_ ≠ gb404) (.slice Ao12 t388.length co12) t388) ∧ Aside0 (Kd.R Kd.string 9 w' w.heap.size (fun k_ => some k_ ≠ ((.slice Ao16 t400.length co16) : Value).ownBlock) (.slice Ao13 t391.length co13) t391) ∧ Aside0 (Kd.R k25 25 w' w.heap.size (fun k_ => some k_ ≠ ((.slice Ao12 t388.length co12) : Value).ownBlock ∧ some k_ ≠ ((.slice Ao13 t391.length co13) : Value).ownBlock ∧ some k_ ≠ ((.slice Ao16 t400.length co16) : Value).ownBlock ∧ k_ ≠ gb403 ∧ k_ ≠ gb404) (.slice Ao15 t397.length co15) t397) ∧ Aside0 (Kd.R Kd.string 9 w' w.heap.size (fun k_ => some k_ ≠ ((.slice Ao13 t391.length co13) : Value).ownBlock) (.slice Ao16 t400.length co16) t400) ∧ Aside0 (w'.heap[gb403]? = some (.cells #[.int .i64 t385, .bool t386, .string t387, (.slice Ao12 t388.length co12), (.slice Ao13 t391.length co13)] 25 (0, 0))) ∧ Aside0 (w'.heap[gb404]? = some (.cells #[.int .i64 t394, .bool t395, .string t396, (.slice Ao15 t397.length co15), (.slice Ao16 t400.length co16)] 25 (0, 0))) ∧ Aside0 (Below w.heap.size w w'))
      case atStart => exact ⟨(0), (by first | rfl | (simp; done) | (simp [*]; done)), H', ⟨Nat.le_refl _⟩, ⟨by (with_reducible repeat (first | apply Kd.R_alloc | apply Kd.R_drewN | apply Kd.R_drew)); exact HO_404003.out⟩, ⟨by (with_reducible repeat (first | apply Kd.R_alloc | apply Kd.R_drewN | apply Kd.R_drew)); exact HO_404004.out⟩, ⟨by (with_reducible repeat (first | apply Kd.R_alloc | apply Kd.R_drewN | apply Kd.R_drew)); exact HO_405003.out⟩, ⟨by (with_reducible repeat (first | apply Kd.R_alloc | apply Kd.R_drewN | apply Kd.R_drew)); exact HO_405004.out⟩, ⟨by (with_reducible repeat (first | refine blk_drewN ?_ _ | refine blk_drew ?_ | refine blk_alloc ?_ _)); exact BK403.out⟩, ⟨by (with_reducible repeat (first | refine blk_drewN ?_ _ | refine blk_drew ?_ | refine blk_alloc ?_ _)); exact BK404.out⟩, ⟨by repeat (first | (with_reducible first | exact HB.out | apply below_alloc | apply pw_below_drewN | apply below_drew1 | refine below_set ?_ GE403.out | refine below_set ?_ GE404.out) | exact HB.out)⟩⟩
      case round =>
        clear H'
        try clear c1
        try clear c2
        try clear p2
        try clear q2
        try clear hx2
        try clear qi2
        try clear c9
        try clear c10
        try clear c17
        try clear c17b0
        try clear c18
        try clear c18b0
        try clear c18b1
        try clear c19
        try clear c19b0
        try clear c19b1
        try clear p20
        try clear q20
        try clear hx20
        try clear qi20
        try clear c21
        try clear c21b0
        try clear c21b1
        try clear c22
        try clear c22b0
        try clear c22b1
        try clear hcz11_0
        try clear hcz11_1
        try clear hcz11_2
        try clear hcz11_3
        try clear hcz11_4
        try clear hcz14_0
        try clear hcz14_1
        try clear hcz14_2
        try clear hcz14_3
        try clear hcz14_4
        try clear hfz11_0
        try clear hfz11_1
        try clear hfz11_2
        try clear hfz11_3
        try clear hfz11_4
        try clear hfz14_0
        try clear hfz14_1
        try clear hfz14_2
        try clear hfz14_3
        try clear hfz14_4
        try clear p2
        try clear p20
        try clear q2
        try clear q20
        obtain ⟨x8_2, rfl, HA, HK2, HO_404003, HO_404004, HO_405003, HO_405004, BK403, BK404, HB⟩ := hrel
        cases gk with
        | zero => exact absurd HA.out (by simp [colophonlaw10_ValueNumbers.l0])
        | succ k2 =>
          have H := HA.out
          clear HA
          simp only [colophonlaw10_ValueNumbers.l0] at H
          by_cases c23 : x8_2 < (x7_4.size : Int)
          · rw [if_pos c23] at H
            have c23b0 : decide (x8_2 < (x7_4.size : Int)) = true := decide_eq_true c23
            clear c23
            by_cases c24 : 0 ≤ x8_2
            · rw [if_pos c24] at H
              have c24b0 : decide (0 ≤ x8_2) = true := decide_eq_true c24
              clear c24
              by_cases c26 : (bt x7_4 x8_2) < 48
              · rw [if_pos c26] at H
                have c26b0 : decide ((bt x7_4 x8_2) < 48) = true := decide_eq_true c26
                clear c26
                obtain rfl := Option.some.inj H
                have p25 : 0 ≤ (x8_2 : Int) := of_decide_eq_true (by first | (with_reducible assumption) | assumption)
                have q25 : x8_2 < (x7_4.size : Int) := of_decide_eq_true (by first | (with_reducible assumption) | assumption)
                have hx25 := bt_at x7_4 x8_2
                replace p25 := eq_true p25
                replace q25 := eq_true q25
                go_wp2
                go_ret
                exact ⟨by first | rfl | (simp [errW_none, errW_some] <;> rfl) | (simp [errW_none, errW_some] <;> decide +kernel) | (simp [*, errW_none, errW_some] <;> rfl), by repeat (first | (with_reducible first | exact HB.out | apply below_alloc | apply pw_below_drewN | apply below_drew1 | refine below_set ?_ GE403.out | refine below_set ?_ GE404.out) | exact HB.out)⟩
              · rw [if_neg c26] at H
                have c26b0 : decide ((bt x7_4 x8_2) < 48) = false := decide_eq_false c26
                clear c26
                by_cases c28 : (bt x7_4 x8_2) > 57
                · rw [if_pos c28] at H
                  have c28b0 : decide (57 < (bt x7_4 x8_2)) = true := decide_eq_true c28
                  clear c28
                  obtain rfl := Option.some.inj H
                  have p25 : 0 ≤ (x8_2 : Int) := of_decide_eq_true (by first | (with_reducible assumption) | assumption)
                  have q25 : x8_2 < (x7_4.size : Int) := of_decide_eq_true (by first | (with_reducible assumption) | assumption)
                  have hx25 := bt_at x7_4 x8_2
                  replace p25 := eq_true p25
                  replace q25 := eq_true q25
                  have p27 : 0 ≤ (x8_2 : Int) := of_decide_eq_true (by first | (with_reducible assumption) | assumption)
                  have q27 : x8_2 < (x7_4.size : Int) := of_decide_eq_true (by first | (with_reducible assumption) | assumption)
                  have hx27 := bt_at x7_4 x8_2
                  replace p27 := eq_true p27
                  replace q27 := eq_true q27
                  go_wp2
                  go_ret
                  exact ⟨by first | rfl | (simp [errW_none, errW_some] <;> rfl) | (simp [errW_none, errW_some] <;> decide +kernel) | (simp [*, errW_none, errW_some] <;> rfl), by repeat (first | (with_reducible first | exact HB.out | apply below_alloc | apply pw_below_drewN | apply below_drew1 | refine below_set ?_ GE403.out | refine below_set ?_ GE404.out) | exact HB.out)⟩
                · rw [if_neg c28] at H
                  have c28b0 : decide (57 < (bt x7_4 x8_2)) = false := decide_eq_false c28
                  clear c28
                  by_cases c29 : x8_2 = 0
                  · rw [if_pos c29] at H
                    have c29b0 : (x8_2 == 0) = true := beq_iff_eq.mpr c29
                    have c29b1 : (x8_2 != 0) = false := bne_eq_false_iff_eq.mpr c29
                    clear c29
                    by_cases c31 : (bt x7_4 x8_2) = 48
                    · rw [if_pos c31] at H
                      have c31b0 : ((bt x7_4 x8_2) == 48) = true := beq_iff_eq.mpr c31
                      have c31b1 : ((bt x7_4 x8_2) != 48) = false := bne_eq_false_iff_eq.mpr c31
                      clear c31
                      by_cases c32 : (x7_4.size : Int) > 1
                      · rw [if_pos c32] at H
                        have c32b0 : decide (1 < (x7_4.size : Int)) = true := decide_eq_true c32
                        have c32b1 : decide (1 < x7_4.size) = true := decide_eq_true (by omega)
                        clear c32
                        obtain rfl := Option.some.inj H
                        have p25 : 0 ≤ (x8_2 : Int) := of_decide_eq_true (by first | (with_reducible assumption) | assumption)
                        have q25 : x8_2 < (x7_4.size : Int) := of_decide_eq_true (by first | (with_reducible assumption) | assumption)
                        have hx25 := bt_at x7_4 x8_2
                        replace p25 := eq_true p25
                        replace q25 := eq_true q25
                        have p27 : 0 ≤ (x8_2 : Int) := of_decide_eq_true (by first | (with_reducible assumption) | assumption)
                        have q27 : x8_2 < (x7_4.size : Int) := of_decide_eq_true (by first | (with_reducible assumption) | assumption)
                        have hx27 := bt_at x7_4 x8_2
                        replace p27 := eq_true p27
                        replace q27 := eq_true q27
                        have p30 : 0 ≤ (x8_2 : Int) := of_decide_eq_true (by first | (with_reducible assumption) | assumption)
                        have q30 : x8_2 < (x7_4.size : Int) := of_decide_eq_true (by first | (with_reducible assumption) | assumption)
                        have hx30 := bt_at x7_4 x8_2
                        replace p30 := eq_true p30
                        replace q30 := eq_true q30
                        go_wp2
                        go_ret
                        exact ⟨by first | rfl | (simp [errW_none, errW_some] <;> rfl) | (simp [errW_none, errW_some] <;> decide +kernel) | (simp [*, errW_none, errW_some] <;> rfl), by repeat (first | (with_reducible first | exact HB.out | apply below_alloc | apply pw_below_drewN | apply below_drew1 | refine below_set ?_ GE403.out | refine below_set ?_ GE404.out) | exact HB.out)⟩
                      · rw [if_neg c32] at H
                        have c32b0 : decide (1 < (x7_4.size : Int)) = false := decide_eq_false c32
                        have c32b1 : decide (1 < x7_4.size) = false := decide_eq_false (by omega)
                        clear c32
                        have H' := Aside0.mk H
                        clear H
                        have p25 : 0 ≤ (x8_2 : Int) := of_decide_eq_true (by first | (with_reducible assumption) | assumption)
                        have q25 : x8_2 < (x7_4.size : Int) := of_decide_eq_true (by first | (with_reducible assumption) | assumption)
                        have hx25 := bt_at x7_4 x8_2
                        replace p25 := eq_true p25
                        replace q25 := eq_true q25
                        have p27 : 0 ≤ (x8_2 : Int) := of_decide_eq_true (by first | (with_reducible assumption) | assumption)
                        have q27 : x8_2 < (x7_4.size : Int) := of_decide_eq_true (by first | (with_reducible assumption) | assumption)
                        have hx27 := bt_at x7_4 x8_2
                        replace p27 := eq_true p27
                        replace q27 := eq_true q27
                        have p30 : 0 ≤ (x8_2 : Int) := of_decide_eq_true (by first | (with_reducible assumption) | assumption)
                        have q30 : x8_2 < (x7_4.size : Int) := of_decide_eq_true (by first | (with_reducible assumption) | assumption)
                        have hx30 := bt_at x7_4 x8_2
                        replace p30 := eq_true p30
                        replace q30 := eq_true q30
                        go_wp2
                        go_roundg k2
                        case measure => have := HJ4.out; have := HK2.out; omega
                        case rel => exact ⟨(wrap64 (x8_2 + 1)), (by first | rfl | (simp; done) | (simp [*]; done)), H', ⟨by have := HJ4.out; have := HK2.out; omega⟩, ⟨by (with_reducible repeat (first | apply Kd.R_alloc | apply Kd.R_drewN | apply Kd.R_drew)); exact HO_404003.out⟩, ⟨by (with_reducible repeat (first | apply Kd.R_alloc | apply Kd.R_drewN | apply Kd.R_drew)); exact HO_404004.out⟩, ⟨by (with_reducible repeat (first | apply Kd.R_alloc | apply Kd.R_drewN | apply Kd.R_drew)); exact HO_405003.out⟩, ⟨by (with_reducible repeat (first | apply Kd.R_alloc | apply Kd.R_drewN | apply Kd.R_drew)); exact HO_405004.out⟩, ⟨by (with_reducible repeat (first | refine blk_drewN ?_ _ | refine blk_drew ?_ | refine blk_alloc ?_ _)); exact BK403.out⟩, ⟨by (with_reducible repeat (first | refine blk_drewN ?_ _ | refine blk_drew ?_ | refine blk_alloc ?_ _)); exact BK404.out⟩, ⟨by repeat (first | (with_reducible first | exact HB.out | apply below_alloc | apply pw_below_drewN | apply below_drew1 | refine below_set ?_ GE403.out | refine below_set ?_ GE404.out) | exact HB.out)⟩⟩
                    · rw [if_neg c31] at H
                      have c31b0 : ((bt x7_4 x8_2) == 48) = false := beq_eq_false_iff_ne.mpr c31
                      have c31b1 : ((bt x7_4 x8_2) != 48) = true := bne_iff_ne.mpr c31
                      have H' := Aside0.mk H
                      clear H
                      have p25 : 0 ≤ (x8_2 : Int) := of_decide_eq_true (by first | (with_reducible assumption) | assumption)
                      have q25 : x8_2 < (x7_4.size : Int) := of_decide_eq_true (by first | (with_reducible assumption) | assumption)
                      have hx25 := bt_at x7_4 x8_2
                      replace p25 := eq_true p25
                      replace q25 := eq_true q25
                      have p27 : 0 ≤ (x8_2 : Int) := of_decide_eq_true (by first | (with_reducible assumption) | assumption)
                      have q27 : x8_2 < (x7_4.size : Int) := of_decide_eq_true (by first | (with_reducible assumption) | assumption)
                      have hx27 := bt_at x7_4 x8_2
                      replace p27 := eq_true p27
                      replace q27 := eq_true q27
                      have p30 : 0 ≤ (x8_2 : Int) := of_decide_eq_true (by first | (with_reducible assumption) | assumption)
                      have q30 : x8_2 < (x7_4.size : Int) := of_decide_eq_true (by first | (with_reducible assumption) | assumption)
                      have hx30 := bt_at x7_4 x8_2
                      replace p30 := eq_true p30
                      replace q30 := eq_true q30
                      go_wp2
                      go_roundg k2
                      case measure => have := HJ4.out; have := HK2.out; omega
                      case rel => exact ⟨(wrap64 (x8_2 + 1)), (by first | rfl | (simp; done) | (simp [*]; done)), H', ⟨by have := HJ4.out; have := HK2.out; omega⟩, ⟨by (with_reducible repeat (first | apply Kd.R_alloc | apply Kd.R_drewN | apply Kd.R_drew)); exact HO_404003.out⟩, ⟨by (with_reducible repeat (first | apply Kd.R_alloc | apply Kd.R_drewN | apply Kd.R_drew)); exact HO_404004.out⟩, ⟨by (with_reducible repeat (first | apply Kd.R_alloc | apply Kd.R_drewN | apply Kd.R_drew)); exact HO_405003.out⟩, ⟨by (with_reducible repeat (first | apply Kd.R_alloc | apply Kd.R_drewN | apply Kd.R_drew)); exact HO_405004.out⟩, ⟨by (with_reducible repeat (first | refine blk_drewN ?_ _ | refine blk_drew ?_ | refine blk_alloc ?_ _)); exact BK403.out⟩, ⟨by (with_reducible repeat (first | refine blk_drewN ?_ _ | refine blk_drew ?_ | refine blk_alloc ?_ _)); exact BK404.out⟩, ⟨by repeat (first | (with_reducible first | exact HB.out | apply below_alloc | apply pw_below_drewN | apply below_drew1 | refine below_set ?_ GE403.out | refine below_set ?_ GE404.out) | exact HB.out)⟩⟩
                  · rw [if_neg c29] at H
                    have c29b0 : (x8_2 == 0) = false := beq_eq_false_iff_ne.mpr c29
                    have c29b1 : (x8_2 != 0) = true := bne_iff_ne.mpr c29
                    have H' := Aside0.mk H
                    clear H
                    have p25 : 0 ≤ (x8_2 : Int) := of_decide_eq_true (by first | (with_reducible assumption) | assumption)
                    have q25 : x8_2 < (x7_4.size : Int) := of_decide_eq_true (by first | (with_reducible assumption) | assumption)
                    have hx25 := bt_at x7_4 x8_2
                    replace p25 := eq_true p25
                    replace q25 := eq_true q25
                    have p27 : 0 ≤ (x8_2 : Int) := of_decide_eq_true (by first | (with_reducible assumption) | assumption)
                    have q27 : x8_2 < (x7_4.size : Int) := of_decide_eq_true (by first | (with_reducible assumption) | assumption)
                    have hx27 := bt_at x7_4 x8_2
                    replace p27 := eq_true p27
                    replace q27 := eq_true q27
                    go_wp2
                    go_roundg k2
                    case measure => have := HJ4.out; have := HK2.out; omega
                    case rel => exact ⟨(wrap64 (x8_2 + 1)), (by first | rfl | (simp; done) | (simp [*]; done)), H', ⟨by have := HJ4.out; have := HK2.out; omega⟩, ⟨by (with_reducible repeat (first | apply Kd.R_alloc | apply Kd.R_drewN | apply Kd.R_drew)); exact HO_404003.out⟩, ⟨by (with_reducible repeat (first | apply Kd.R_alloc | apply Kd.R_drewN | apply Kd.R_drew)); exact HO_404004.out⟩, ⟨by (with_reducible repeat (first | apply Kd.R_alloc | apply Kd.R_drewN | apply Kd.R_drew)); exact HO_405003.out⟩, ⟨by (with_reducible repeat (first | apply Kd.R_alloc | apply Kd.R_drewN | apply Kd.R_drew)); exact HO_405004.out⟩, ⟨by (with_reducible repeat (first | refine blk_drewN ?_ _ | refine blk_drew ?_ | refine blk_alloc ?_ _)); exact BK403.out⟩, ⟨by (with_reducible repeat (first | refine blk_drewN ?_ _ | refine blk_drew ?_ | refine blk_alloc ?_ _)); exact BK404.out⟩, ⟨by repeat (first | (with_reducible first | exact HB.out | apply below_alloc | apply pw_below_drewN | apply below_drew1 | refine below_set ?_ GE403.out | refine below_set ?_ GE404.out) | exact HB.out)⟩⟩
            · rw [if_neg c24] at H
              exact absurd H (by simp)
          · rw [if_neg c23] at H
            have c23b0 : decide (x8_2 < (x7_4.size : Int)) = false := decide_eq_false c23
            clear c23
            by_cases c33 : (x7_4.size : Int) > 0
            · rw [if_pos c33] at H
              have c33b0 : decide (0 < (x7_4.size : Int)) = true := decide_eq_true c33
              have c33b1 : decide (0 < x7_4.size) = true := decide_eq_true (by omega)
              clear c33
              replace H := Option.bind_eq_some_iff.mp H
              obtain ⟨t405, A340, H⟩ := H
              replace H : (if (t405 == (a0 == a1)) = true then ((value_Check.f k2 t385 t386 t387 t388 t391).bind fun t406 => (if t406 = 0 then ((colophonlaw10_awake.f).bind fun t407 => (some t407)) else (some false))) else (some false)) = some r := H
              have A34 := Aside0.mk A340
              clear A340
              by_cases c35 : (t405 == (a0 == a1)) = true
              · rw [if_pos c35] at H
                have c35b0 : (t405 == (a0 == a1)) = true := c35
                (try (have c35b1 : decide (t405 = (a0 == a1)) = true := by simpa using c35))
                (try (have c35b2 : (t405 == (a0 == a1)) = true := by simpa using c35))
                clear c35
                replace H := Option.bind_eq_some_iff.mp H
                obtain ⟨t406, A360, H⟩ := H
                replace H : (if t406 = 0 then ((colophonlaw10_awake.f).bind fun t407 => (some t407)) else (some false)) = some r := H
                have A36 := Aside0.mk A360
                clear A360
                by_cases c37 : t406 = 0
                · rw [if_pos c37] at H
                  have c37b0 : (t406 == 0) = true := beq_iff_eq.mpr c37
                  have c37b1 : (t406 != 0) = false := bne_eq_false_iff_eq.mpr c37
                  clear c37
                  replace H := Option.bind_eq_some_iff.mp H
                  obtain ⟨t407, A380, H⟩ := H
                  replace H : (some t407) = some r := H
                  have A38 := Aside0.mk A380
                  clear A380
                  obtain rfl := Option.some.inj H
                  have hnb39 := NB403_404.out
                  have hnc39 := NB404_403.out
                  have hcz40_0 : wr.cell? ⟨gb403, 0, none⟩ = some (.int .i64 t385) := (blk_cell BK403.out 0).trans rfl
                  have hcz40_1 : wr.cell? ⟨gb403, 1, none⟩ = some (.bool t386) := (blk_cell BK403.out 1).trans rfl
                  have hcz40_2 : wr.cell? ⟨gb403, 2, none⟩ = some (.string t387) := (blk_cell BK403.out 2).trans rfl
                  have hcz40_3 : wr.cell? ⟨gb403, 3, none⟩ = some (.slice Ao12 t388.length co12) := (blk_cell BK403.out 3).trans rfl
                  have hcz40_4 : wr.cell? ⟨gb403, 4, none⟩ = some (.slice Ao13 t391.length co13) := (blk_cell BK403.out 4).trans rfl
                  have hfz40_0 := blk_frozen BK403.out 0
                  have hfz40_1 := blk_frozen BK403.out 1
                  have hfz40_2 := blk_frozen BK403.out 2
                  have hfz40_3 := blk_frozen BK403.out 3
                  have hfz40_4 := blk_frozen BK403.out 4
                  have hcz41_0 : wr.cell? ⟨gb404, 0, none⟩ = some (.int .i64 t394) := (blk_cell BK404.out 0).trans rfl
                  have hcz41_1 : wr.cell? ⟨gb404, 1, none⟩ = some (.bool t395) := (blk_cell BK404.out 1).trans rfl
                  have hcz41_2 : wr.cell? ⟨gb404, 2, none⟩ = some (.string t396) := (blk_cell BK404.out 2).trans rfl
                  have hcz41_3 : wr.cell? ⟨gb404, 3, none⟩ = some (.slice Ao15 t397.length co15) := (blk_cell BK404.out 3).trans rfl
                  have hcz41_4 : wr.cell? ⟨gb404, 4, none⟩ = some (.slice Ao16 t400.length co16) := (blk_cell BK404.out 4).trans rfl
                  have hfz41_0 := blk_frozen BK404.out 0
                  have hfz41_1 := blk_frozen BK404.out 1
                  have hfz41_2 := blk_frozen BK404.out 2
                  have hfz41_3 := blk_frozen BK404.out 3
                  have hfz41_4 := blk_frozen BK404.out 4
                  go_wp2_with (first | (go_at_call 22; (with_reducible refine (value_Equal.calls t385 t386 t387 _ _ t388 _ _ t391 t394 t395 t396 _ _ t397 _ _ t400 t405 _ ?side1 ?side2 ?side3 ?side4 ?side5 ?side6 ?side7 ?side8 A34.out).mono ?_); (case side1 => repeat (first | exact (Kd.R_reads' HO_404003.out).2.2 | (with_reducible refine Kd.C_alloc ?_ _) | (with_reducible refine Kd.C_drewN ?_ _) | (with_reducible refine Kd.C_drew ?_))); (case side2 => exact (Kd.R_reads' HO_404003.out).2.1); (case side3 => repeat (first | exact (Kd.R_reads' HO_404004.out).2.2 | (with_reducible refine Kd.C_alloc ?_ _) | (with_reducible refine Kd.C_drewN ?_ _) | (with_reducible refine Kd.C_drew ?_))); (case side4 => exact (Kd.R_reads' HO_404004.out).2.1); (case side5 => repeat (first | exact (Kd.R_reads' HO_405003.out).2.2 | (with_reducible refine Kd.C_alloc ?_ _) | (with_reducible refine Kd.C_drewN ?_ _) | (with_reducible refine Kd.C_drew ?_))); (case side6 => exact (Kd.R_reads' HO_405003.out).2.1); (case side7 => repeat (first | exact (Kd.R_reads' HO_405004.out).2.2 | (with_reducible refine Kd.C_alloc ?_ _) | (with_reducible refine Kd.C_drewN ?_ _) | (with_reducible refine Kd.C_drew ?_))); (case side8 => exact (Kd.R_reads' HO_405004.out).2.1); rintro e w42 ⟨rfl, hb⟩; have n0_ := Aside0.mk (Kd.R_below (by (with_reducible repeat (first | apply Kd.R_alloc | apply Kd.R_drewN | apply Kd.R_drew)); exact HO_404003.out) hb); have n1_ := Aside0.mk (Kd.R_below (by (with_reducible repeat (first | apply Kd.R_alloc | apply Kd.R_drewN | apply Kd.R_drew)); exact HO_404004.out) hb); have n2_ := Aside0.mk (Kd.R_below (by (with_reducible repeat (first | apply Kd.R_alloc | apply Kd.R_drewN | apply Kd.R_drew)); exact HO_405003.out) hb); have n3_ := Aside0.mk (Kd.R_below (by (with_reducible repeat (first | apply Kd.R_alloc | apply Kd.R_drewN | apply Kd.R_drew)); exact HO_405004.out) hb); have n4_ := Aside0.mk (blk_below (g := gb403) (o := .cells #[.int .i64 t385, .bool t386, .string t387, .slice Ao12 t388.length co12, .slice Ao13 t391.length co13] 25 (0, 0)) (by (with_reducible repeat (first | refine blk_drewN ?_ _ | refine blk_drew ?_ | refine blk_alloc ?_ _)); exact BK403.out) hb); have n5_ := Aside0.mk (blk_below (g := gb404) (o := .cells #[.int .i64 t394, .bool t395, .string t396, .slice Ao15 t397.length co15, .slice Ao16 t400.length co16] 25 (0, 0)) (by (with_reducible repeat (first | refine blk_drewN ?_ _ | refine blk_drew ?_ | refine blk_alloc ?_ _)); exact BK404.out) hb); have n6_ := Aside0.mk (below_step (by repeat (first | (with_reducible first | exact HB.out | apply below_alloc | apply pw_below_drewN | apply below_drew1 | refine below_set ?_ GE403.out | refine below_set ?_ GE404.out) | exact HB.out)) hb); clear HO_404003; clear HO_404004; clear HO_405003; clear HO_405004; clear BK403; clear BK404; clear HB; have HO_404003 := n0_; have HO_404004 := n1_; have HO_405003 := n2_; have HO_405004 := n3_; have BK403 := n4_; have BK404 := n5_; have HB := n6_; clear n0_ n1_ n2_ n3_ n4_ n5_ n6_; (try clear hb); (try clear hb2); (try clear hk); (try clear hi); have hcz43_0 : w42.cell? ⟨gb403, 0, none⟩ = some (.int .i64 t385) := (blk_cell BK403.out 0).trans rfl; have hcz43_1 : w42.cell? ⟨gb403, 1, none⟩ = some (.bool t386) := (blk_cell BK403.out 1).trans rfl; have hcz43_2 : w42.cell? ⟨gb403, 2, none⟩ = some (.string t387) := (blk_cell BK403.out 2).trans rfl; have hcz43_3 : w42.cell? ⟨gb403, 3, none⟩ = some (.slice Ao12 t388.length co12) := (blk_cell BK403.out 3).trans rfl; have hcz43_4 : w42.cell? ⟨gb403, 4, none⟩ = some (.slice Ao13 t391.length co13) := (blk_cell BK403.out 4).trans rfl; have hfz43_0 := blk_frozen BK403.out 0; have hfz43_1 := blk_frozen BK403.out 1; have hfz43_2 := blk_frozen BK403.out 2; have hfz43_3 := blk_frozen BK403.out 3; have hfz43_4 := blk_frozen BK403.out 4) | (go_at_call 16; (with_reducible refine (value_Check.calls k2 t385 t386 t387 _ _ t388 _ _ t391 t406 _ ?side1 ?side2 ?side3 ?side4 A36.out).mono ?_); (case side1 => repeat (first | exact (Kd.R_reads' HO_404003.out).2.2 | (with_reducible refine Kd.C_alloc ?_ _) | (with_reducible refine Kd.C_drewN ?_ _) | (with_reducible refine Kd.C_drew ?_))); (case side2 => exact (Kd.R_reads' HO_404003.out).2.1); (case side3 => repeat (first | exact (Kd.R_reads' HO_404004.out).2.2 | (with_reducible refine Kd.C_alloc ?_ _) | (with_reducible refine Kd.C_drewN ?_ _) | (with_reducible refine Kd.C_drew ?_))); (case side4 => exact (Kd.R_reads' HO_404004.out).2.1); rintro e w44 ⟨rfl, hb⟩; have n0_ := Aside0.mk (Kd.R_below (by (with_reducible repeat (first | apply Kd.R_alloc | apply Kd.R_drewN | apply Kd.R_drew)); exact HO_404003.out) hb); have n1_ := Aside0.mk (Kd.R_below (by (with_reducible repeat (first | apply Kd.R_alloc | apply Kd.R_drewN | apply Kd.R_drew)); exact HO_404004.out) hb); have n2_ := Aside0.mk (Kd.R_below (by (with_reducible repeat (first | apply Kd.R_alloc | apply Kd.R_drewN | apply Kd.R_drew)); exact HO_405003.out) hb); have n3_ := Aside0.mk (Kd.R_below (by (with_reducible repeat (first | apply Kd.R_alloc | apply Kd.R_drewN | apply Kd.R_drew)); exact HO_405004.out) hb); have n4_ := Aside0.mk (blk_below (g := gb403) (o := .cells #[.int .i64 t385, .bool t386, .string t387, .slice Ao12 t388.length co12, .slice Ao13 t391.length co13] 25 (0, 0)) (by (with_reducible repeat (first | refine blk_drewN ?_ _ | refine blk_drew ?_ | refine blk_alloc ?_ _)); exact BK403.out) hb); have n5_ := Aside0.mk (blk_below (g := gb404) (o := .cells #[.int .i64 t394, .bool t395, .string t396, .slice Ao15 t397.length co15, .slice Ao16 t400.length co16] 25 (0, 0)) (by (with_reducible repeat (first | refine blk_drewN ?_ _ | refine blk_drew ?_ | refine blk_alloc ?_ _)); exact BK404.out) hb); have n6_ := Aside0.mk (below_step (by repeat (first | (with_reducible first | exact HB.out | apply below_alloc | apply pw_below_drewN | apply below_drew1 | refine below_set ?_ GE403.out | refine below_set ?_ GE404.out) | exact HB.out)) hb); clear HO_404003; clear HO_404004; clear HO_405003; clear HO_405004; clear BK403; clear BK404; clear HB; have HO_404003 := n0_; have HO_404004 := n1_; have HO_405003 := n2_; have HO_405004 := n3_; have BK403 := n4_; have BK404 := n5_; have HB := n6_; clear n0_ n1_ n2_ n3_ n4_ n5_ n6_; (try clear hb); (try clear hb2); (try clear hk); (try clear hi)) | (go_at_call 14; (with_reducible refine (colophonlaw10_awake.calls  t407 _ ?side1 A38.out).mono ?_); (case side1 => exact TAB.below HT.out (by repeat (first | (with_reducible first | exact HB.out | apply below_alloc | apply pw_below_drewN | apply below_drew1 | refine below_set ?_ GE403.out | refine below_set ?_ GE404.out) | exact HB.out))); rintro e w45 ⟨rfl, hb⟩; have n0_ := Aside0.mk (Kd.R_below (by (with_reducible repeat (first | apply Kd.R_alloc | apply Kd.R_drewN | apply Kd.R_drew)); exact HO_404003.out) hb); have n1_ := Aside0.mk (Kd.R_below (by (with_reducible repeat (first | apply Kd.R_alloc | apply Kd.R_drewN | apply Kd.R_drew)); exact HO_404004.out) hb); have n2_ := Aside0.mk (Kd.R_below (by (with_reducible repeat (first | apply Kd.R_alloc | apply Kd.R_drewN | apply Kd.R_drew)); exact HO_405003.out) hb); have n3_ := Aside0.mk (Kd.R_below (by (with_reducible repeat (first | apply Kd.R_alloc | apply Kd.R_drewN | apply Kd.R_drew)); exact HO_405004.out) hb); have n4_ := Aside0.mk (blk_below (g := gb403) (o := .cells #[.int .i64 t385, .bool t386, .string t387, .slice Ao12 t388.length co12, .slice Ao13 t391.length co13] 25 (0, 0)) (by (with_reducible repeat (first | refine blk_drewN ?_ _ | refine blk_drew ?_ | refine blk_alloc ?_ _)); exact BK403.out) hb); have n5_ := Aside0.mk (blk_below (g := gb404) (o := .cells #[.int .i64 t394, .bool t395, .string t396, .slice Ao15 t397.length co15, .slice Ao16 t400.length co16] 25 (0, 0)) (by (with_reducible repeat (first | refine blk_drewN ?_ _ | refine blk_drew ?_ | refine blk_alloc ?_ _)); exact BK404.out) hb); have n6_ := Aside0.mk (below_step (by repeat (first | (with_reducible first | exact HB.out | apply below_alloc | apply pw_below_drewN | apply below_drew1 | refine below_set ?_ GE403.out | refine below_set ?_ GE404.out) | exact HB.out)) hb); clear HO_404003; clear HO_404004; clear HO_405003; clear HO_405004; clear BK403; clear BK404; clear HB; have HO_404003 := n0_; have HO_404004 := n1_; have HO_405003 := n2_; have HO_405004 := n3_; have BK403 := n4_; have BK404 := n5_; have HB := n6_; clear n0_ n1_ n2_ n3_ n4_ n5_ n6_; (try clear hb); (try clear hb2); (try clear hk); (try clear hi)))
                  go_ret
                  exact ⟨by first | rfl | (simp [errW_none, errW_some] <;> rfl) | (simp [errW_none, errW_some] <;> decide +kernel) | (simp [*, errW_none, errW_some] <;> rfl), by repeat (first | (with_reducible first | exact HB.out | apply below_alloc | apply pw_below_drewN | apply below_drew1 | refine below_set ?_ GE403.out | refine below_set ?_ GE404.out) | exact HB.out)⟩
                · rw [if_neg c37] at H
                  have c37b0 : (t406 == 0) = false := beq_eq_false_iff_ne.mpr c37
                  have c37b1 : (t406 != 0) = true := bne_iff_ne.mpr c37
                  obtain rfl := Option.some.inj H
                  have hnb46 := NB403_404.out
                  have hnc46 := NB404_403.out
                  have hcz47_0 : wr.cell? ⟨gb403, 0, none⟩ = some (.int .i64 t385) := (blk_cell BK403.out 0).trans rfl
                  have hcz47_1 : wr.cell? ⟨gb403, 1, none⟩ = some (.bool t386) := (blk_cell BK403.out 1).trans rfl
                  have hcz47_2 : wr.cell? ⟨gb403, 2, none⟩ = some (.string t387) := (blk_cell BK403.out 2).trans rfl
                  have hcz47_3 : wr.cell? ⟨gb403, 3, none⟩ = some (.slice Ao12 t388.length co12) := (blk_cell BK403.out 3).trans rfl
                  have hcz47_4 : wr.cell? ⟨gb403, 4, none⟩ = some (.slice Ao13 t391.length co13) := (blk_cell BK403.out 4).trans rfl
                  have hfz47_0 := blk_frozen BK403.out 0
                  have hfz47_1 := blk_frozen BK403.out 1
                  have hfz47_2 := blk_frozen BK403.out 2
                  have hfz47_3 := blk_frozen BK403.out 3
                  have hfz47_4 := blk_frozen BK403.out 4
                  have hcz48_0 : wr.cell? ⟨gb404, 0, none⟩ = some (.int .i64 t394) := (blk_cell BK404.out 0).trans rfl
                  have hcz48_1 : wr.cell? ⟨gb404, 1, none⟩ = some (.bool t395) := (blk_cell BK404.out 1).trans rfl
                  have hcz48_2 : wr.cell? ⟨gb404, 2, none⟩ = some (.string t396) := (blk_cell BK404.out 2).trans rfl
                  have hcz48_3 : wr.cell? ⟨gb404, 3, none⟩ = some (.slice Ao15 t397.length co15) := (blk_cell BK404.out 3).trans rfl
                  have hcz48_4 : wr.cell? ⟨gb404, 4, none⟩ = some (.slice Ao16 t400.length co16) := (blk_cell BK404.out 4).trans rfl
                  have hfz48_0 := blk_frozen BK404.out 0
                  have hfz48_1 := blk_frozen BK404.out 1
                  have hfz48_2 := blk_frozen BK404.out 2
                  have hfz48_3 := blk_frozen BK404.out 3
                  have hfz48_4 := blk_frozen BK404.out 4
                  go_wp2_with (first | (go_at_call 22; (with_reducible refine (value_Equal.calls t385 t386 t387 _ _ t388 _ _ t391 t394 t395 t396 _ _ t397 _ _ t400 t405 _ ?side1 ?side2 ?side3 ?side4 ?side5 ?side6 ?side7 ?side8 A34.out).mono ?_); (case side1 => repeat (first | exact (Kd.R_reads' HO_404003.out).2.2 | (with_reducible refine Kd.C_alloc ?_ _) | (with_reducible refine Kd.C_drewN ?_ _) | (with_reducible refine Kd.C_drew ?_))); (case side2 => exact (Kd.R_reads' HO_404003.out).2.1); (case side3 => repeat (first | exact (Kd.R_reads' HO_404004.out).2.2 | (with_reducible refine Kd.C_alloc ?_ _) | (with_reducible refine Kd.C_drewN ?_ _) | (with_reducible refine Kd.C_drew ?_))); (case side4 => exact (Kd.R_reads' HO_404004.out).2.1); (case side5 => repeat (first | exact (Kd.R_reads' HO_405003.out).2.2 | (with_reducible refine Kd.C_alloc ?_ _) | (with_reducible refine Kd.C_drewN ?_ _) | (with_reducible refine Kd.C_drew ?_))); (case side6 => exact (Kd.R_reads' HO_405003.out).2.1); (case side7 => repeat (first | exact (Kd.R_reads' HO_405004.out).2.2 | (with_reducible refine Kd.C_alloc ?_ _) | (with_reducible refine Kd.C_drewN ?_ _) | (with_reducible refine Kd.C_drew ?_))); (case side8 => exact (Kd.R_reads' HO_405004.out).2.1); rintro e w49 ⟨rfl, hb⟩; have n0_ := Aside0.mk (Kd.R_below (by (with_reducible repeat (first | apply Kd.R_alloc | apply Kd.R_drewN | apply Kd.R_drew)); exact HO_404003.out) hb); have n1_ := Aside0.mk (Kd.R_below (by (with_reducible repeat (first | apply Kd.R_alloc | apply Kd.R_drewN | apply Kd.R_drew)); exact HO_404004.out) hb); have n2_ := Aside0.mk (Kd.R_below (by (with_reducible repeat (first | apply Kd.R_alloc | apply Kd.R_drewN | apply Kd.R_drew)); exact HO_405003.out) hb); have n3_ := Aside0.mk (Kd.R_below (by (with_reducible repeat (first | apply Kd.R_alloc | apply Kd.R_drewN | apply Kd.R_drew)); exact HO_405004.out) hb); have n4_ := Aside0.mk (blk_below (g := gb403) (o := .cells #[.int .i64 t385, .bool t386, .string t387, .slice Ao12 t388.length co12, .slice Ao13 t391.length co13] 25 (0, 0)) (by (with_reducible repeat (first | refine blk_drewN ?_ _ | refine blk_drew ?_ | refine blk_alloc ?_ _)); exact BK403.out) hb); have n5_ := Aside0.mk (blk_below (g := gb404) (o := .cells #[.int .i64 t394, .bool t395, .string t396, .slice Ao15 t397.length co15, .slice Ao16 t400.length co16] 25 (0, 0)) (by (with_reducible repeat (first | refine blk_drewN ?_ _ | refine blk_drew ?_ | refine blk_alloc ?_ _)); exact BK404.out) hb); have n6_ := Aside0.mk (below_step (by repeat (first | (with_reducible first | exact HB.out | apply below_alloc | apply pw_below_drewN | apply below_drew1 | refine below_set ?_ GE403.out | refine below_set ?_ GE404.out) | exact HB.out)) hb); clear HO_404003; clear HO_404004; clear HO_405003; clear HO_405004; clear BK403; clear BK404; clear HB; have HO_404003 := n0_; have HO_404004 := n1_; have HO_405003 := n2_; have HO_405004 := n3_; have BK403 := n4_; have BK404 := n5_; have HB := n6_; clear n0_ n1_ n2_ n3_ n4_ n5_ n6_; (try clear hb); (try clear hb2); (try clear hk); (try clear hi); have hcz50_0 : w49.cell? ⟨gb403, 0, none⟩ = some (.int .i64 t385) := (blk_cell BK403.out 0).trans rfl; have hcz50_1 : w49.cell? ⟨gb403, 1, none⟩ = some (.bool t386) := (blk_cell BK403.out 1).trans rfl; have hcz50_2 : w49.cell? ⟨gb403, 2, none⟩ = some (.string t387) := (blk_cell BK403.out 2).trans rfl; have hcz50_3 : w49.cell? ⟨gb403, 3, none⟩ = some (.slice Ao12 t388.length co12) := (blk_cell BK403.out 3).trans rfl; have hcz50_4 : w49.cell? ⟨gb403, 4, none⟩ = some (.slice Ao13 t391.length co13) := (blk_cell BK403.out 4).trans rfl; have hfz50_0 := blk_frozen BK403.out 0; have hfz50_1 := blk_frozen BK403.out 1; have hfz50_2 := blk_frozen BK403.out 2; have hfz50_3 := blk_frozen BK403.out 3; have hfz50_4 := blk_frozen BK403.out 4) | (go_at_call 16; (with_reducible refine (value_Check.calls k2 t385 t386 t387 _ _ t388 _ _ t391 t406 _ ?side1 ?side2 ?side3 ?side4 A36.out).mono ?_); (case side1 => repeat (first | exact (Kd.R_reads' HO_404003.out).2.2 | (with_reducible refine Kd.C_alloc ?_ _) | (with_reducible refine Kd.C_drewN ?_ _) | (with_reducible refine Kd.C_drew ?_))); (case side2 => exact (Kd.R_reads' HO_404003.out).2.1); (case side3 => repeat (first | exact (Kd.R_reads' HO_404004.out).2.2 | (with_reducible refine Kd.C_alloc ?_ _) | (with_reducible refine Kd.C_drewN ?_ _) | (with_reducible refine Kd.C_drew ?_))); (case side4 => exact (Kd.R_reads' HO_404004.out).2.1); rintro e w51 ⟨rfl, hb⟩; have n0_ := Aside0.mk (Kd.R_below (by (with_reducible repeat (first | apply Kd.R_alloc | apply Kd.R_drewN | apply Kd.R_drew)); exact HO_404003.out) hb); have n1_ := Aside0.mk (Kd.R_below (by (with_reducible repeat (first | apply Kd.R_alloc | apply Kd.R_drewN | apply Kd.R_drew)); exact HO_404004.out) hb); have n2_ := Aside0.mk (Kd.R_below (by (with_reducible repeat (first | apply Kd.R_alloc | apply Kd.R_drewN | apply Kd.R_drew)); exact HO_405003.out) hb); have n3_ := Aside0.mk (Kd.R_below (by (with_reducible repeat (first | apply Kd.R_alloc | apply Kd.R_drewN | apply Kd.R_drew)); exact HO_405004.out) hb); have n4_ := Aside0.mk (blk_below (g := gb403) (o := .cells #[.int .i64 t385, .bool t386, .string t387, .slice Ao12 t388.length co12, .slice Ao13 t391.length co13] 25 (0, 0)) (by (with_reducible repeat (first | refine blk_drewN ?_ _ | refine blk_drew ?_ | refine blk_alloc ?_ _)); exact BK403.out) hb); have n5_ := Aside0.mk (blk_below (g := gb404) (o := .cells #[.int .i64 t394, .bool t395, .string t396, .slice Ao15 t397.length co15, .slice Ao16 t400.length co16] 25 (0, 0)) (by (with_reducible repeat (first | refine blk_drewN ?_ _ | refine blk_drew ?_ | refine blk_alloc ?_ _)); exact BK404.out) hb); have n6_ := Aside0.mk (below_step (by repeat (first | (with_reducible first | exact HB.out | apply below_alloc | apply pw_below_drewN | apply below_drew1 | refine below_set ?_ GE403.out | refine below_set ?_ GE404.out) | exact HB.out)) hb); clear HO_404003; clear HO_404004; clear HO_405003; clear HO_405004; clear BK403; clear BK404; clear HB; have HO_404003 := n0_; have HO_404004 := n1_; have HO_405003 := n2_; have HO_405004 := n3_; have BK403 := n4_; have BK404 := n5_; have HB := n6_; clear n0_ n1_ n2_ n3_ n4_ n5_ n6_; (try clear hb); (try clear hb2); (try clear hk); (try clear hi)))
                  go_ret
                  exact ⟨by first | rfl | (simp [errW_none, errW_some] <;> rfl) | (simp [errW_none, errW_some] <;> decide +kernel) | (simp [*, errW_none, errW_some] <;> rfl), by repeat (first | (with_reducible first | exact HB.out | apply below_alloc | apply pw_below_drewN | apply below_drew1 | refine below_set ?_ GE403.out | refine below_set ?_ GE404.out) | exact HB.out)⟩
              · rw [if_neg c35] at H
                have c35b0 : (t405 == (a0 == a1)) = false := by simpa using c35
                (try (have c35b1 : decide (t405 = (a0 == a1)) = false := by simpa using c35))
                (try (have c35b2 : (t405 == (a0 == a1)) = false := by simpa using c35))
                (try (have c35b3 : ¬ (t405 = (a0 == a1)) := by simpa using c35))
                clear c35
                obtain rfl := Option.some.inj H
                have hnb52 := NB403_404.out
                have hnc52 := NB404_403.out
                have hcz53_0 : wr.cell? ⟨gb403, 0, none⟩ = some (.int .i64 t385) := (blk_cell BK403.out 0).trans rfl
                have hcz53_1 : wr.cell? ⟨gb403, 1, none⟩ = some (.bool t386) := (blk_cell BK403.out 1).trans rfl
                have hcz53_2 : wr.cell? ⟨gb403, 2, none⟩ = some (.string t387) := (blk_cell BK403.out 2).trans rfl
                have hcz53_3 : wr.cell? ⟨gb403, 3, none⟩ = some (.slice Ao12 t388.length co12) := (blk_cell BK403.out 3).trans rfl
                have hcz53_4 : wr.cell? ⟨gb403, 4, none⟩ = some (.slice Ao13 t391.length co13) := (blk_cell BK403.out 4).trans rfl
                have hfz53_0 := blk_frozen BK403.out 0
                have hfz53_1 := blk_frozen BK403.out 1
                have hfz53_2 := blk_frozen BK403.out 2
                have hfz53_3 := blk_frozen BK403.out 3
                have hfz53_4 := blk_frozen BK403.out 4
                have hcz54_0 : wr.cell? ⟨gb404, 0, none⟩ = some (.int .i64 t394) := (blk_cell BK404.out 0).trans rfl
                have hcz54_1 : wr.cell? ⟨gb404, 1, none⟩ = some (.bool t395) := (blk_cell BK404.out 1).trans rfl
                have hcz54_2 : wr.cell? ⟨gb404, 2, none⟩ = some (.string t396) := (blk_cell BK404.out 2).trans rfl
                have hcz54_3 : wr.cell? ⟨gb404, 3, none⟩ = some (.slice Ao15 t397.length co15) := (blk_cell BK404.out 3).trans rfl
                have hcz54_4 : wr.cell? ⟨gb404, 4, none⟩ = some (.slice Ao16 t400.length co16) := (blk_cell BK404.out 4).trans rfl
                have hfz54_0 := blk_frozen BK404.out 0
                have hfz54_1 := blk_frozen BK404.out 1
                have hfz54_2 := blk_frozen BK404.out 2
                have hfz54_3 := blk_frozen BK404.out 3
                have hfz54_4 := blk_frozen BK404.out 4
                go_wp2_with (first | (go_at_call 22; (with_reducible refine (value_Equal.calls t385 t386 t387 _ _ t388 _ _ t391 t394 t395 t396 _ _ t397 _ _ t400 t405 _ ?side1 ?side2 ?side3 ?side4 ?side5 ?side6 ?side7 ?side8 A34.out).mono ?_); (case side1 => repeat (first | exact (Kd.R_reads' HO_404003.out).2.2 | (with_reducible refine Kd.C_alloc ?_ _) | (with_reducible refine Kd.C_drewN ?_ _) | (with_reducible refine Kd.C_drew ?_))); (case side2 => exact (Kd.R_reads' HO_404003.out).2.1); (case side3 => repeat (first | exact (Kd.R_reads' HO_404004.out).2.2 | (with_reducible refine Kd.C_alloc ?_ _) | (with_reducible refine Kd.C_drewN ?_ _) | (with_reducible refine Kd.C_drew ?_))); (case side4 => exact (Kd.R_reads' HO_404004.out).2.1); (case side5 => repeat (first | exact (Kd.R_reads' HO_405003.out).2.2 | (with_reducible refine Kd.C_alloc ?_ _) | (with_reducible refine Kd.C_drewN ?_ _) | (with_reducible refine Kd.C_drew ?_))); (case side6 => exact (Kd.R_reads' HO_405003.out).2.1); (case side7 => repeat (first | exact (Kd.R_reads' HO_405004.out).2.2 | (with_reducible refine Kd.C_alloc ?_ _) | (with_reducible refine Kd.C_drewN ?_ _) | (with_reducible refine Kd.C_drew ?_))); (case side8 => exact (Kd.R_reads' HO_405004.out).2.1); rintro e w55 ⟨rfl, hb⟩; have n0_ := Aside0.mk (Kd.R_below (by (with_reducible repeat (first | apply Kd.R_alloc | apply Kd.R_drewN | apply Kd.R_drew)); exact HO_404003.out) hb); have n1_ := Aside0.mk (Kd.R_below (by (with_reducible repeat (first | apply Kd.R_alloc | apply Kd.R_drewN | apply Kd.R_drew)); exact HO_404004.out) hb); have n2_ := Aside0.mk (Kd.R_below (by (with_reducible repeat (first | apply Kd.R_alloc | apply Kd.R_drewN | apply Kd.R_drew)); exact HO_405003.out) hb); have n3_ := Aside0.mk (Kd.R_below (by (with_reducible repeat (first | apply Kd.R_alloc | apply Kd.R_drewN | apply Kd.R_drew)); exact HO_405004.out) hb); have n4_ := Aside0.mk (blk_below (g := gb403) (o := .cells #[.int .i64 t385, .bool t386, .string t387, .slice Ao12 t388.length co12, .slice Ao13 t391.length co13] 25 (0, 0)) (by (with_reducible repeat (first | refine blk_drewN ?_ _ | refine blk_drew ?_ | refine blk_alloc ?_ _)); exact BK403.out) hb); have n5_ := Aside0.mk (blk_below (g := gb404) (o := .cells #[.int .i64 t394, .bool t395, .string t396, .slice Ao15 t397.length co15, .slice Ao16 t400.length co16] 25 (0, 0)) (by (with_reducible repeat (first | refine blk_drewN ?_ _ | refine blk_drew ?_ | refine blk_alloc ?_ _)); exact BK404.out) hb); have n6_ := Aside0.mk (below_step (by repeat (first | (with_reducible first | exact HB.out | apply below_alloc | apply pw_below_drewN | apply below_drew1 | refine below_set ?_ GE403.out | refine below_set ?_ GE404.out) | exact HB.out)) hb); clear HO_404003; clear HO_404004; clear HO_405003; clear HO_405004; clear BK403; clear BK404; clear HB; have HO_404003 := n0_; have HO_404004 := n1_; have HO_405003 := n2_; have HO_405004 := n3_; have BK403 := n4_; have BK404 := n5_; have HB := n6_; clear n0_ n1_ n2_ n3_ n4_ n5_ n6_; (try clear hb); (try clear hb2); (try clear hk); (try clear hi)))
                go_ret
                exact ⟨by first | rfl | (simp [errW_none, errW_some] <;> rfl) | (simp [errW_none, errW_some] <;> decide +kernel) | (simp [*, errW_none, errW_some] <;> rfl), by repeat (first | (with_reducible first | exact HB.out | apply below_alloc | apply pw_below_drewN | apply below_drew1 | refine below_set ?_ GE403.out | refine below_set ?_ GE404.out) | exact HB.out)⟩
            · rw [if_neg c33] at H
              have c33b0 : decide (0 < (x7_4.size : Int)) = false := decide_eq_false c33
              have c33b1 : decide (0 < x7_4.size) = false := decide_eq_false (by omega)
              clear c33
              obtain rfl := Option.some.inj H
              go_wp2
              go_ret
              exact ⟨by first | rfl | (simp [errW_none, errW_some] <;> rfl) | (simp [errW_none, errW_some] <;> decide +kernel) | (simp [*, errW_none, errW_some] <;> rfl), by repeat (first | (with_reducible first | exact HB.out | apply below_alloc | apply pw_below_drewN | apply below_drew1 | refine below_set ?_ GE403.out | refine below_set ?_ GE404.out) | exact HB.out)⟩

/-- THE ONE PURE STATEMENT of colophonlaw10_ValueNumbers: yours. -/
def colophonlaw10_ValueNumbers.Pure : Prop := ∀ (a0 : Int) (a1 : Int), (Lit.int .i64 a0).wf = true → (Lit.int .i64 a1).wf = true → ∃ k, colophonlaw10_ValueNumbers.f k a0 a1 = some true
theorem colophonlaw10_ValueNumbers.walk (P : colophonlaw10_ValueNumbers.Pure) (a0 : Int) (a1 : Int) (w : World) (w0 : (Lit.int .i64 a0).wf = true) (w1 : (Lit.int .i64 a1).wf = true) (hT : TAB w) :
    Calls Tryd.prog 9 #[.int .i64 a0, .int .i64 a1] w fun e w' => e = .returned (.bool true) ∧ Below w.heap.size w w' := by
  obtain ⟨k, h⟩ := P a0 a1 w0 w1
  refine (colophonlaw10_ValueNumbers.calls k a0 a1 true w hT h).mono ?_
  rintro e w' ⟨rfl, hd⟩
  exact ⟨rfl, hd⟩

end Go.Proofs.YtfpmompdgmklmaaDoor.P
