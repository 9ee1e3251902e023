-- Written by xprint.py (a program of this work) over the kit's printer. Not trusted: Lean checks it.
import Derived.Test.YtfpmompdgmklmaaDoorP0
namespace Go.Proofs.YtfpmompdgmklmaaDoor.P
attribute [-simp] List.length_drop List.length_take ByteArray.size_append
open Go.RowKit Go.Proofs.YtfpmompdgmklmaaDoorW.PrintWords Go.Proofs.YtfpmompdgmklmaaDoorW.PrintLast Go.Proofs.YtfpmompdgmklmaaDoorW.PrintMore
attribute [local go_sem] max2_int min2_int max_two min_two max_three min_three max_four min_four   -- for this text's walks alone
set_option linter.unusedVariables false
set_option linter.unusedSimpArgs false

/-! ### colophonref10_May: function 38 -/
mutual
def colophonref10_May.j0 : Nat → Bool → Int → Bool → ByteArray → List (S25) → List ByteArray → Option (Bool)
  | 0, _, _, _, _, _, _ => none
  | k + 1, x57, x239000, x239001, x239002, x239003, x239004 => if x57 = true then (some false) else (if x239000 = 5 then (colophonref10_May.j1 k ((x239004.length : Int) != (x239003.length : Int)) x239000 x239001 x239002 x239003 x239004) else (colophonref10_May.j1 k false x239000 x239001 x239002 x239003 x239004))
def colophonref10_May.j1 : Nat → Bool → Int → Bool → ByteArray → List (S25) → List ByteArray → Option (Bool)
  | 0, _, _, _, _, _, _ => none
  | k + 1, x69, x239000, x239001, x239002, x239003, x239004 => if x69 = true then (some false) else (colophonref10_May.l0 k 0 x239000 x239001 x239002 x239003 x239004)
def colophonref10_May.l0 : Nat → Int → Int → Bool → ByteArray → List (S25) → List ByteArray → Option (Bool)
  | 0, _, _, _, _, _, _ => none
  | k + 1, x3, x239000, x239001, x239002, x239003, x239004 => if x3 < (x239003.length : Int) then (if 0 ≤ x3 then ((colophonref10_May.f k ((rd_T25 x239003 x3).f0) ((rd_T25 x239003 x3).f1) ((rd_T25 x239003 x3).f2) ((rd_T25 x239003 x3).f3) ((rd_T25 x239003 x3).f4)).bind fun t240 => (if t240 = true then (colophonref10_May.l0 k (wrap64 (x3 + 1)) x239000 x239001 x239002 x239003 x239004) else (some false))) else (none)) else (some true)
def colophonref10_May.f : Nat → Int → Bool → ByteArray → List (S25) → List ByteArray → Option (Bool)
  | 0, _, _, _, _, _ => none
  | k + 1, a0_0, a0_1, a0_2, l0_3, l0_4 => if a0_0 < 0 then (colophonref10_May.j0 k true a0_0 a0_1 a0_2 l0_3 l0_4) else (if a0_0 > 5 then (colophonref10_May.j0 k true a0_0 a0_1 a0_2 l0_3 l0_4) else (if a0_1 = true then (if a0_0 = 1 then (if a0_2.toList = ([] : List UInt8) then (if (l0_3.length : Int) > 0 then (if a0_0 < 4 then (colophonref10_May.j0 k true a0_0 a0_1 a0_2 l0_3 l0_4) else (if (l0_4.length : Int) > 0 then (colophonref10_May.j0 k (a0_0 != 5) a0_0 a0_1 a0_2 l0_3 l0_4) else (colophonref10_May.j0 k false a0_0 a0_1 a0_2 l0_3 l0_4))) else (if (l0_4.length : Int) > 0 then (colophonref10_May.j0 k (a0_0 != 5) a0_0 a0_1 a0_2 l0_3 l0_4) else (colophonref10_May.j0 k false a0_0 a0_1 a0_2 l0_3 l0_4))) else (if a0_0 = 2 then (if (l0_3.length : Int) > 0 then (if a0_0 < 4 then (colophonref10_May.j0 k true a0_0 a0_1 a0_2 l0_3 l0_4) else (if (l0_4.length : Int) > 0 then (colophonref10_May.j0 k (a0_0 != 5) a0_0 a0_1 a0_2 l0_3 l0_4) else (colophonref10_May.j0 k false a0_0 a0_1 a0_2 l0_3 l0_4))) else (if (l0_4.length : Int) > 0 then (colophonref10_May.j0 k (a0_0 != 5) a0_0 a0_1 a0_2 l0_3 l0_4) else (colophonref10_May.j0 k false a0_0 a0_1 a0_2 l0_3 l0_4))) else (if a0_0 = 3 then (if (l0_3.length : Int) > 0 then (if a0_0 < 4 then (colophonref10_May.j0 k true a0_0 a0_1 a0_2 l0_3 l0_4) else (if (l0_4.length : Int) > 0 then (colophonref10_May.j0 k (a0_0 != 5) a0_0 a0_1 a0_2 l0_3 l0_4) else (colophonref10_May.j0 k false a0_0 a0_1 a0_2 l0_3 l0_4))) else (if (l0_4.length : Int) > 0 then (colophonref10_May.j0 k (a0_0 != 5) a0_0 a0_1 a0_2 l0_3 l0_4) else (colophonref10_May.j0 k false a0_0 a0_1 a0_2 l0_3 l0_4))) else (colophonref10_May.j0 k true a0_0 a0_1 a0_2 l0_3 l0_4)))) else (colophonref10_May.j0 k true a0_0 a0_1 a0_2 l0_3 l0_4)) else (if a0_2.toList = ([] : List UInt8) then (if (l0_3.length : Int) > 0 then (if a0_0 < 4 then (colophonref10_May.j0 k true a0_0 a0_1 a0_2 l0_3 l0_4) else (if (l0_4.length : Int) > 0 then (colophonref10_May.j0 k (a0_0 != 5) a0_0 a0_1 a0_2 l0_3 l0_4) else (colophonref10_May.j0 k false a0_0 a0_1 a0_2 l0_3 l0_4))) else (if (l0_4.length : Int) > 0 then (colophonref10_May.j0 k (a0_0 != 5) a0_0 a0_1 a0_2 l0_3 l0_4) else (colophonref10_May.j0 k false a0_0 a0_1 a0_2 l0_3 l0_4))) else (if a0_0 = 2 then (if (l0_3.length : Int) > 0 then (if a0_0 < 4 then (colophonref10_May.j0 k true a0_0 a0_1 a0_2 l0_3 l0_4) else (if (l0_4.length : Int) > 0 then (colophonref10_May.j0 k (a0_0 != 5) a0_0 a0_1 a0_2 l0_3 l0_4) else (colophonref10_May.j0 k false a0_0 a0_1 a0_2 l0_3 l0_4))) else (if (l0_4.length : Int) > 0 then (colophonref10_May.j0 k (a0_0 != 5) a0_0 a0_1 a0_2 l0_3 l0_4) else (colophonref10_May.j0 k false a0_0 a0_1 a0_2 l0_3 l0_4))) else (if a0_0 = 3 then (if (l0_3.length : Int) > 0 then (if a0_0 < 4 then (colophonref10_May.j0 k true a0_0 a0_1 a0_2 l0_3 l0_4) else (if (l0_4.length : Int) > 0 then (colophonref10_May.j0 k (a0_0 != 5) a0_0 a0_1 a0_2 l0_3 l0_4) else (colophonref10_May.j0 k false a0_0 a0_1 a0_2 l0_3 l0_4))) else (if (l0_4.length : Int) > 0 then (colophonref10_May.j0 k (a0_0 != 5) a0_0 a0_1 a0_2 l0_3 l0_4) else (colophonref10_May.j0 k false a0_0 a0_1 a0_2 l0_3 l0_4))) else (colophonref10_May.j0 k true a0_0 a0_1 a0_2 l0_3 l0_4))))))
end
theorem colophonref10_May.mono_l : ∀ k, (∀ y0 y1 y2 y3 y4, LeO (colophonref10_May.f k y0 y1 y2 y3 y4) (colophonref10_May.f (k + 1) y0 y1 y2 y3 y4)) ∧ (∀ y0 y1 y2 y3 y4 y5, LeO (colophonref10_May.j0 k y0 y1 y2 y3 y4 y5) (colophonref10_May.j0 (k + 1) y0 y1 y2 y3 y4 y5)) ∧ (∀ y0 y1 y2 y3 y4 y5, LeO (colophonref10_May.j1 k y0 y1 y2 y3 y4 y5) (colophonref10_May.j1 (k + 1) y0 y1 y2 y3 y4 y5)) ∧ (∀ y0 y1 y2 y3 y4 y5, LeO (colophonref10_May.l0 k y0 y1 y2 y3 y4 y5) (colophonref10_May.l0 (k + 1) y0 y1 y2 y3 y4 y5))
  | 0 => ⟨fun _ _ _ _ _ r h => by simp [colophonref10_May.f] at h, fun _ _ _ _ _ _ r h => by simp [colophonref10_May.j0] at h, fun _ _ _ _ _ _ r h => by simp [colophonref10_May.j1] at h, fun _ _ _ _ _ _ r h => by simp [colophonref10_May.l0] at h⟩
  | k + 1 => by
    obtain ⟨ih0, ih1, ih2, ih3⟩ := colophonref10_May.mono_l k
    refine ⟨?_, ?_, ?_, ?_⟩
    · intro y0 y1 y2 y3 y4
      unfold colophonref10_May.f
      repeat' first
      | (with_reducible exact ih0 _ _ _ _ _)
      | (with_reducible exact ih1 _ _ _ _ _ _)
      | (with_reducible exact ih2 _ _ _ _ _ _)
      | (with_reducible exact ih3 _ _ _ _ _ _)
      | (with_reducible exact LeO.refl _)
      | (with_reducible exact LeO.none _)
      | (with_reducible refine LeO.ite ?_ ?_)
      | (with_reducible refine LeO.bind ?_ (fun _ => ?_))
      | exact ih0 _ _ _ _ _
      | exact ih1 _ _ _ _ _ _
      | exact ih2 _ _ _ _ _ _
      | exact ih3 _ _ _ _ _ _
      | exact LeO.none _
      | refine LeO.ite ?_ ?_
      | refine LeO.bind ?_ (fun _ => ?_)
    · intro y0 y1 y2 y3 y4 y5
      unfold colophonref10_May.j0
      repeat' first
      | (with_reducible exact ih0 _ _ _ _ _)
      | (with_reducible exact ih1 _ _ _ _ _ _)
      | (with_reducible exact ih2 _ _ _ _ _ _)
      | (with_reducible exact ih3 _ _ _ _ _ _)
      | (with_reducible exact LeO.refl _)
      | (with_reducible exact LeO.none _)
      | (with_reducible refine LeO.ite ?_ ?_)
      | (with_reducible refine LeO.bind ?_ (fun _ => ?_))
      | exact ih0 _ _ _ _ _
      | exact ih1 _ _ _ _ _ _
      | exact ih2 _ _ _ _ _ _
      | exact ih3 _ _ _ _ _ _
      | exact LeO.none _
      | refine LeO.ite ?_ ?_
      | refine LeO.bind ?_ (fun _ => ?_)
    · intro y0 y1 y2 y3 y4 y5
      unfold colophonref10_May.j1
      repeat' first
      | (with_reducible exact ih0 _ _ _ _ _)
      | (with_reducible exact ih1 _ _ _ _ _ _)
      | (with_reducible exact ih2 _ _ _ _ _ _)
      | (with_reducible exact ih3 _ _ _ _ _ _)
      | (with_reducible exact LeO.refl _)
      | (with_reducible exact LeO.none _)
      | (with_reducible refine LeO.ite ?_ ?_)
      | (with_reducible refine LeO.bind ?_ (fun _ => ?_))
      | exact ih0 _ _ _ _ _
      | exact ih1 _ _ _ _ _ _
      | exact ih2 _ _ _ _ _ _
      | exact ih3 _ _ _ _ _ _
      | exact LeO.none _
      | refine LeO.ite ?_ ?_
      | refine LeO.bind ?_ (fun _ => ?_)
    · intro y0 y1 y2 y3 y4 y5
      unfold colophonref10_May.l0
      repeat' first
      | (with_reducible exact ih0 _ _ _ _ _)
      | (with_reducible exact ih1 _ _ _ _ _ _)
      | (with_reducible exact ih2 _ _ _ _ _ _)
      | (with_reducible exact ih3 _ _ _ _ _ _)
      | (with_reducible exact LeO.refl _)
      | (with_reducible exact LeO.none _)
      | (with_reducible refine LeO.ite ?_ ?_)
      | (with_reducible refine LeO.bind ?_ (fun _ => ?_))
      | exact ih0 _ _ _ _ _
      | exact ih1 _ _ _ _ _ _
      | exact ih2 _ _ _ _ _ _
      | exact ih3 _ _ _ _ _ _
      | exact LeO.none _
      | refine LeO.ite ?_ ?_
      | refine LeO.bind ?_ (fun _ => ?_)
theorem colophonref10_May.mono : ∀ a0 a1 a2 a3 a4 k, LeO (colophonref10_May.f k a0 a1 a2 a3 a4) (colophonref10_May.f (k + 1) a0 a1 a2 a3 a4) := by
  intro a0 a1 a2 a3 a4 k
  obtain ⟨ih0, ih1, ih2, ih3⟩ := colophonref10_May.mono_l k
  exact ih0 a0 a1 a2 a3 a4
set_option maxHeartbeats 8000000 in
set_option maxRecDepth 100000 in
theorem colophonref10_May.calls (k : Nat) : ∀ (a0_0 : Int) (a0_1 : Bool) (a0_2 : ByteArray) (A0_3 : Option Addr) (c0_3 : Nat) (l0_3 : List (S25)) (A0_4 : Option Addr) (c0_4 : Nat) (l0_4 : List ByteArray) (r : Bool) (w : World) (hr0_3 : Kd.C k25 w A0_3 l0_3.length l0_3) (hc0_3 : l0_3.length ≤ c0_3) (hr0_4 : Kd.C Kd.string w A0_4 l0_4.length l0_4) (hc0_4 : l0_4.length ≤ c0_4) (h : colophonref10_May.f k a0_0 a0_1 a0_2 l0_3 l0_4 = some r),
    Calls Tryd.prog 38 #[.agg #[.int .i64 a0_0, .bool a0_1, .string a0_2, .slice A0_3 l0_3.length c0_3, .slice A0_4 l0_4.length c0_4]] w fun e w' => e = .returned (.bool r) ∧ Below w.heap.size w w' := by
  induction k using Nat.strongRecOn with
  | _ k ih =>
  intro a0_0 a0_1 a0_2 A0_3 c0_3 l0_3 A0_4 c0_4 l0_4 r w hr0_3 hc0_3 hr0_4 hc0_4 h
  cases k with
  | zero => exact absurd h (by simp [colophonref10_May.f])
  | succ k =>
  simp only [colophonref10_May.f] at h
  have hu25 := Tryd.underlying25
  have HR0_3 := Aside0.mk hr0_3
  have HC0_3 := Aside0.mk hc0_3
  clear hr0_3 hc0_3
  have HR0_4 := Aside0.mk hr0_4
  have HC0_4 := Aside0.mk hc0_4
  clear hr0_4 hc0_4
  have HB := Aside0.mk (Below.refl w.heap.size w)
  have H : (if a0_0 < 0 then (colophonref10_May.j0 k true a0_0 a0_1 a0_2 l0_3 l0_4) else (if a0_0 > 5 then (colophonref10_May.j0 k true a0_0 a0_1 a0_2 l0_3 l0_4) else (if a0_1 = true then (if a0_0 = 1 then (if a0_2.toList = ([] : List UInt8) then (if (l0_3.length : Int) > 0 then (if a0_0 < 4 then (colophonref10_May.j0 k true a0_0 a0_1 a0_2 l0_3 l0_4) else (if (l0_4.length : Int) > 0 then (colophonref10_May.j0 k (a0_0 != 5) a0_0 a0_1 a0_2 l0_3 l0_4) else (colophonref10_May.j0 k false a0_0 a0_1 a0_2 l0_3 l0_4))) else (if (l0_4.length : Int) > 0 then (colophonref10_May.j0 k (a0_0 != 5) a0_0 a0_1 a0_2 l0_3 l0_4) else (colophonref10_May.j0 k false a0_0 a0_1 a0_2 l0_3 l0_4))) else (if a0_0 = 2 then (if (l0_3.length : Int) > 0 then (if a0_0 < 4 then (colophonref10_May.j0 k true a0_0 a0_1 a0_2 l0_3 l0_4) else (if (l0_4.length : Int) > 0 then (colophonref10_May.j0 k (a0_0 != 5) a0_0 a0_1 a0_2 l0_3 l0_4) else (colophonref10_May.j0 k false a0_0 a0_1 a0_2 l0_3 l0_4))) else (if (l0_4.length : Int) > 0 then (colophonref10_May.j0 k (a0_0 != 5) a0_0 a0_1 a0_2 l0_3 l0_4) else (colophonref10_May.j0 k false a0_0 a0_1 a0_2 l0_3 l0_4))) else (if a0_0 = 3 then (if (l0_3.length : Int) > 0 then (if a0_0 < 4 then (colophonref10_May.j0 k true a0_0 a0_1 a0_2 l0_3 l0_4) else (if (l0_4.length : Int) > 0 then (colophonref10_May.j0 k (a0_0 != 5) a0_0 a0_1 a0_2 l0_3 l0_4) else (colophonref10_May.j0 k false a0_0 a0_1 a0_2 l0_3 l0_4))) else (if (l0_4.length : Int) > 0 then (colophonref10_May.j0 k (a0_0 != 5) a0_0 a0_1 a0_2 l0_3 l0_4) else (colophonref10_May.j0 k false a0_0 a0_1 a0_2 l0_3 l0_4))) else (colophonref10_May.j0 k true a0_0 a0_1 a0_2 l0_3 l0_4)))) else (colophonref10_May.j0 k true a0_0 a0_1 a0_2 l0_3 l0_4)) else (if a0_2.toList = ([] : List UInt8) then (if (l0_3.length : Int) > 0 then (if a0_0 < 4 then (colophonref10_May.j0 k true a0_0 a0_1 a0_2 l0_3 l0_4) else (if (l0_4.length : Int) > 0 then (colophonref10_May.j0 k (a0_0 != 5) a0_0 a0_1 a0_2 l0_3 l0_4) else (colophonref10_May.j0 k false a0_0 a0_1 a0_2 l0_3 l0_4))) else (if (l0_4.length : Int) > 0 then (colophonref10_May.j0 k (a0_0 != 5) a0_0 a0_1 a0_2 l0_3 l0_4) else (colophonref10_May.j0 k false a0_0 a0_1 a0_2 l0_3 l0_4))) else (if a0_0 = 2 then (if (l0_3.length : Int) > 0 then (if a0_0 < 4 then (colophonref10_May.j0 k true a0_0 a0_1 a0_2 l0_3 l0_4) else (if (l0_4.length : Int) > 0 then (colophonref10_May.j0 k (a0_0 != 5) a0_0 a0_1 a0_2 l0_3 l0_4) else (colophonref10_May.j0 k false a0_0 a0_1 a0_2 l0_3 l0_4))) else (if (l0_4.length : Int) > 0 then (colophonref10_May.j0 k (a0_0 != 5) a0_0 a0_1 a0_2 l0_3 l0_4) else (colophonref10_May.j0 k false a0_0 a0_1 a0_2 l0_3 l0_4))) else (if a0_0 = 3 then (if (l0_3.length : Int) > 0 then (if a0_0 < 4 then (colophonref10_May.j0 k true a0_0 a0_1 a0_2 l0_3 l0_4) else (if (l0_4.length : Int) > 0 then (colophonref10_May.j0 k (a0_0 != 5) a0_0 a0_1 a0_2 l0_3 l0_4) else (colophonref10_May.j0 k false a0_0 a0_1 a0_2 l0_3 l0_4))) else (if (l0_4.length : Int) > 0 then (colophonref10_May.j0 k (a0_0 != 5) a0_0 a0_1 a0_2 l0_3 l0_4) else (colophonref10_May.j0 k false a0_0 a0_1 a0_2 l0_3 l0_4))) else (colophonref10_May.j0 k true a0_0 a0_1 a0_2 l0_3 l0_4))))))) = some r := h
  clear h
  have HC2 := Aside0.mk H
  clear H
  go_enter Tryd.func38, Tryd.ntmps38
  go_upto_region 1 with (first | ((with_reducible refine gate_dst (N := 1) rfl ?_); (try (refine gate_guard (by rfl) ?_; dsimp only)); refine box_event ?hg (N := 1) ?hd (cs := #[.int .i64 a0_0, .bool a0_1, .string a0_2, .slice A0_3 l0_3.length c0_3, .slice A0_4 l0_4.length c0_4]) (t := 25) ?hr ?_; (case hd => rfl); (case hg => rfl); (case hr => first | (go_simp; done) | (go_simp; rfl)); intro gb238 hg w3 hbox hb; have n0_ := Aside0.mk (below_step (by repeat (first | (with_reducible first | exact HB.out | apply below_alloc | apply pw_below_drewN | apply below_drew1) | exact HB.out)) hb); have n1_ := Aside0.mk (hbox); have n2_ := Aside0.mk ((by rw [hg]; exact (below_size (by repeat (first | (with_reducible first | exact HB.out | apply below_alloc | apply pw_below_drewN | apply below_drew1) | exact HB.out))) : w.heap.size ≤ gb238)); have n3_ := Aside0.mk ((by rw [hg]; exact (below_size (by repeat (first | (with_reducible first | exact HB.out | apply below_alloc | apply pw_below_drewN | apply below_drew1) | exact HB.out))) : w.heap.size ≤ gb238)); clear HB; have HB := n0_; have BK238 := n1_; have GW238 := n2_; have GE238 := n3_; clear n0_ n1_ n2_ n3_; clear hb hbox hg))
  (try simp only [Act.put, List.setIfInBounds_toArray, List.set_cons_zero, List.set_cons_succ])
  go_cut [57] (fun v57 wc => ∃ (kq : Nat) (x57_1 : Bool), v57 = .bool x57_1 ∧ Aside0 (colophonref10_May.j0 kq x57_1 a0_0 a0_1 a0_2 l0_3 l0_4 = some r) ∧ Aside0 (kq ≤ k) ∧ Aside0 (wc.heap[gb238]? = some (.cells #[.int .i64 a0_0, .bool a0_1, .string a0_2, (.slice A0_3 l0_3.length c0_3), (.slice A0_4 l0_4.length c0_4)] 25 (0, 0))) ∧ Aside0 (Below w.heap.size w wc))
  case first =>
    have H := HC2.out
    clear HC2
    by_cases c4 : a0_0 < 0
    · rw [if_pos c4] at H
      have c4b0 : decide (a0_0 < 0) = true := decide_eq_true c4
      clear c4
      (first | rw [c4b0] | (simp only [i64_w, i32_w]; rw [c4b0]) | skip)
      have H' := Aside0.mk H
      clear H
      have hcz5_0 : w3.cell? ⟨gb238, 0, none⟩ = some (.int .i64 a0_0) := (blk_cell BK238.out 0).trans rfl
      have hcz5_1 : w3.cell? ⟨gb238, 1, none⟩ = some (.bool a0_1) := (blk_cell BK238.out 1).trans rfl
      have hcz5_2 : w3.cell? ⟨gb238, 2, none⟩ = some (.string a0_2) := (blk_cell BK238.out 2).trans rfl
      have hcz5_3 : w3.cell? ⟨gb238, 3, none⟩ = some (.slice A0_3 l0_3.length c0_3) := (blk_cell BK238.out 3).trans rfl
      have hcz5_4 : w3.cell? ⟨gb238, 4, none⟩ = some (.slice A0_4 l0_4.length c0_4) := (blk_cell BK238.out 4).trans rfl
      have hfz5_0 := blk_frozen BK238.out 0
      have hfz5_1 := blk_frozen BK238.out 1
      have hfz5_2 := blk_frozen BK238.out 2
      have hfz5_3 := blk_frozen BK238.out 3
      have hfz5_4 := blk_frozen BK238.out 4
      go_wp2
      go_meet
      case rel => exact ⟨_, (true), (by first | rfl | (simp; done) | (simp [*]; done)), H', ⟨by first | omega | exact Nat.le_refl _⟩, ⟨by (with_reducible repeat (first | refine blk_drewN ?_ _ | refine blk_drew ?_ | refine blk_alloc ?_ _)); exact BK238.out⟩, ⟨by repeat (first | (with_reducible first | exact HB.out | apply below_alloc | apply pw_below_drewN | apply below_drew1 | refine below_set ?_ GE238.out) | exact HB.out)⟩⟩
    · rw [if_neg c4] at H
      have c4b0 : decide (a0_0 < 0) = false := decide_eq_false c4
      clear c4
      (first | rw [c4b0] | (simp only [i64_w, i32_w]; rw [c4b0]) | skip)
      by_cases c6 : a0_0 > 5
      · rw [if_pos c6] at H
        have c6b0 : decide (5 < a0_0) = true := decide_eq_true c6
        clear c6
        have H' := Aside0.mk H
        clear H
        have hcz7_0 : w3.cell? ⟨gb238, 0, none⟩ = some (.int .i64 a0_0) := (blk_cell BK238.out 0).trans rfl
        have hcz7_1 : w3.cell? ⟨gb238, 1, none⟩ = some (.bool a0_1) := (blk_cell BK238.out 1).trans rfl
        have hcz7_2 : w3.cell? ⟨gb238, 2, none⟩ = some (.string a0_2) := (blk_cell BK238.out 2).trans rfl
        have hcz7_3 : w3.cell? ⟨gb238, 3, none⟩ = some (.slice A0_3 l0_3.length c0_3) := (blk_cell BK238.out 3).trans rfl
        have hcz7_4 : w3.cell? ⟨gb238, 4, none⟩ = some (.slice A0_4 l0_4.length c0_4) := (blk_cell BK238.out 4).trans rfl
        have hfz7_0 := blk_frozen BK238.out 0
        have hfz7_1 := blk_frozen BK238.out 1
        have hfz7_2 := blk_frozen BK238.out 2
        have hfz7_3 := blk_frozen BK238.out 3
        have hfz7_4 := blk_frozen BK238.out 4
        go_wp2
        go_meet
        case rel => exact ⟨_, (true), (by first | rfl | (simp; done) | (simp [*]; done)), H', ⟨by first | omega | exact Nat.le_refl _⟩, ⟨by (with_reducible repeat (first | refine blk_drewN ?_ _ | refine blk_drew ?_ | refine blk_alloc ?_ _)); exact BK238.out⟩, ⟨by repeat (first | (with_reducible first | exact HB.out | apply below_alloc | apply pw_below_drewN | apply below_drew1 | refine below_set ?_ GE238.out) | exact HB.out)⟩⟩
      · rw [if_neg c6] at H
        have c6b0 : decide (5 < a0_0) = false := decide_eq_false c6
        clear c6
        by_cases c8 : a0_1 = true
        · subst c8
          have H1 : (if a0_0 = 1 then (if a0_2.toList = ([] : List UInt8) then (if (l0_3.length : Int) > 0 then (if a0_0 < 4 then (colophonref10_May.j0 k true a0_0 true a0_2 l0_3 l0_4) else (if (l0_4.length : Int) > 0 then (colophonref10_May.j0 k (a0_0 != 5) a0_0 true a0_2 l0_3 l0_4) else (colophonref10_May.j0 k false a0_0 true a0_2 l0_3 l0_4))) else (if (l0_4.length : Int) > 0 then (colophonref10_May.j0 k (a0_0 != 5) a0_0 true a0_2 l0_3 l0_4) else (colophonref10_May.j0 k false a0_0 true a0_2 l0_3 l0_4))) else (if a0_0 = 2 then (if (l0_3.length : Int) > 0 then (if a0_0 < 4 then (colophonref10_May.j0 k true a0_0 true a0_2 l0_3 l0_4) else (if (l0_4.length : Int) > 0 then (colophonref10_May.j0 k (a0_0 != 5) a0_0 true a0_2 l0_3 l0_4) else (colophonref10_May.j0 k false a0_0 true a0_2 l0_3 l0_4))) else (if (l0_4.length : Int) > 0 then (colophonref10_May.j0 k (a0_0 != 5) a0_0 true a0_2 l0_3 l0_4) else (colophonref10_May.j0 k false a0_0 true a0_2 l0_3 l0_4))) else (if a0_0 = 3 then (if (l0_3.length : Int) > 0 then (if a0_0 < 4 then (colophonref10_May.j0 k true a0_0 true a0_2 l0_3 l0_4) else (if (l0_4.length : Int) > 0 then (colophonref10_May.j0 k (a0_0 != 5) a0_0 true a0_2 l0_3 l0_4) else (colophonref10_May.j0 k false a0_0 true a0_2 l0_3 l0_4))) else (if (l0_4.length : Int) > 0 then (colophonref10_May.j0 k (a0_0 != 5) a0_0 true a0_2 l0_3 l0_4) else (colophonref10_May.j0 k false a0_0 true a0_2 l0_3 l0_4))) else (colophonref10_May.j0 k true a0_0 true a0_2 l0_3 l0_4)))) else (colophonref10_May.j0 k true a0_0 true a0_2 l0_3 l0_4)) = some r := by rw [if_pos rfl] at H; exact H
          clear H
          have H := H1
          clear H1
          by_cases c9 : a0_0 = 1
          · rw [if_pos c9] at H
            have c9b0 : (a0_0 == 1) = true := beq_iff_eq.mpr c9
            have c9b1 : (a0_0 != 1) = false := bne_eq_false_iff_eq.mpr c9
            clear c9
            by_cases c10 : a0_2.toList = ([] : List UInt8)
            · rw [if_pos c10] at H
              have c10b0 : (a0_2.toList == ([] : List UInt8)) = true := beq_iff_eq.mpr c10
              have c10b1 : (a0_2.toList != ([] : List UInt8)) = false := bne_eq_false_iff_eq.mpr c10
              clear c10
              by_cases c11 : (l0_3.length : Int) > 0
              · rw [if_pos c11] at H
                have c11b0 : decide (0 < (l0_3.length : Int)) = true := decide_eq_true c11
                have c11b1 : decide (0 < l0_3.length) = true := decide_eq_true (by omega)
                clear c11
                by_cases c12 : a0_0 < 4
                · rw [if_pos c12] at H
                  have c12b0 : decide (a0_0 < 4) = true := decide_eq_true c12
                  clear c12
                  have H' := Aside0.mk H
                  clear H
                  have hcz13_0 : w3.cell? ⟨gb238, 0, none⟩ = some (.int .i64 a0_0) := (blk_cell BK238.out 0).trans rfl
                  have hcz13_1 : w3.cell? ⟨gb238, 1, none⟩ = some (.bool true) := (blk_cell BK238.out 1).trans rfl
                  have hcz13_2 : w3.cell? ⟨gb238, 2, none⟩ = some (.string a0_2) := (blk_cell BK238.out 2).trans rfl
                  have hcz13_3 : w3.cell? ⟨gb238, 3, none⟩ = some (.slice A0_3 l0_3.length c0_3) := (blk_cell BK238.out 3).trans rfl
                  have hcz13_4 : w3.cell? ⟨gb238, 4, none⟩ = some (.slice A0_4 l0_4.length c0_4) := (blk_cell BK238.out 4).trans rfl
                  have hfz13_0 := blk_frozen BK238.out 0
                  have hfz13_1 := blk_frozen BK238.out 1
                  have hfz13_2 := blk_frozen BK238.out 2
                  have hfz13_3 := blk_frozen BK238.out 3
                  have hfz13_4 := blk_frozen BK238.out 4
                  go_wp2
                  go_meet
                  case rel => exact ⟨_, (true), (by first | rfl | (simp; done) | (simp [*]; done)), H', ⟨by first | omega | exact Nat.le_refl _⟩, ⟨by (with_reducible repeat (first | refine blk_drewN ?_ _ | refine blk_drew ?_ | refine blk_alloc ?_ _)); exact BK238.out⟩, ⟨by repeat (first | (with_reducible first | exact HB.out | apply below_alloc | apply pw_below_drewN | apply below_drew1 | refine below_set ?_ GE238.out) | exact HB.out)⟩⟩
                · rw [if_neg c12] at H
                  have c12b0 : decide (a0_0 < 4) = false := decide_eq_false c12
                  clear c12
                  by_cases c14 : (l0_4.length : Int) > 0
                  · rw [if_pos c14] at H
                    have c14b0 : decide (0 < (l0_4.length : Int)) = true := decide_eq_true c14
                    have c14b1 : decide (0 < l0_4.length) = true := decide_eq_true (by omega)
                    clear c14
                    have H' := Aside0.mk H
                    clear H
                    have hcz15_0 : w3.cell? ⟨gb238, 0, none⟩ = some (.int .i64 a0_0) := (blk_cell BK238.out 0).trans rfl
                    have hcz15_1 : w3.cell? ⟨gb238, 1, none⟩ = some (.bool true) := (blk_cell BK238.out 1).trans rfl
                    have hcz15_2 : w3.cell? ⟨gb238, 2, none⟩ = some (.string a0_2) := (blk_cell BK238.out 2).trans rfl
                    have hcz15_3 : w3.cell? ⟨gb238, 3, none⟩ = some (.slice A0_3 l0_3.length c0_3) := (blk_cell BK238.out 3).trans rfl
                    have hcz15_4 : w3.cell? ⟨gb238, 4, none⟩ = some (.slice A0_4 l0_4.length c0_4) := (blk_cell BK238.out 4).trans rfl
                    have hfz15_0 := blk_frozen BK238.out 0
                    have hfz15_1 := blk_frozen BK238.out 1
                    have hfz15_2 := blk_frozen BK238.out 2
                    have hfz15_3 := blk_frozen BK238.out 3
                    have hfz15_4 := blk_frozen BK238.out 4
                    go_wp2
                    go_meet
                    case rel => exact ⟨_, ((a0_0 != 5)), (by first | rfl | (simp; done) | (simp [*]; done)), H', ⟨by first | omega | exact Nat.le_refl _⟩, ⟨by (with_reducible repeat (first | refine blk_drewN ?_ _ | refine blk_drew ?_ | refine blk_alloc ?_ _)); exact BK238.out⟩, ⟨by repeat (first | (with_reducible first | exact HB.out | apply below_alloc | apply pw_below_drewN | apply below_drew1 | refine below_set ?_ GE238.out) | exact HB.out)⟩⟩
                  · rw [if_neg c14] at H
                    have c14b0 : decide (0 < (l0_4.length : Int)) = false := decide_eq_false c14
                    have c14b1 : decide (0 < l0_4.length) = false := decide_eq_false (by omega)
                    clear c14
                    have H' := Aside0.mk H
                    clear H
                    have hcz16_0 : w3.cell? ⟨gb238, 0, none⟩ = some (.int .i64 a0_0) := (blk_cell BK238.out 0).trans rfl
                    have hcz16_1 : w3.cell? ⟨gb238, 1, none⟩ = some (.bool true) := (blk_cell BK238.out 1).trans rfl
                    have hcz16_2 : w3.cell? ⟨gb238, 2, none⟩ = some (.string a0_2) := (blk_cell BK238.out 2).trans rfl
                    have hcz16_3 : w3.cell? ⟨gb238, 3, none⟩ = some (.slice A0_3 l0_3.length c0_3) := (blk_cell BK238.out 3).trans rfl
                    have hcz16_4 : w3.cell? ⟨gb238, 4, none⟩ = some (.slice A0_4 l0_4.length c0_4) := (blk_cell BK238.out 4).trans rfl
                    have hfz16_0 := blk_frozen BK238.out 0
                    have hfz16_1 := blk_frozen BK238.out 1
                    have hfz16_2 := blk_frozen BK238.out 2
                    have hfz16_3 := blk_frozen BK238.out 3
                    have hfz16_4 := blk_frozen BK238.out 4
                    go_wp2
                    go_meet
                    case rel => exact ⟨_, (false), (by first | rfl | (simp; done) | (simp [*]; done)), H', ⟨by first | omega | exact Nat.le_refl _⟩, ⟨by (with_reducible repeat (first | refine blk_drewN ?_ _ | refine blk_drew ?_ | refine blk_alloc ?_ _)); exact BK238.out⟩, ⟨by repeat (first | (with_reducible first | exact HB.out | apply below_alloc | apply pw_below_drewN | apply below_drew1 | refine below_set ?_ GE238.out) | exact HB.out)⟩⟩
              · rw [if_neg c11] at H
                have c11b0 : decide (0 < (l0_3.length : Int)) = false := decide_eq_false c11
                have c11b1 : decide (0 < l0_3.length) = false := decide_eq_false (by omega)
                clear c11
                by_cases c17 : (l0_4.length : Int) > 0
                · rw [if_pos c17] at H
                  have c17b0 : decide (0 < (l0_4.length : Int)) = true := decide_eq_true c17
                  have c17b1 : decide (0 < l0_4.length) = true := decide_eq_true (by omega)
                  clear c17
                  have H' := Aside0.mk H
                  clear H
                  have hcz18_0 : w3.cell? ⟨gb238, 0, none⟩ = some (.int .i64 a0_0) := (blk_cell BK238.out 0).trans rfl
                  have hcz18_1 : w3.cell? ⟨gb238, 1, none⟩ = some (.bool true) := (blk_cell BK238.out 1).trans rfl
                  have hcz18_2 : w3.cell? ⟨gb238, 2, none⟩ = some (.string a0_2) := (blk_cell BK238.out 2).trans rfl
                  have hcz18_3 : w3.cell? ⟨gb238, 3, none⟩ = some (.slice A0_3 l0_3.length c0_3) := (blk_cell BK238.out 3).trans rfl
                  have hcz18_4 : w3.cell? ⟨gb238, 4, none⟩ = some (.slice A0_4 l0_4.length c0_4) := (blk_cell BK238.out 4).trans rfl
                  have hfz18_0 := blk_frozen BK238.out 0
                  have hfz18_1 := blk_frozen BK238.out 1
                  have hfz18_2 := blk_frozen BK238.out 2
                  have hfz18_3 := blk_frozen BK238.out 3
                  have hfz18_4 := blk_frozen BK238.out 4
                  go_wp2
                  go_meet
                  case rel => exact ⟨_, ((a0_0 != 5)), (by first | rfl | (simp; done) | (simp [*]; done)), H', ⟨by first | omega | exact Nat.le_refl _⟩, ⟨by (with_reducible repeat (first | refine blk_drewN ?_ _ | refine blk_drew ?_ | refine blk_alloc ?_ _)); exact BK238.out⟩, ⟨by repeat (first | (with_reducible first | exact HB.out | apply below_alloc | apply pw_below_drewN | apply below_drew1 | refine below_set ?_ GE238.out) | exact HB.out)⟩⟩
                · rw [if_neg c17] at H
                  have c17b0 : decide (0 < (l0_4.length : Int)) = false := decide_eq_false c17
                  have c17b1 : decide (0 < l0_4.length) = false := decide_eq_false (by omega)
                  clear c17
                  have H' := Aside0.mk H
                  clear H
                  have hcz19_0 : w3.cell? ⟨gb238, 0, none⟩ = some (.int .i64 a0_0) := (blk_cell BK238.out 0).trans rfl
                  have hcz19_1 : w3.cell? ⟨gb238, 1, none⟩ = some (.bool true) := (blk_cell BK238.out 1).trans rfl
                  have hcz19_2 : w3.cell? ⟨gb238, 2, none⟩ = some (.string a0_2) := (blk_cell BK238.out 2).trans rfl
                  have hcz19_3 : w3.cell? ⟨gb238, 3, none⟩ = some (.slice A0_3 l0_3.length c0_3) := (blk_cell BK238.out 3).trans rfl
                  have hcz19_4 : w3.cell? ⟨gb238, 4, none⟩ = some (.slice A0_4 l0_4.length c0_4) := (blk_cell BK238.out 4).trans rfl
                  have hfz19_0 := blk_frozen BK238.out 0
                  have hfz19_1 := blk_frozen BK238.out 1
                  have hfz19_2 := blk_frozen BK238.out 2
                  have hfz19_3 := blk_frozen BK238.out 3
                  have hfz19_4 := blk_frozen BK238.out 4
                  go_wp2
                  go_meet
                  case rel => exact ⟨_, (false), (by first | rfl | (simp; done) | (simp [*]; done)), H', ⟨by first | omega | exact Nat.le_refl _⟩, ⟨by (with_reducible repeat (first | refine blk_drewN ?_ _ | refine blk_drew ?_ | refine blk_alloc ?_ _)); exact BK238.out⟩, ⟨by repeat (first | (with_reducible first | exact HB.out | apply below_alloc | apply pw_below_drewN | apply below_drew1 | refine below_set ?_ GE238.out) | exact HB.out)⟩⟩
            · rw [if_neg c10] at H
              have c10b0 : (a0_2.toList == ([] : List UInt8)) = false := beq_eq_false_iff_ne.mpr c10
              have c10b1 : (a0_2.toList != ([] : List UInt8)) = true := bne_iff_ne.mpr c10
              by_cases c20 : a0_0 = 2
              · rw [if_pos c20] at H
                have c20b0 : (a0_0 == 2) = true := beq_iff_eq.mpr c20
                have c20b1 : (a0_0 != 2) = false := bne_eq_false_iff_eq.mpr c20
                clear c20
                by_cases c21 : (l0_3.length : Int) > 0
                · rw [if_pos c21] at H
                  have c21b0 : decide (0 < (l0_3.length : Int)) = true := decide_eq_true c21
                  have c21b1 : decide (0 < l0_3.length) = true := decide_eq_true (by omega)
                  clear c21
                  by_cases c22 : a0_0 < 4
                  · rw [if_pos c22] at H
                    have c22b0 : decide (a0_0 < 4) = true := decide_eq_true c22
                    clear c22
                    have H' := Aside0.mk H
                    clear H
                    have hcz23_0 : w3.cell? ⟨gb238, 0, none⟩ = some (.int .i64 a0_0) := (blk_cell BK238.out 0).trans rfl
                    have hcz23_1 : w3.cell? ⟨gb238, 1, none⟩ = some (.bool true) := (blk_cell BK238.out 1).trans rfl
                    have hcz23_2 : w3.cell? ⟨gb238, 2, none⟩ = some (.string a0_2) := (blk_cell BK238.out 2).trans rfl
                    have hcz23_3 : w3.cell? ⟨gb238, 3, none⟩ = some (.slice A0_3 l0_3.length c0_3) := (blk_cell BK238.out 3).trans rfl
                    have hcz23_4 : w3.cell? ⟨gb238, 4, none⟩ = some (.slice A0_4 l0_4.length c0_4) := (blk_cell BK238.out 4).trans rfl
                    have hfz23_0 := blk_frozen BK238.out 0
                    have hfz23_1 := blk_frozen BK238.out 1
                    have hfz23_2 := blk_frozen BK238.out 2
                    have hfz23_3 := blk_frozen BK238.out 3
                    have hfz23_4 := blk_frozen BK238.out 4
                    go_wp2
                    go_meet
                    case rel => exact ⟨_, (true), (by first | rfl | (simp; done) | (simp [*]; done)), H', ⟨by first | omega | exact Nat.le_refl _⟩, ⟨by (with_reducible repeat (first | refine blk_drewN ?_ _ | refine blk_drew ?_ | refine blk_alloc ?_ _)); exact BK238.out⟩, ⟨by repeat (first | (with_reducible first | exact HB.out | apply below_alloc | apply pw_below_drewN | apply below_drew1 | refine below_set ?_ GE238.out) | exact HB.out)⟩⟩
                  · rw [if_neg c22] at H
                    have c22b0 : decide (a0_0 < 4) = false := decide_eq_false c22
                    clear c22
                    by_cases c24 : (l0_4.length : Int) > 0
                    · rw [if_pos c24] at H
                      have c24b0 : decide (0 < (l0_4.length : Int)) = true := decide_eq_true c24
                      have c24b1 : decide (0 < l0_4.length) = true := decide_eq_true (by omega)
                      clear c24
                      have H' := Aside0.mk H
                      clear H
                      have hcz25_0 : w3.cell? ⟨gb238, 0, none⟩ = some (.int .i64 a0_0) := (blk_cell BK238.out 0).trans rfl
                      have hcz25_1 : w3.cell? ⟨gb238, 1, none⟩ = some (.bool true) := (blk_cell BK238.out 1).trans rfl
                      have hcz25_2 : w3.cell? ⟨gb238, 2, none⟩ = some (.string a0_2) := (blk_cell BK238.out 2).trans rfl
                      have hcz25_3 : w3.cell? ⟨gb238, 3, none⟩ = some (.slice A0_3 l0_3.length c0_3) := (blk_cell BK238.out 3).trans rfl
                      have hcz25_4 : w3.cell? ⟨gb238, 4, none⟩ = some (.slice A0_4 l0_4.length c0_4) := (blk_cell BK238.out 4).trans rfl
                      have hfz25_0 := blk_frozen BK238.out 0
                      have hfz25_1 := blk_frozen BK238.out 1
                      have hfz25_2 := blk_frozen BK238.out 2
                      have hfz25_3 := blk_frozen BK238.out 3
                      have hfz25_4 := blk_frozen BK238.out 4
                      go_wp2
                      go_meet
                      case rel => exact ⟨_, ((a0_0 != 5)), (by first | rfl | (simp; done) | (simp [*]; done)), H', ⟨by first | omega | exact Nat.le_refl _⟩, ⟨by (with_reducible repeat (first | refine blk_drewN ?_ _ | refine blk_drew ?_ | refine blk_alloc ?_ _)); exact BK238.out⟩, ⟨by repeat (first | (with_reducible first | exact HB.out | apply below_alloc | apply pw_below_drewN | apply below_drew1 | refine below_set ?_ GE238.out) | exact HB.out)⟩⟩
                    · rw [if_neg c24] at H
                      have c24b0 : decide (0 < (l0_4.length : Int)) = false := decide_eq_false c24
                      have c24b1 : decide (0 < l0_4.length) = false := decide_eq_false (by omega)
                      clear c24
                      have H' := Aside0.mk H
                      clear H
                      have hcz26_0 : w3.cell? ⟨gb238, 0, none⟩ = some (.int .i64 a0_0) := (blk_cell BK238.out 0).trans rfl
                      have hcz26_1 : w3.cell? ⟨gb238, 1, none⟩ = some (.bool true) := (blk_cell BK238.out 1).trans rfl
                      have hcz26_2 : w3.cell? ⟨gb238, 2, none⟩ = some (.string a0_2) := (blk_cell BK238.out 2).trans rfl
                      have hcz26_3 : w3.cell? ⟨gb238, 3, none⟩ = some (.slice A0_3 l0_3.length c0_3) := (blk_cell BK238.out 3).trans rfl
                      have hcz26_4 : w3.cell? ⟨gb238, 4, none⟩ = some (.slice A0_4 l0_4.length c0_4) := (blk_cell BK238.out 4).trans rfl
                      have hfz26_0 := blk_frozen BK238.out 0
                      have hfz26_1 := blk_frozen BK238.out 1
                      have hfz26_2 := blk_frozen BK238.out 2
                      have hfz26_3 := blk_frozen BK238.out 3
                      have hfz26_4 := blk_frozen BK238.out 4
                      go_wp2
                      go_meet
                      case rel => exact ⟨_, (false), (by first | rfl | (simp; done) | (simp [*]; done)), H', ⟨by first | omega | exact Nat.le_refl _⟩, ⟨by (with_reducible repeat (first | refine blk_drewN ?_ _ | refine blk_drew ?_ | refine blk_alloc ?_ _)); exact BK238.out⟩, ⟨by repeat (first | (with_reducible first | exact HB.out | apply below_alloc | apply pw_below_drewN | apply below_drew1 | refine below_set ?_ GE238.out) | exact HB.out)⟩⟩
                · rw [if_neg c21] at H
                  have c21b0 : decide (0 < (l0_3.length : Int)) = false := decide_eq_false c21
                  have c21b1 : decide (0 < l0_3.length) = false := decide_eq_false (by omega)
                  clear c21
                  by_cases c27 : (l0_4.length : Int) > 0
                  · rw [if_pos c27] at H
                    have c27b0 : decide (0 < (l0_4.length : Int)) = true := decide_eq_true c27
                    have c27b1 : decide (0 < l0_4.length) = true := decide_eq_true (by omega)
                    clear c27
                    have H' := Aside0.mk H
                    clear H
                    have hcz28_0 : w3.cell? ⟨gb238, 0, none⟩ = some (.int .i64 a0_0) := (blk_cell BK238.out 0).trans rfl
                    have hcz28_1 : w3.cell? ⟨gb238, 1, none⟩ = some (.bool true) := (blk_cell BK238.out 1).trans rfl
                    have hcz28_2 : w3.cell? ⟨gb238, 2, none⟩ = some (.string a0_2) := (blk_cell BK238.out 2).trans rfl
                    have hcz28_3 : w3.cell? ⟨gb238, 3, none⟩ = some (.slice A0_3 l0_3.length c0_3) := (blk_cell BK238.out 3).trans rfl
                    have hcz28_4 : w3.cell? ⟨gb238, 4, none⟩ = some (.slice A0_4 l0_4.length c0_4) := (blk_cell BK238.out 4).trans rfl
                    have hfz28_0 := blk_frozen BK238.out 0
                    have hfz28_1 := blk_frozen BK238.out 1
                    have hfz28_2 := blk_frozen BK238.out 2
                    have hfz28_3 := blk_frozen BK238.out 3
                    have hfz28_4 := blk_frozen BK238.out 4
                    go_wp2
                    go_meet
                    case rel => exact ⟨_, ((a0_0 != 5)), (by first | rfl | (simp; done) | (simp [*]; done)), H', ⟨by first | omega | exact Nat.le_refl _⟩, ⟨by (with_reducible repeat (first | refine blk_drewN ?_ _ | refine blk_drew ?_ | refine blk_alloc ?_ _)); exact BK238.out⟩, ⟨by repeat (first | (with_reducible first | exact HB.out | apply below_alloc | apply pw_below_drewN | apply below_drew1 | refine below_set ?_ GE238.out) | exact HB.out)⟩⟩
                  · rw [if_neg c27] at H
                    have c27b0 : decide (0 < (l0_4.length : Int)) = false := decide_eq_false c27
                    have c27b1 : decide (0 < l0_4.length) = false := decide_eq_false (by omega)
                    clear c27
                    have H' := Aside0.mk H
                    clear H
                    have hcz29_0 : w3.cell? ⟨gb238, 0, none⟩ = some (.int .i64 a0_0) := (blk_cell BK238.out 0).trans rfl
                    have hcz29_1 : w3.cell? ⟨gb238, 1, none⟩ = some (.bool true) := (blk_cell BK238.out 1).trans rfl
                    have hcz29_2 : w3.cell? ⟨gb238, 2, none⟩ = some (.string a0_2) := (blk_cell BK238.out 2).trans rfl
                    have hcz29_3 : w3.cell? ⟨gb238, 3, none⟩ = some (.slice A0_3 l0_3.length c0_3) := (blk_cell BK238.out 3).trans rfl
                    have hcz29_4 : w3.cell? ⟨gb238, 4, none⟩ = some (.slice A0_4 l0_4.length c0_4) := (blk_cell BK238.out 4).trans rfl
                    have hfz29_0 := blk_frozen BK238.out 0
                    have hfz29_1 := blk_frozen BK238.out 1
                    have hfz29_2 := blk_frozen BK238.out 2
                    have hfz29_3 := blk_frozen BK238.out 3
                    have hfz29_4 := blk_frozen BK238.out 4
                    go_wp2
                    go_meet
                    case rel => exact ⟨_, (false), (by first | rfl | (simp; done) | (simp [*]; done)), H', ⟨by first | omega | exact Nat.le_refl _⟩, ⟨by (with_reducible repeat (first | refine blk_drewN ?_ _ | refine blk_drew ?_ | refine blk_alloc ?_ _)); exact BK238.out⟩, ⟨by repeat (first | (with_reducible first | exact HB.out | apply below_alloc | apply pw_below_drewN | apply below_drew1 | refine below_set ?_ GE238.out) | exact HB.out)⟩⟩
              · rw [if_neg c20] at H
                have c20b0 : (a0_0 == 2) = false := beq_eq_false_iff_ne.mpr c20
                have c20b1 : (a0_0 != 2) = true := bne_iff_ne.mpr c20
                by_cases c30 : a0_0 = 3
                · rw [if_pos c30] at H
                  have c30b0 : (a0_0 == 3) = true := beq_iff_eq.mpr c30
                  have c30b1 : (a0_0 != 3) = false := bne_eq_false_iff_eq.mpr c30
                  clear c30
                  by_cases c31 : (l0_3.length : Int) > 0
                  · rw [if_pos c31] at H
                    have c31b0 : decide (0 < (l0_3.length : Int)) = true := decide_eq_true c31
                    have c31b1 : decide (0 < l0_3.length) = true := decide_eq_true (by omega)
                    clear c31
                    by_cases c32 : a0_0 < 4
                    · rw [if_pos c32] at H
                      have c32b0 : decide (a0_0 < 4) = true := decide_eq_true c32
                      clear c32
                      have H' := Aside0.mk H
                      clear H
                      have hcz33_0 : w3.cell? ⟨gb238, 0, none⟩ = some (.int .i64 a0_0) := (blk_cell BK238.out 0).trans rfl
                      have hcz33_1 : w3.cell? ⟨gb238, 1, none⟩ = some (.bool true) := (blk_cell BK238.out 1).trans rfl
                      have hcz33_2 : w3.cell? ⟨gb238, 2, none⟩ = some (.string a0_2) := (blk_cell BK238.out 2).trans rfl
                      have hcz33_3 : w3.cell? ⟨gb238, 3, none⟩ = some (.slice A0_3 l0_3.length c0_3) := (blk_cell BK238.out 3).trans rfl
                      have hcz33_4 : w3.cell? ⟨gb238, 4, none⟩ = some (.slice A0_4 l0_4.length c0_4) := (blk_cell BK238.out 4).trans rfl
                      have hfz33_0 := blk_frozen BK238.out 0
                      have hfz33_1 := blk_frozen BK238.out 1
                      have hfz33_2 := blk_frozen BK238.out 2
                      have hfz33_3 := blk_frozen BK238.out 3
                      have hfz33_4 := blk_frozen BK238.out 4
                      go_wp2
                      go_meet
                      case rel => exact ⟨_, (true), (by first | rfl | (simp; done) | (simp [*]; done)), H', ⟨by first | omega | exact Nat.le_refl _⟩, ⟨by (with_reducible repeat (first | refine blk_drewN ?_ _ | refine blk_drew ?_ | refine blk_alloc ?_ _)); exact BK238.out⟩, ⟨by repeat (first | (with_reducible first | exact HB.out | apply below_alloc | apply pw_below_drewN | apply below_drew1 | refine below_set ?_ GE238.out) | exact HB.out)⟩⟩
                    · rw [if_neg c32] at H
                      have c32b0 : decide (a0_0 < 4) = false := decide_eq_false c32
                      clear c32
                      by_cases c34 : (l0_4.length : Int) > 0
                      · rw [if_pos c34] at H
                        have c34b0 : decide (0 < (l0_4.length : Int)) = true := decide_eq_true c34
                        have c34b1 : decide (0 < l0_4.length) = true := decide_eq_true (by omega)
                        clear c34
                        have H' := Aside0.mk H
                        clear H
                        have hcz35_0 : w3.cell? ⟨gb238, 0, none⟩ = some (.int .i64 a0_0) := (blk_cell BK238.out 0).trans rfl
                        have hcz35_1 : w3.cell? ⟨gb238, 1, none⟩ = some (.bool true) := (blk_cell BK238.out 1).trans rfl
                        have hcz35_2 : w3.cell? ⟨gb238, 2, none⟩ = some (.string a0_2) := (blk_cell BK238.out 2).trans rfl
                        have hcz35_3 : w3.cell? ⟨gb238, 3, none⟩ = some (.slice A0_3 l0_3.length c0_3) := (blk_cell BK238.out 3).trans rfl
                        have hcz35_4 : w3.cell? ⟨gb238, 4, none⟩ = some (.slice A0_4 l0_4.length c0_4) := (blk_cell BK238.out 4).trans rfl
                        have hfz35_0 := blk_frozen BK238.out 0
                        have hfz35_1 := blk_frozen BK238.out 1
                        have hfz35_2 := blk_frozen BK238.out 2
                        have hfz35_3 := blk_frozen BK238.out 3
                        have hfz35_4 := blk_frozen BK238.out 4
                        go_wp2
                        go_meet
                        case rel => exact ⟨_, ((a0_0 != 5)), (by first | rfl | (simp; done) | (simp [*]; done)), H', ⟨by first | omega | exact Nat.le_refl _⟩, ⟨by (with_reducible repeat (first | refine blk_drewN ?_ _ | refine blk_drew ?_ | refine blk_alloc ?_ _)); exact BK238.out⟩, ⟨by repeat (first | (with_reducible first | exact HB.out | apply below_alloc | apply pw_below_drewN | apply below_drew1 | refine below_set ?_ GE238.out) | exact HB.out)⟩⟩
                      · rw [if_neg c34] at H
                        have c34b0 : decide (0 < (l0_4.length : Int)) = false := decide_eq_false c34
                        have c34b1 : decide (0 < l0_4.length) = false := decide_eq_false (by omega)
                        clear c34
                        have H' := Aside0.mk H
                        clear H
                        have hcz36_0 : w3.cell? ⟨gb238, 0, none⟩ = some (.int .i64 a0_0) := (blk_cell BK238.out 0).trans rfl
                        have hcz36_1 : w3.cell? ⟨gb238, 1, none⟩ = some (.bool true) := (blk_cell BK238.out 1).trans rfl
                        have hcz36_2 : w3.cell? ⟨gb238, 2, none⟩ = some (.string a0_2) := (blk_cell BK238.out 2).trans rfl
                        have hcz36_3 : w3.cell? ⟨gb238, 3, none⟩ = some (.slice A0_3 l0_3.length c0_3) := (blk_cell BK238.out 3).trans rfl
                        have hcz36_4 : w3.cell? ⟨gb238, 4, none⟩ = some (.slice A0_4 l0_4.length c0_4) := (blk_cell BK238.out 4).trans rfl
                        have hfz36_0 := blk_frozen BK238.out 0
                        have hfz36_1 := blk_frozen BK238.out 1
                        have hfz36_2 := blk_frozen BK238.out 2
                        have hfz36_3 := blk_frozen BK238.out 3
                        have hfz36_4 := blk_frozen BK238.out 4
                        go_wp2
                        go_meet
                        case rel => exact ⟨_, (false), (by first | rfl | (simp; done) | (simp [*]; done)), H', ⟨by first | omega | exact Nat.le_refl _⟩, ⟨by (with_reducible repeat (first | refine blk_drewN ?_ _ | refine blk_drew ?_ | refine blk_alloc ?_ _)); exact BK238.out⟩, ⟨by repeat (first | (with_reducible first | exact HB.out | apply below_alloc | apply pw_below_drewN | apply below_drew1 | refine below_set ?_ GE238.out) | exact HB.out)⟩⟩
                  · rw [if_neg c31] at H
                    have c31b0 : decide (0 < (l0_3.length : Int)) = false := decide_eq_false c31
                    have c31b1 : decide (0 < l0_3.length) = false := decide_eq_false (by omega)
                    clear c31
                    by_cases c37 : (l0_4.length : Int) > 0
                    · rw [if_pos c37] at H
                      have c37b0 : decide (0 < (l0_4.length : Int)) = true := decide_eq_true c37
                      have c37b1 : decide (0 < l0_4.length) = true := decide_eq_true (by omega)
                      clear c37
                      have H' := Aside0.mk H
                      clear H
                      have hcz38_0 : w3.cell? ⟨gb238, 0, none⟩ = some (.int .i64 a0_0) := (blk_cell BK238.out 0).trans rfl
                      have hcz38_1 : w3.cell? ⟨gb238, 1, none⟩ = some (.bool true) := (blk_cell BK238.out 1).trans rfl
                      have hcz38_2 : w3.cell? ⟨gb238, 2, none⟩ = some (.string a0_2) := (blk_cell BK238.out 2).trans rfl
                      have hcz38_3 : w3.cell? ⟨gb238, 3, none⟩ = some (.slice A0_3 l0_3.length c0_3) := (blk_cell BK238.out 3).trans rfl
                      have hcz38_4 : w3.cell? ⟨gb238, 4, none⟩ = some (.slice A0_4 l0_4.length c0_4) := (blk_cell BK238.out 4).trans rfl
                      have hfz38_0 := blk_frozen BK238.out 0
                      have hfz38_1 := blk_frozen BK238.out 1
                      have hfz38_2 := blk_frozen BK238.out 2
                      have hfz38_3 := blk_frozen BK238.out 3
                      have hfz38_4 := blk_frozen BK238.out 4
                      go_wp2
                      go_meet
                      case rel => exact ⟨_, ((a0_0 != 5)), (by first | rfl | (simp; done) | (simp [*]; done)), H', ⟨by first | omega | exact Nat.le_refl _⟩, ⟨by (with_reducible repeat (first | refine blk_drewN ?_ _ | refine blk_drew ?_ | refine blk_alloc ?_ _)); exact BK238.out⟩, ⟨by repeat (first | (with_reducible first | exact HB.out | apply below_alloc | apply pw_below_drewN | apply below_drew1 | refine below_set ?_ GE238.out) | exact HB.out)⟩⟩
                    · rw [if_neg c37] at H
                      have c37b0 : decide (0 < (l0_4.length : Int)) = false := decide_eq_false c37
                      have c37b1 : decide (0 < l0_4.length) = false := decide_eq_false (by omega)
                      clear c37
                      have H' := Aside0.mk H
                      clear H
                      have hcz39_0 : w3.cell? ⟨gb238, 0, none⟩ = some (.int .i64 a0_0) := (blk_cell BK238.out 0).trans rfl
                      have hcz39_1 : w3.cell? ⟨gb238, 1, none⟩ = some (.bool true) := (blk_cell BK238.out 1).trans rfl
                      have hcz39_2 : w3.cell? ⟨gb238, 2, none⟩ = some (.string a0_2) := (blk_cell BK238.out 2).trans rfl
                      have hcz39_3 : w3.cell? ⟨gb238, 3, none⟩ = some (.slice A0_3 l0_3.length c0_3) := (blk_cell BK238.out 3).trans rfl
                      have hcz39_4 : w3.cell? ⟨gb238, 4, none⟩ = some (.slice A0_4 l0_4.length c0_4) := (blk_cell BK238.out 4).trans rfl
                      have hfz39_0 := blk_frozen BK238.out 0
                      have hfz39_1 := blk_frozen BK238.out 1
                      have hfz39_2 := blk_frozen BK238.out 2
                      have hfz39_3 := blk_frozen BK238.out 3
                      have hfz39_4 := blk_frozen BK238.out 4
                      go_wp2
                      go_meet
                      case rel => exact ⟨_, (false), (by first | rfl | (simp; done) | (simp [*]; done)), H', ⟨by first | omega | exact Nat.le_refl _⟩, ⟨by (with_reducible repeat (first | refine blk_drewN ?_ _ | refine blk_drew ?_ | refine blk_alloc ?_ _)); exact BK238.out⟩, ⟨by repeat (first | (with_reducible first | exact HB.out | apply below_alloc | apply pw_below_drewN | apply below_drew1 | refine below_set ?_ GE238.out) | exact HB.out)⟩⟩
                · rw [if_neg c30] at H
                  have c30b0 : (a0_0 == 3) = false := beq_eq_false_iff_ne.mpr c30
                  have c30b1 : (a0_0 != 3) = true := bne_iff_ne.mpr c30
                  have H' := Aside0.mk H
                  clear H
                  have hcz40_0 : w3.cell? ⟨gb238, 0, none⟩ = some (.int .i64 a0_0) := (blk_cell BK238.out 0).trans rfl
                  have hcz40_1 : w3.cell? ⟨gb238, 1, none⟩ = some (.bool true) := (blk_cell BK238.out 1).trans rfl
                  have hcz40_2 : w3.cell? ⟨gb238, 2, none⟩ = some (.string a0_2) := (blk_cell BK238.out 2).trans rfl
                  have hcz40_3 : w3.cell? ⟨gb238, 3, none⟩ = some (.slice A0_3 l0_3.length c0_3) := (blk_cell BK238.out 3).trans rfl
                  have hcz40_4 : w3.cell? ⟨gb238, 4, none⟩ = some (.slice A0_4 l0_4.length c0_4) := (blk_cell BK238.out 4).trans rfl
                  have hfz40_0 := blk_frozen BK238.out 0
                  have hfz40_1 := blk_frozen BK238.out 1
                  have hfz40_2 := blk_frozen BK238.out 2
                  have hfz40_3 := blk_frozen BK238.out 3
                  have hfz40_4 := blk_frozen BK238.out 4
                  go_wp2
                  go_meet
                  case rel => exact ⟨_, (true), (by first | rfl | (simp; done) | (simp [*]; done)), H', ⟨by first | omega | exact Nat.le_refl _⟩, ⟨by (with_reducible repeat (first | refine blk_drewN ?_ _ | refine blk_drew ?_ | refine blk_alloc ?_ _)); exact BK238.out⟩, ⟨by repeat (first | (with_reducible first | exact HB.out | apply below_alloc | apply pw_below_drewN | apply below_drew1 | refine below_set ?_ GE238.out) | exact HB.out)⟩⟩
          · rw [if_neg c9] at H
            have c9b0 : (a0_0 == 1) = false := beq_eq_false_iff_ne.mpr c9
            have c9b1 : (a0_0 != 1) = true := bne_iff_ne.mpr c9
            have H' := Aside0.mk H
            clear H
            have hcz41_0 : w3.cell? ⟨gb238, 0, none⟩ = some (.int .i64 a0_0) := (blk_cell BK238.out 0).trans rfl
            have hcz41_1 : w3.cell? ⟨gb238, 1, none⟩ = some (.bool true) := (blk_cell BK238.out 1).trans rfl
            have hcz41_2 : w3.cell? ⟨gb238, 2, none⟩ = some (.string a0_2) := (blk_cell BK238.out 2).trans rfl
            have hcz41_3 : w3.cell? ⟨gb238, 3, none⟩ = some (.slice A0_3 l0_3.length c0_3) := (blk_cell BK238.out 3).trans rfl
            have hcz41_4 : w3.cell? ⟨gb238, 4, none⟩ = some (.slice A0_4 l0_4.length c0_4) := (blk_cell BK238.out 4).trans rfl
            have hfz41_0 := blk_frozen BK238.out 0
            have hfz41_1 := blk_frozen BK238.out 1
            have hfz41_2 := blk_frozen BK238.out 2
            have hfz41_3 := blk_frozen BK238.out 3
            have hfz41_4 := blk_frozen BK238.out 4
            go_wp2
            go_meet
            case rel => exact ⟨_, (true), (by first | rfl | (simp; done) | (simp [*]; done)), H', ⟨by first | omega | exact Nat.le_refl _⟩, ⟨by (with_reducible repeat (first | refine blk_drewN ?_ _ | refine blk_drew ?_ | refine blk_alloc ?_ _)); exact BK238.out⟩, ⟨by repeat (first | (with_reducible first | exact HB.out | apply below_alloc | apply pw_below_drewN | apply below_drew1 | refine below_set ?_ GE238.out) | exact HB.out)⟩⟩
        · replace c8 := Bool.eq_false_iff.mpr c8
          subst c8
          have H1 : (if a0_2.toList = ([] : List UInt8) then (if (l0_3.length : Int) > 0 then (if a0_0 < 4 then (colophonref10_May.j0 k true a0_0 false a0_2 l0_3 l0_4) else (if (l0_4.length : Int) > 0 then (colophonref10_May.j0 k (a0_0 != 5) a0_0 false a0_2 l0_3 l0_4) else (colophonref10_May.j0 k false a0_0 false a0_2 l0_3 l0_4))) else (if (l0_4.length : Int) > 0 then (colophonref10_May.j0 k (a0_0 != 5) a0_0 false a0_2 l0_3 l0_4) else (colophonref10_May.j0 k false a0_0 false a0_2 l0_3 l0_4))) else (if a0_0 = 2 then (if (l0_3.length : Int) > 0 then (if a0_0 < 4 then (colophonref10_May.j0 k true a0_0 false a0_2 l0_3 l0_4) else (if (l0_4.length : Int) > 0 then (colophonref10_May.j0 k (a0_0 != 5) a0_0 false a0_2 l0_3 l0_4) else (colophonref10_May.j0 k false a0_0 false a0_2 l0_3 l0_4))) else (if (l0_4.length : Int) > 0 then (colophonref10_May.j0 k (a0_0 != 5) a0_0 false a0_2 l0_3 l0_4) else (colophonref10_May.j0 k false a0_0 false a0_2 l0_3 l0_4))) else (if a0_0 = 3 then (if (l0_3.length : Int) > 0 then (if a0_0 < 4 then (colophonref10_May.j0 k true a0_0 false a0_2 l0_3 l0_4) else (if (l0_4.length : Int) > 0 then (colophonref10_May.j0 k (a0_0 != 5) a0_0 false a0_2 l0_3 l0_4) else (colophonref10_May.j0 k false a0_0 false a0_2 l0_3 l0_4))) else (if (l0_4.length : Int) > 0 then (colophonref10_May.j0 k (a0_0 != 5) a0_0 false a0_2 l0_3 l0_4) else (colophonref10_May.j0 k false a0_0 false a0_2 l0_3 l0_4))) else (colophonref10_May.j0 k true a0_0 false a0_2 l0_3 l0_4)))) = some r := by rw [if_neg (show ¬ (false = true) by decide)] at H; exact H
          clear H
          have H := H1
          clear H1
          by_cases c42 : a0_2.toList = ([] : List UInt8)
          · rw [if_pos c42] at H
            have c42b0 : (a0_2.toList == ([] : List UInt8)) = true := beq_iff_eq.mpr c42
            have c42b1 : (a0_2.toList != ([] : List UInt8)) = false := bne_eq_false_iff_eq.mpr c42
            clear c42
            by_cases c43 : (l0_3.length : Int) > 0
            · rw [if_pos c43] at H
              have c43b0 : decide (0 < (l0_3.length : Int)) = true := decide_eq_true c43
              have c43b1 : decide (0 < l0_3.length) = true := decide_eq_true (by omega)
              clear c43
              by_cases c44 : a0_0 < 4
              · rw [if_pos c44] at H
                have c44b0 : decide (a0_0 < 4) = true := decide_eq_true c44
                clear c44
                have H' := Aside0.mk H
                clear H
                have hcz45_0 : w3.cell? ⟨gb238, 0, none⟩ = some (.int .i64 a0_0) := (blk_cell BK238.out 0).trans rfl
                have hcz45_1 : w3.cell? ⟨gb238, 1, none⟩ = some (.bool false) := (blk_cell BK238.out 1).trans rfl
                have hcz45_2 : w3.cell? ⟨gb238, 2, none⟩ = some (.string a0_2) := (blk_cell BK238.out 2).trans rfl
                have hcz45_3 : w3.cell? ⟨gb238, 3, none⟩ = some (.slice A0_3 l0_3.length c0_3) := (blk_cell BK238.out 3).trans rfl
                have hcz45_4 : w3.cell? ⟨gb238, 4, none⟩ = some (.slice A0_4 l0_4.length c0_4) := (blk_cell BK238.out 4).trans rfl
                have hfz45_0 := blk_frozen BK238.out 0
                have hfz45_1 := blk_frozen BK238.out 1
                have hfz45_2 := blk_frozen BK238.out 2
                have hfz45_3 := blk_frozen BK238.out 3
                have hfz45_4 := blk_frozen BK238.out 4
                go_wp2
                go_meet
                case rel => exact ⟨_, (true), (by first | rfl | (simp; done) | (simp [*]; done)), H', ⟨by first | omega | exact Nat.le_refl _⟩, ⟨by (with_reducible repeat (first | refine blk_drewN ?_ _ | refine blk_drew ?_ | refine blk_alloc ?_ _)); exact BK238.out⟩, ⟨by repeat (first | (with_reducible first | exact HB.out | apply below_alloc | apply pw_below_drewN | apply below_drew1 | refine below_set ?_ GE238.out) | exact HB.out)⟩⟩
              · rw [if_neg c44] at H
                have c44b0 : decide (a0_0 < 4) = false := decide_eq_false c44
                clear c44
                by_cases c46 : (l0_4.length : Int) > 0
                · rw [if_pos c46] at H
                  have c46b0 : decide (0 < (l0_4.length : Int)) = true := decide_eq_true c46
                  have c46b1 : decide (0 < l0_4.length) = true := decide_eq_true (by omega)
                  clear c46
                  have H' := Aside0.mk H
                  clear H
                  have hcz47_0 : w3.cell? ⟨gb238, 0, none⟩ = some (.int .i64 a0_0) := (blk_cell BK238.out 0).trans rfl
                  have hcz47_1 : w3.cell? ⟨gb238, 1, none⟩ = some (.bool false) := (blk_cell BK238.out 1).trans rfl
                  have hcz47_2 : w3.cell? ⟨gb238, 2, none⟩ = some (.string a0_2) := (blk_cell BK238.out 2).trans rfl
                  have hcz47_3 : w3.cell? ⟨gb238, 3, none⟩ = some (.slice A0_3 l0_3.length c0_3) := (blk_cell BK238.out 3).trans rfl
                  have hcz47_4 : w3.cell? ⟨gb238, 4, none⟩ = some (.slice A0_4 l0_4.length c0_4) := (blk_cell BK238.out 4).trans rfl
                  have hfz47_0 := blk_frozen BK238.out 0
                  have hfz47_1 := blk_frozen BK238.out 1
                  have hfz47_2 := blk_frozen BK238.out 2
                  have hfz47_3 := blk_frozen BK238.out 3
                  have hfz47_4 := blk_frozen BK238.out 4
                  go_wp2
                  go_meet
                  case rel => exact ⟨_, ((a0_0 != 5)), (by first | rfl | (simp; done) | (simp [*]; done)), H', ⟨by first | omega | exact Nat.le_refl _⟩, ⟨by (with_reducible repeat (first | refine blk_drewN ?_ _ | refine blk_drew ?_ | refine blk_alloc ?_ _)); exact BK238.out⟩, ⟨by repeat (first | (with_reducible first | exact HB.out | apply below_alloc | apply pw_below_drewN | apply below_drew1 | refine below_set ?_ GE238.out) | exact HB.out)⟩⟩
                · rw [if_neg c46] at H
                  have c46b0 : decide (0 < (l0_4.length : Int)) = false := decide_eq_false c46
                  have c46b1 : decide (0 < l0_4.length) = false := decide_eq_false (by omega)
                  clear c46
                  have H' := Aside0.mk H
                  clear H
                  have hcz48_0 : w3.cell? ⟨gb238, 0, none⟩ = some (.int .i64 a0_0) := (blk_cell BK238.out 0).trans rfl
                  have hcz48_1 : w3.cell? ⟨gb238, 1, none⟩ = some (.bool false) := (blk_cell BK238.out 1).trans rfl
                  have hcz48_2 : w3.cell? ⟨gb238, 2, none⟩ = some (.string a0_2) := (blk_cell BK238.out 2).trans rfl
                  have hcz48_3 : w3.cell? ⟨gb238, 3, none⟩ = some (.slice A0_3 l0_3.length c0_3) := (blk_cell BK238.out 3).trans rfl
                  have hcz48_4 : w3.cell? ⟨gb238, 4, none⟩ = some (.slice A0_4 l0_4.length c0_4) := (blk_cell BK238.out 4).trans rfl
                  have hfz48_0 := blk_frozen BK238.out 0
                  have hfz48_1 := blk_frozen BK238.out 1
                  have hfz48_2 := blk_frozen BK238.out 2
                  have hfz48_3 := blk_frozen BK238.out 3
                  have hfz48_4 := blk_frozen BK238.out 4
                  go_wp2
                  go_meet
                  case rel => exact ⟨_, (false), (by first | rfl | (simp; done) | (simp [*]; done)), H', ⟨by first | omega | exact Nat.le_refl _⟩, ⟨by (with_reducible repeat (first | refine blk_drewN ?_ _ | refine blk_drew ?_ | refine blk_alloc ?_ _)); exact BK238.out⟩, ⟨by repeat (first | (with_reducible first | exact HB.out | apply below_alloc | apply pw_below_drewN | apply below_drew1 | refine below_set ?_ GE238.out) | exact HB.out)⟩⟩
            · rw [if_neg c43] at H
              have c43b0 : decide (0 < (l0_3.length : Int)) = false := decide_eq_false c43
              have c43b1 : decide (0 < l0_3.length) = false := decide_eq_false (by omega)
              clear c43
              by_cases c49 : (l0_4.length : Int) > 0
              · rw [if_pos c49] at H
                have c49b0 : decide (0 < (l0_4.length : Int)) = true := decide_eq_true c49
                have c49b1 : decide (0 < l0_4.length) = true := decide_eq_true (by omega)
                clear c49
                have H' := Aside0.mk H
                clear H
                have hcz50_0 : w3.cell? ⟨gb238, 0, none⟩ = some (.int .i64 a0_0) := (blk_cell BK238.out 0).trans rfl
                have hcz50_1 : w3.cell? ⟨gb238, 1, none⟩ = some (.bool false) := (blk_cell BK238.out 1).trans rfl
                have hcz50_2 : w3.cell? ⟨gb238, 2, none⟩ = some (.string a0_2) := (blk_cell BK238.out 2).trans rfl
                have hcz50_3 : w3.cell? ⟨gb238, 3, none⟩ = some (.slice A0_3 l0_3.length c0_3) := (blk_cell BK238.out 3).trans rfl
                have hcz50_4 : w3.cell? ⟨gb238, 4, none⟩ = some (.slice A0_4 l0_4.length c0_4) := (blk_cell BK238.out 4).trans rfl
                have hfz50_0 := blk_frozen BK238.out 0
                have hfz50_1 := blk_frozen BK238.out 1
                have hfz50_2 := blk_frozen BK238.out 2
                have hfz50_3 := blk_frozen BK238.out 3
                have hfz50_4 := blk_frozen BK238.out 4
                go_wp2
                go_meet
                case rel => exact ⟨_, ((a0_0 != 5)), (by first | rfl | (simp; done) | (simp [*]; done)), H', ⟨by first | omega | exact Nat.le_refl _⟩, ⟨by (with_reducible repeat (first | refine blk_drewN ?_ _ | refine blk_drew ?_ | refine blk_alloc ?_ _)); exact BK238.out⟩, ⟨by repeat (first | (with_reducible first | exact HB.out | apply below_alloc | apply pw_below_drewN | apply below_drew1 | refine below_set ?_ GE238.out) | exact HB.out)⟩⟩
              · rw [if_neg c49] at H
                have c49b0 : decide (0 < (l0_4.length : Int)) = false := decide_eq_false c49
                have c49b1 : decide (0 < l0_4.length) = false := decide_eq_false (by omega)
                clear c49
                have H' := Aside0.mk H
                clear H
                have hcz51_0 : w3.cell? ⟨gb238, 0, none⟩ = some (.int .i64 a0_0) := (blk_cell BK238.out 0).trans rfl
                have hcz51_1 : w3.cell? ⟨gb238, 1, none⟩ = some (.bool false) := (blk_cell BK238.out 1).trans rfl
                have hcz51_2 : w3.cell? ⟨gb238, 2, none⟩ = some (.string a0_2) := (blk_cell BK238.out 2).trans rfl
                have hcz51_3 : w3.cell? ⟨gb238, 3, none⟩ = some (.slice A0_3 l0_3.length c0_3) := (blk_cell BK238.out 3).trans rfl
                have hcz51_4 : w3.cell? ⟨gb238, 4, none⟩ = some (.slice A0_4 l0_4.length c0_4) := (blk_cell BK238.out 4).trans rfl
                have hfz51_0 := blk_frozen BK238.out 0
                have hfz51_1 := blk_frozen BK238.out 1
                have hfz51_2 := blk_frozen BK238.out 2
                have hfz51_3 := blk_frozen BK238.out 3
                have hfz51_4 := blk_frozen BK238.out 4
                go_wp2
                go_meet
                case rel => exact ⟨_, (false), (by first | rfl | (simp; done) | (simp [*]; done)), H', ⟨by first | omega | exact Nat.le_refl _⟩, ⟨by (with_reducible repeat (first | refine blk_drewN ?_ _ | refine blk_drew ?_ | refine blk_alloc ?_ _)); exact BK238.out⟩, ⟨by repeat (first | (with_reducible first | exact HB.out | apply below_alloc | apply pw_below_drewN | apply below_drew1 | refine below_set ?_ GE238.out) | exact HB.out)⟩⟩
          · rw [if_neg c42] at H
            have c42b0 : (a0_2.toList == ([] : List UInt8)) = false := beq_eq_false_iff_ne.mpr c42
            have c42b1 : (a0_2.toList != ([] : List UInt8)) = true := bne_iff_ne.mpr c42
            by_cases c52 : a0_0 = 2
            · rw [if_pos c52] at H
              have c52b0 : (a0_0 == 2) = true := beq_iff_eq.mpr c52
              have c52b1 : (a0_0 != 2) = false := bne_eq_false_iff_eq.mpr c52
              clear c52
              by_cases c53 : (l0_3.length : Int) > 0
              · rw [if_pos c53] at H
                have c53b0 : decide (0 < (l0_3.length : Int)) = true := decide_eq_true c53
                have c53b1 : decide (0 < l0_3.length) = true := decide_eq_true (by omega)
                clear c53
                by_cases c54 : a0_0 < 4
                · rw [if_pos c54] at H
                  have c54b0 : decide (a0_0 < 4) = true := decide_eq_true c54
                  clear c54
                  have H' := Aside0.mk H
                  clear H
                  have hcz55_0 : w3.cell? ⟨gb238, 0, none⟩ = some (.int .i64 a0_0) := (blk_cell BK238.out 0).trans rfl
                  have hcz55_1 : w3.cell? ⟨gb238, 1, none⟩ = some (.bool false) := (blk_cell BK238.out 1).trans rfl
                  have hcz55_2 : w3.cell? ⟨gb238, 2, none⟩ = some (.string a0_2) := (blk_cell BK238.out 2).trans rfl
                  have hcz55_3 : w3.cell? ⟨gb238, 3, none⟩ = some (.slice A0_3 l0_3.length c0_3) := (blk_cell BK238.out 3).trans rfl
                  have hcz55_4 : w3.cell? ⟨gb238, 4, none⟩ = some (.slice A0_4 l0_4.length c0_4) := (blk_cell BK238.out 4).trans rfl
                  have hfz55_0 := blk_frozen BK238.out 0
                  have hfz55_1 := blk_frozen BK238.out 1
                  have hfz55_2 := blk_frozen BK238.out 2
                  have hfz55_3 := blk_frozen BK238.out 3
                  have hfz55_4 := blk_frozen BK238.out 4
                  go_wp2
                  go_meet
                  case rel => exact ⟨_, (true), (by first | rfl | (simp; done) | (simp [*]; done)), H', ⟨by first | omega | exact Nat.le_refl _⟩, ⟨by (with_reducible repeat (first | refine blk_drewN ?_ _ | refine blk_drew ?_ | refine blk_alloc ?_ _)); exact BK238.out⟩, ⟨by repeat (first | (with_reducible first | exact HB.out | apply below_alloc | apply pw_below_drewN | apply below_drew1 | refine below_set ?_ GE238.out) | exact HB.out)⟩⟩
                · rw [if_neg c54] at H
                  have c54b0 : decide (a0_0 < 4) = false := decide_eq_false c54
                  clear c54
                  by_cases c56 : (l0_4.length : Int) > 0
                  · rw [if_pos c56] at H
                    have c56b0 : decide (0 < (l0_4.length : Int)) = true := decide_eq_true c56
                    have c56b1 : decide (0 < l0_4.length) = true := decide_eq_true (by omega)
                    clear c56
                    have H' := Aside0.mk H
                    clear H
                    have hcz57_0 : w3.cell? ⟨gb238, 0, none⟩ = some (.int .i64 a0_0) := (blk_cell BK238.out 0).trans rfl
                    have hcz57_1 : w3.cell? ⟨gb238, 1, none⟩ = some (.bool false) := (blk_cell BK238.out 1).trans rfl
                    have hcz57_2 : w3.cell? ⟨gb238, 2, none⟩ = some (.string a0_2) := (blk_cell BK238.out 2).trans rfl
                    have hcz57_3 : w3.cell? ⟨gb238, 3, none⟩ = some (.slice A0_3 l0_3.length c0_3) := (blk_cell BK238.out 3).trans rfl
                    have hcz57_4 : w3.cell? ⟨gb238, 4, none⟩ = some (.slice A0_4 l0_4.length c0_4) := (blk_cell BK238.out 4).trans rfl
                    have hfz57_0 := blk_frozen BK238.out 0
                    have hfz57_1 := blk_frozen BK238.out 1
                    have hfz57_2 := blk_frozen BK238.out 2
                    have hfz57_3 := blk_frozen BK238.out 3
                    have hfz57_4 := blk_frozen BK238.out 4
                    go_wp2
                    go_meet
                    case rel => exact ⟨_, ((a0_0 != 5)), (by first | rfl | (simp; done) | (simp [*]; done)), H', ⟨by first | omega | exact Nat.le_refl _⟩, ⟨by (with_reducible repeat (first | refine blk_drewN ?_ _ | refine blk_drew ?_ | refine blk_alloc ?_ _)); exact BK238.out⟩, ⟨by repeat (first | (with_reducible first | exact HB.out | apply below_alloc | apply pw_below_drewN | apply below_drew1 | refine below_set ?_ GE238.out) | exact HB.out)⟩⟩
                  · rw [if_neg c56] at H
                    have c56b0 : decide (0 < (l0_4.length : Int)) = false := decide_eq_false c56
                    have c56b1 : decide (0 < l0_4.length) = false := decide_eq_false (by omega)
                    clear c56
                    have H' := Aside0.mk H
                    clear H
                    have hcz58_0 : w3.cell? ⟨gb238, 0, none⟩ = some (.int .i64 a0_0) := (blk_cell BK238.out 0).trans rfl
                    have hcz58_1 : w3.cell? ⟨gb238, 1, none⟩ = some (.bool false) := (blk_cell BK238.out 1).trans rfl
                    have hcz58_2 : w3.cell? ⟨gb238, 2, none⟩ = some (.string a0_2) := (blk_cell BK238.out 2).trans rfl
                    have hcz58_3 : w3.cell? ⟨gb238, 3, none⟩ = some (.slice A0_3 l0_3.length c0_3) := (blk_cell BK238.out 3).trans rfl
                    have hcz58_4 : w3.cell? ⟨gb238, 4, none⟩ = some (.slice A0_4 l0_4.length c0_4) := (blk_cell BK238.out 4).trans rfl
                    have hfz58_0 := blk_frozen BK238.out 0
                    have hfz58_1 := blk_frozen BK238.out 1
                    have hfz58_2 := blk_frozen BK238.out 2
                    have hfz58_3 := blk_frozen BK238.out 3
                    have hfz58_4 := blk_frozen BK238.out 4
                    go_wp2
                    go_meet
                    case rel => exact ⟨_, (false), (by first | rfl | (simp; done) | (simp [*]; done)), H', ⟨by first | omega | exact Nat.le_refl _⟩, ⟨by (with_reducible repeat (first | refine blk_drewN ?_ _ | refine blk_drew ?_ | refine blk_alloc ?_ _)); exact BK238.out⟩, ⟨by repeat (first | (with_reducible first | exact HB.out | apply below_alloc | apply pw_below_drewN | apply below_drew1 | refine below_set ?_ GE238.out) | exact HB.out)⟩⟩
              · rw [if_neg c53] at H
                have c53b0 : decide (0 < (l0_3.length : Int)) = false := decide_eq_false c53
                have c53b1 : decide (0 < l0_3.length) = false := decide_eq_false (by omega)
                clear c53
                by_cases c59 : (l0_4.length : Int) > 0
                · rw [if_pos c59] at H
                  have c59b0 : decide (0 < (l0_4.length : Int)) = true := decide_eq_true c59
                  have c59b1 : decide (0 < l0_4.length) = true := decide_eq_true (by omega)
                  clear c59
                  have H' := Aside0.mk H
                  clear H
                  have hcz60_0 : w3.cell? ⟨gb238, 0, none⟩ = some (.int .i64 a0_0) := (blk_cell BK238.out 0).trans rfl
                  have hcz60_1 : w3.cell? ⟨gb238, 1, none⟩ = some (.bool false) := (blk_cell BK238.out 1).trans rfl
                  have hcz60_2 : w3.cell? ⟨gb238, 2, none⟩ = some (.string a0_2) := (blk_cell BK238.out 2).trans rfl
                  have hcz60_3 : w3.cell? ⟨gb238, 3, none⟩ = some (.slice A0_3 l0_3.length c0_3) := (blk_cell BK238.out 3).trans rfl
                  have hcz60_4 : w3.cell? ⟨gb238, 4, none⟩ = some (.slice A0_4 l0_4.length c0_4) := (blk_cell BK238.out 4).trans rfl
                  have hfz60_0 := blk_frozen BK238.out 0
                  have hfz60_1 := blk_frozen BK238.out 1
                  have hfz60_2 := blk_frozen BK238.out 2
                  have hfz60_3 := blk_frozen BK238.out 3
                  have hfz60_4 := blk_frozen BK238.out 4
                  go_wp2
                  go_meet
                  case rel => exact ⟨_, ((a0_0 != 5)), (by first | rfl | (simp; done) | (simp [*]; done)), H', ⟨by first | omega | exact Nat.le_refl _⟩, ⟨by (with_reducible repeat (first | refine blk_drewN ?_ _ | refine blk_drew ?_ | refine blk_alloc ?_ _)); exact BK238.out⟩, ⟨by repeat (first | (with_reducible first | exact HB.out | apply below_alloc | apply pw_below_drewN | apply below_drew1 | refine below_set ?_ GE238.out) | exact HB.out)⟩⟩
                · rw [if_neg c59] at H
                  have c59b0 : decide (0 < (l0_4.length : Int)) = false := decide_eq_false c59
                  have c59b1 : decide (0 < l0_4.length) = false := decide_eq_false (by omega)
                  clear c59
                  have H' := Aside0.mk H
                  clear H
                  have hcz61_0 : w3.cell? ⟨gb238, 0, none⟩ = some (.int .i64 a0_0) := (blk_cell BK238.out 0).trans rfl
                  have hcz61_1 : w3.cell? ⟨gb238, 1, none⟩ = some (.bool false) := (blk_cell BK238.out 1).trans rfl
                  have hcz61_2 : w3.cell? ⟨gb238, 2, none⟩ = some (.string a0_2) := (blk_cell BK238.out 2).trans rfl
                  have hcz61_3 : w3.cell? ⟨gb238, 3, none⟩ = some (.slice A0_3 l0_3.length c0_3) := (blk_cell BK238.out 3).trans rfl
                  have hcz61_4 : w3.cell? ⟨gb238, 4, none⟩ = some (.slice A0_4 l0_4.length c0_4) := (blk_cell BK238.out 4).trans rfl
                  have hfz61_0 := blk_frozen BK238.out 0
                  have hfz61_1 := blk_frozen BK238.out 1
                  have hfz61_2 := blk_frozen BK238.out 2
                  have hfz61_3 := blk_frozen BK238.out 3
                  have hfz61_4 := blk_frozen BK238.out 4
                  go_wp2
                  go_meet
                  case rel => exact ⟨_, (false), (by first | rfl | (simp; done) | (simp [*]; done)), H', ⟨by first | omega | exact Nat.le_refl _⟩, ⟨by (with_reducible repeat (first | refine blk_drewN ?_ _ | refine blk_drew ?_ | refine blk_alloc ?_ _)); exact BK238.out⟩, ⟨by repeat (first | (with_reducible first | exact HB.out | apply below_alloc | apply pw_below_drewN | apply below_drew1 | refine below_set ?_ GE238.out) | exact HB.out)⟩⟩
            · rw [if_neg c52] at H
              have c52b0 : (a0_0 == 2) = false := beq_eq_false_iff_ne.mpr c52
              have c52b1 : (a0_0 != 2) = true := bne_iff_ne.mpr c52
              by_cases c62 : a0_0 = 3
              · rw [if_pos c62] at H
                have c62b0 : (a0_0 == 3) = true := beq_iff_eq.mpr c62
                have c62b1 : (a0_0 != 3) = false := bne_eq_false_iff_eq.mpr c62
                clear c62
                by_cases c63 : (l0_3.length : Int) > 0
                · rw [if_pos c63] at H
                  have c63b0 : decide (0 < (l0_3.length : Int)) = true := decide_eq_true c63
                  have c63b1 : decide (0 < l0_3.length) = true := decide_eq_true (by omega)
                  clear c63
                  by_cases c64 : a0_0 < 4
                  · rw [if_pos c64] at H
                    have c64b0 : decide (a0_0 < 4) = true := decide_eq_true c64
                    clear c64
                    have H' := Aside0.mk H
                    clear H
                    have hcz65_0 : w3.cell? ⟨gb238, 0, none⟩ = some (.int .i64 a0_0) := (blk_cell BK238.out 0).trans rfl
                    have hcz65_1 : w3.cell? ⟨gb238, 1, none⟩ = some (.bool false) := (blk_cell BK238.out 1).trans rfl
                    have hcz65_2 : w3.cell? ⟨gb238, 2, none⟩ = some (.string a0_2) := (blk_cell BK238.out 2).trans rfl
                    have hcz65_3 : w3.cell? ⟨gb238, 3, none⟩ = some (.slice A0_3 l0_3.length c0_3) := (blk_cell BK238.out 3).trans rfl
                    have hcz65_4 : w3.cell? ⟨gb238, 4, none⟩ = some (.slice A0_4 l0_4.length c0_4) := (blk_cell BK238.out 4).trans rfl
                    have hfz65_0 := blk_frozen BK238.out 0
                    have hfz65_1 := blk_frozen BK238.out 1
                    have hfz65_2 := blk_frozen BK238.out 2
                    have hfz65_3 := blk_frozen BK238.out 3
                    have hfz65_4 := blk_frozen BK238.out 4
                    go_wp2
                    go_meet
                    case rel => exact ⟨_, (true), (by first | rfl | (simp; done) | (simp [*]; done)), H', ⟨by first | omega | exact Nat.le_refl _⟩, ⟨by (with_reducible repeat (first | refine blk_drewN ?_ _ | refine blk_drew ?_ | refine blk_alloc ?_ _)); exact BK238.out⟩, ⟨by repeat (first | (with_reducible first | exact HB.out | apply below_alloc | apply pw_below_drewN | apply below_drew1 | refine below_set ?_ GE238.out) | exact HB.out)⟩⟩
                  · rw [if_neg c64] at H
                    have c64b0 : decide (a0_0 < 4) = false := decide_eq_false c64
                    clear c64
                    by_cases c66 : (l0_4.length : Int) > 0
                    · rw [if_pos c66] at H
                      have c66b0 : decide (0 < (l0_4.length : Int)) = true := decide_eq_true c66
                      have c66b1 : decide (0 < l0_4.length) = true := decide_eq_true (by omega)
                      clear c66
                      have H' := Aside0.mk H
                      clear H
                      have hcz67_0 : w3.cell? ⟨gb238, 0, none⟩ = some (.int .i64 a0_0) := (blk_cell BK238.out 0).trans rfl
                      have hcz67_1 : w3.cell? ⟨gb238, 1, none⟩ = some (.bool false) := (blk_cell BK238.out 1).trans rfl
                      have hcz67_2 : w3.cell? ⟨gb238, 2, none⟩ = some (.string a0_2) := (blk_cell BK238.out 2).trans rfl
                      have hcz67_3 : w3.cell? ⟨gb238, 3, none⟩ = some (.slice A0_3 l0_3.length c0_3) := (blk_cell BK238.out 3).trans rfl
                      have hcz67_4 : w3.cell? ⟨gb238, 4, none⟩ = some (.slice A0_4 l0_4.length c0_4) := (blk_cell BK238.out 4).trans rfl
                      have hfz67_0 := blk_frozen BK238.out 0
                      have hfz67_1 := blk_frozen BK238.out 1
                      have hfz67_2 := blk_frozen BK238.out 2
                      have hfz67_3 := blk_frozen BK238.out 3
                      have hfz67_4 := blk_frozen BK238.out 4
                      go_wp2
                      go_meet
                      case rel => exact ⟨_, ((a0_0 != 5)), (by first | rfl | (simp; done) | (simp [*]; done)), H', ⟨by first | omega | exact Nat.le_refl _⟩, ⟨by (with_reducible repeat (first | refine blk_drewN ?_ _ | refine blk_drew ?_ | refine blk_alloc ?_ _)); exact BK238.out⟩, ⟨by repeat (first | (with_reducible first | exact HB.out | apply below_alloc | apply pw_below_drewN | apply below_drew1 | refine below_set ?_ GE238.out) | exact HB.out)⟩⟩
                    · rw [if_neg c66] at H
                      have c66b0 : decide (0 < (l0_4.length : Int)) = false := decide_eq_false c66
                      have c66b1 : decide (0 < l0_4.length) = false := decide_eq_false (by omega)
                      clear c66
                      have H' := Aside0.mk H
                      clear H
                      have hcz68_0 : w3.cell? ⟨gb238, 0, none⟩ = some (.int .i64 a0_0) := (blk_cell BK238.out 0).trans rfl
                      have hcz68_1 : w3.cell? ⟨gb238, 1, none⟩ = some (.bool false) := (blk_cell BK238.out 1).trans rfl
                      have hcz68_2 : w3.cell? ⟨gb238, 2, none⟩ = some (.string a0_2) := (blk_cell BK238.out 2).trans rfl
                      have hcz68_3 : w3.cell? ⟨gb238, 3, none⟩ = some (.slice A0_3 l0_3.length c0_3) := (blk_cell BK238.out 3).trans rfl
                      have hcz68_4 : w3.cell? ⟨gb238, 4, none⟩ = some (.slice A0_4 l0_4.length c0_4) := (blk_cell BK238.out 4).trans rfl
                      have hfz68_0 := blk_frozen BK238.out 0
                      have hfz68_1 := blk_frozen BK238.out 1
                      have hfz68_2 := blk_frozen BK238.out 2
                      have hfz68_3 := blk_frozen BK238.out 3
                      have hfz68_4 := blk_frozen BK238.out 4
                      go_wp2
                      go_meet
                      case rel => exact ⟨_, (false), (by first | rfl | (simp; done) | (simp [*]; done)), H', ⟨by first | omega | exact Nat.le_refl _⟩, ⟨by (with_reducible repeat (first | refine blk_drewN ?_ _ | refine blk_drew ?_ | refine blk_alloc ?_ _)); exact BK238.out⟩, ⟨by repeat (first | (with_reducible first | exact HB.out | apply below_alloc | apply pw_below_drewN | apply below_drew1 | refine below_set ?_ GE238.out) | exact HB.out)⟩⟩
                · rw [if_neg c63] at H
                  have c63b0 : decide (0 < (l0_3.length : Int)) = false := decide_eq_false c63
                  have c63b1 : decide (0 < l0_3.length) = false := decide_eq_false (by omega)
                  clear c63
                  by_cases c69 : (l0_4.length : Int) > 0
                  · rw [if_pos c69] at H
                    have c69b0 : decide (0 < (l0_4.length : Int)) = true := decide_eq_true c69
                    have c69b1 : decide (0 < l0_4.length) = true := decide_eq_true (by omega)
                    clear c69
                    have H' := Aside0.mk H
                    clear H
                    have hcz70_0 : w3.cell? ⟨gb238, 0, none⟩ = some (.int .i64 a0_0) := (blk_cell BK238.out 0).trans rfl
                    have hcz70_1 : w3.cell? ⟨gb238, 1, none⟩ = some (.bool false) := (blk_cell BK238.out 1).trans rfl
                    have hcz70_2 : w3.cell? ⟨gb238, 2, none⟩ = some (.string a0_2) := (blk_cell BK238.out 2).trans rfl
                    have hcz70_3 : w3.cell? ⟨gb238, 3, none⟩ = some (.slice A0_3 l0_3.length c0_3) := (blk_cell BK238.out 3).trans rfl
                    have hcz70_4 : w3.cell? ⟨gb238, 4, none⟩ = some (.slice A0_4 l0_4.length c0_4) := (blk_cell BK238.out 4).trans rfl
                    have hfz70_0 := blk_frozen BK238.out 0
                    have hfz70_1 := blk_frozen BK238.out 1
                    have hfz70_2 := blk_frozen BK238.out 2
                    have hfz70_3 := blk_frozen BK238.out 3
                    have hfz70_4 := blk_frozen BK238.out 4
                    go_wp2
                    go_meet
                    case rel => exact ⟨_, ((a0_0 != 5)), (by first | rfl | (simp; done) | (simp [*]; done)), H', ⟨by first | omega | exact Nat.le_refl _⟩, ⟨by (with_reducible repeat (first | refine blk_drewN ?_ _ | refine blk_drew ?_ | refine blk_alloc ?_ _)); exact BK238.out⟩, ⟨by repeat (first | (with_reducible first | exact HB.out | apply below_alloc | apply pw_below_drewN | apply below_drew1 | refine below_set ?_ GE238.out) | exact HB.out)⟩⟩
                  · rw [if_neg c69] at H
                    have c69b0 : decide (0 < (l0_4.length : Int)) = false := decide_eq_false c69
                    have c69b1 : decide (0 < l0_4.length) = false := decide_eq_false (by omega)
                    clear c69
                    have H' := Aside0.mk H
                    clear H
                    have hcz71_0 : w3.cell? ⟨gb238, 0, none⟩ = some (.int .i64 a0_0) := (blk_cell BK238.out 0).trans rfl
                    have hcz71_1 : w3.cell? ⟨gb238, 1, none⟩ = some (.bool false) := (blk_cell BK238.out 1).trans rfl
                    have hcz71_2 : w3.cell? ⟨gb238, 2, none⟩ = some (.string a0_2) := (blk_cell BK238.out 2).trans rfl
                    have hcz71_3 : w3.cell? ⟨gb238, 3, none⟩ = some (.slice A0_3 l0_3.length c0_3) := (blk_cell BK238.out 3).trans rfl
                    have hcz71_4 : w3.cell? ⟨gb238, 4, none⟩ = some (.slice A0_4 l0_4.length c0_4) := (blk_cell BK238.out 4).trans rfl
                    have hfz71_0 := blk_frozen BK238.out 0
                    have hfz71_1 := blk_frozen BK238.out 1
                    have hfz71_2 := blk_frozen BK238.out 2
                    have hfz71_3 := blk_frozen BK238.out 3
                    have hfz71_4 := blk_frozen BK238.out 4
                    go_wp2
                    go_meet
                    case rel => exact ⟨_, (false), (by first | rfl | (simp; done) | (simp [*]; done)), H', ⟨by first | omega | exact Nat.le_refl _⟩, ⟨by (with_reducible repeat (first | refine blk_drewN ?_ _ | refine blk_drew ?_ | refine blk_alloc ?_ _)); exact BK238.out⟩, ⟨by repeat (first | (with_reducible first | exact HB.out | apply below_alloc | apply pw_below_drewN | apply below_drew1 | refine below_set ?_ GE238.out) | exact HB.out)⟩⟩
              · rw [if_neg c62] at H
                have c62b0 : (a0_0 == 3) = false := beq_eq_false_iff_ne.mpr c62
                have c62b1 : (a0_0 != 3) = true := bne_iff_ne.mpr c62
                have H' := Aside0.mk H
                clear H
                have hcz72_0 : w3.cell? ⟨gb238, 0, none⟩ = some (.int .i64 a0_0) := (blk_cell BK238.out 0).trans rfl
                have hcz72_1 : w3.cell? ⟨gb238, 1, none⟩ = some (.bool false) := (blk_cell BK238.out 1).trans rfl
                have hcz72_2 : w3.cell? ⟨gb238, 2, none⟩ = some (.string a0_2) := (blk_cell BK238.out 2).trans rfl
                have hcz72_3 : w3.cell? ⟨gb238, 3, none⟩ = some (.slice A0_3 l0_3.length c0_3) := (blk_cell BK238.out 3).trans rfl
                have hcz72_4 : w3.cell? ⟨gb238, 4, none⟩ = some (.slice A0_4 l0_4.length c0_4) := (blk_cell BK238.out 4).trans rfl
                have hfz72_0 := blk_frozen BK238.out 0
                have hfz72_1 := blk_frozen BK238.out 1
                have hfz72_2 := blk_frozen BK238.out 2
                have hfz72_3 := blk_frozen BK238.out 3
                have hfz72_4 := blk_frozen BK238.out 4
                go_wp2
                go_meet
                case rel => exact ⟨_, (true), (by first | rfl | (simp; done) | (simp [*]; done)), H', ⟨by first | omega | exact Nat.le_refl _⟩, ⟨by (with_reducible repeat (first | refine blk_drewN ?_ _ | refine blk_drew ?_ | refine blk_alloc ?_ _)); exact BK238.out⟩, ⟨by repeat (first | (with_reducible first | exact HB.out | apply below_alloc | apply pw_below_drewN | apply below_drew1 | refine below_set ?_ GE238.out) | exact HB.out)⟩⟩
  case rest =>
    clear HC2
    try clear c2
    try clear p2
    try clear c3
    try clear c4
    try clear c5
    try clear c6
    try clear c8
    try clear c9
    try clear c9b0
    try clear c9b1
    try clear c20
    try clear c20b0
    try clear c20b1
    try clear c21
    try clear c21b0
    try clear c21b1
    try clear c24
    try clear c24b0
    try clear c24b1
    try clear c27
    try clear c27b0
    try clear c27b1
    try clear c30
    try clear c30b0
    try clear c30b1
    try clear c31
    try clear c31b0
    try clear c31b1
    try clear c32
    try clear c32b0
    try clear c34
    try clear c34b0
    try clear c34b1
    try clear c37
    try clear c37b0
    try clear c37b1
    try clear c42
    try clear c42b0
    try clear c42b1
    try clear c43
    try clear c43b0
    try clear c43b1
    try clear c44
    try clear c44b0
    try clear c46
    try clear c46b0
    try clear c46b1
    try clear c49
    try clear c49b0
    try clear c49b1
    try clear c52
    try clear c52b0
    try clear c52b1
    try clear c53
    try clear c53b0
    try clear c53b1
    try clear c54
    try clear c54b0
    try clear c56
    try clear c56b0
    try clear c56b1
    try clear c59
    try clear c59b0
    try clear c59b1
    try clear c62
    try clear c62b0
    try clear c62b1
    try clear c63
    try clear c63b0
    try clear c63b1
    try clear c64
    try clear c64b0
    try clear c66
    try clear c66b0
    try clear c66b1
    try clear c69
    try clear c69b0
    try clear c69b1
    try clear hcz25_2
    try clear hcz25_3
    try clear hcz25_4
    try clear hcz26_0
    try clear hcz26_1
    try clear hcz26_2
    try clear hcz26_3
    try clear hcz26_4
    try clear hcz28_0
    try clear hcz28_1
    try clear hcz28_2
    try clear hcz28_3
    try clear hcz28_4
    try clear hcz29_0
    try clear hcz29_1
    try clear hcz29_2
    try clear hcz29_3
    try clear hcz29_4
    try clear hcz33_0
    try clear hcz33_1
    try clear hcz33_2
    try clear hcz33_3
    try clear hcz33_4
    try clear hcz35_0
    try clear hcz35_1
    try clear hcz35_2
    try clear hcz35_3
    try clear hcz35_4
    try clear hcz36_0
    try clear hcz36_1
    try clear hcz36_2
    try clear hcz36_3
    try clear hcz36_4
    try clear hcz38_0
    try clear hcz38_1
    try clear hcz38_2
    try clear hcz38_3
    try clear hcz38_4
    try clear hcz39_0
    try clear hcz39_1
    try clear hcz39_2
    try clear hcz39_3
    try clear hcz39_4
    try clear hcz40_0
    try clear hcz40_1
    try clear hcz40_2
    try clear hcz40_3
    try clear hcz40_4
    try clear hcz41_0
    try clear hcz41_1
    try clear hcz41_2
    try clear hcz41_3
    try clear hcz41_4
    try clear hcz45_0
    try clear hcz45_1
    try clear hcz45_2
    try clear hcz45_3
    try clear hcz45_4
    try clear hcz47_0
    try clear hcz47_1
    try clear hcz47_2
    try clear hcz47_3
    try clear hcz47_4
    try clear hcz48_0
    try clear hcz48_1
    try clear hcz48_2
    try clear hcz48_3
    try clear hcz48_4
    try clear hcz50_0
    try clear hcz50_1
    try clear hcz50_2
    try clear hcz50_3
    try clear hcz50_4
    try clear hcz51_0
    try clear hcz51_1
    try clear hcz51_2
    try clear hcz51_3
    try clear hcz51_4
    try clear hcz55_0
    try clear hcz55_1
    try clear hcz55_2
    try clear hcz55_3
    try clear hcz55_4
    try clear hcz57_0
    try clear hcz57_1
    try clear hcz57_2
    try clear hcz57_3
    try clear hcz57_4
    try clear hcz58_0
    try clear hcz58_1
    try clear hcz58_2
    try clear hcz58_3
    try clear hcz58_4
    try clear hcz60_0
    try clear hcz60_1
    try clear hcz60_2
    try clear hcz60_3
    try clear hcz60_4
    try clear hcz61_0
    try clear hcz61_1
    try clear hcz61_2
    try clear hcz61_3
    try clear hcz61_4
    try clear hcz65_0
    try clear hcz65_1
    try clear hcz65_2
    try clear hcz65_3
    try clear hcz65_4
    try clear hcz67_0
    try clear hcz67_1
    try clear hcz67_2
    try clear hcz67_3
    try clear hcz67_4
    try clear hcz68_0
    try clear hcz68_1
    try clear hcz68_2
    try clear hcz68_3
    try clear hcz68_4
    try clear hcz70_0
    try clear hcz70_1
    try clear hcz70_2
    try clear hcz70_3
    try clear hcz70_4
    try clear hcz71_0
    try clear hcz71_1
    try clear hcz71_2
    try clear hcz71_3
    try clear hcz71_4
    try clear hcz72_0
    try clear hcz72_1
    try clear hcz72_2
    try clear hcz72_3
    try clear hcz72_4
    try clear hfz25_0
    try clear hfz25_1
    try clear hfz25_2
    try clear hfz25_3
    try clear hfz25_4
    try clear hfz26_0
    try clear hfz26_1
    try clear hfz26_2
    try clear hfz26_3
    try clear hfz26_4
    try clear hfz28_0
    try clear hfz28_1
    try clear hfz28_2
    try clear hfz28_3
    try clear hfz28_4
    try clear hfz29_0
    try clear hfz29_1
    try clear hfz29_2
    try clear hfz29_3
    try clear hfz29_4
    try clear hfz33_0
    try clear hfz33_1
    try clear hfz33_2
    try clear hfz33_3
    try clear hfz33_4
    try clear hfz35_0
    try clear hfz35_1
    try clear hfz35_2
    try clear hfz35_3
    try clear hfz35_4
    try clear hfz36_0
    try clear hfz36_1
    try clear hfz36_2
    try clear hfz36_3
    try clear hfz36_4
    try clear hfz38_0
    try clear hfz38_1
    try clear hfz38_2
    try clear hfz38_3
    try clear hfz38_4
    try clear hfz39_0
    try clear hfz39_1
    try clear hfz39_2
    try clear hfz39_3
    try clear hfz39_4
    try clear hfz40_0
    try clear hfz40_1
    try clear hfz40_2
    try clear hfz40_3
    try clear hfz40_4
    try clear hfz41_0
    try clear hfz41_1
    try clear hfz41_2
    try clear hfz41_3
    try clear hfz41_4
    try clear hfz45_0
    try clear hfz45_1
    try clear hfz45_2
    try clear hfz45_3
    try clear hfz45_4
    try clear hfz47_0
    try clear hfz47_1
    try clear hfz47_2
    try clear hfz47_3
    try clear hfz47_4
    try clear hfz48_0
    try clear hfz48_1
    try clear hfz48_2
    try clear hfz48_3
    try clear hfz48_4
    try clear hfz50_0
    try clear hfz50_1
    try clear hfz50_2
    try clear hfz50_3
    try clear hfz50_4
    try clear hfz51_0
    try clear hfz51_1
    try clear hfz51_2
    try clear hfz51_3
    try clear hfz51_4
    try clear hfz55_0
    try clear hfz55_1
    try clear hfz55_2
    try clear hfz55_3
    try clear hfz55_4
    try clear hfz57_0
    try clear hfz57_1
    try clear hfz57_2
    try clear hfz57_3
    try clear hfz57_4
    try clear hfz58_0
    try clear hfz58_1
    try clear hfz58_2
    try clear hfz58_3
    try clear hfz58_4
    try clear hfz60_0
    try clear hfz60_1
    try clear hfz60_2
    try clear hfz60_3
    try clear hfz60_4
    try clear hfz61_0
    try clear hfz61_1
    try clear hfz61_2
    try clear hfz61_3
    try clear hfz61_4
    try clear hfz65_0
    try clear hfz65_1
    try clear hfz65_2
    try clear hfz65_3
    try clear hfz65_4
    try clear hfz67_0
    try clear hfz67_1
    try clear hfz67_2
    try clear hfz67_3
    try clear hfz67_4
    try clear hfz68_0
    try clear hfz68_1
    try clear hfz68_2
    try clear hfz68_3
    try clear hfz68_4
    try clear hfz70_0
    try clear hfz70_1
    try clear hfz70_2
    try clear hfz70_3
    try clear hfz70_4
    try clear hfz71_0
    try clear hfz71_1
    try clear hfz71_2
    try clear hfz71_3
    try clear hfz71_4
    try clear hfz72_0
    try clear hfz72_1
    try clear hfz72_2
    try clear hfz72_3
    try clear hfz72_4
    obtain ⟨kq, x57_1, rfl, HA, HJ1, BK238, HB⟩ := hcut
    cases kq with
    | zero => exact absurd HA.out (by simp [colophonref10_May.j0])
    | succ kj1 =>
      have H := HA.out
      clear HA
      simp only [colophonref10_May.j0] at H
      by_cases c73 : x57_1 = true
      · subst c73
        have H1 : (some false) = some r := by rw [if_pos rfl] at H; exact H
        clear H
        have H := H1
        clear H1
        obtain rfl := Option.some.inj H
        go_wp2
        go_ret
        exact ⟨by first | rfl | (simp [errW_none, errW_some] <;> rfl) | (simp [errW_none, errW_some] <;> decide +kernel) | (simp [*, errW_none, errW_some] <;> rfl), by repeat (first | (with_reducible first | exact HB.out | apply below_alloc | apply pw_below_drewN | apply below_drew1 | refine below_set ?_ GE238.out) | exact HB.out)⟩
      · replace c73 := Bool.eq_false_iff.mpr c73
        subst c73
        have H1 : (if a0_0 = 5 then (colophonref10_May.j1 kj1 ((l0_4.length : Int) != (l0_3.length : Int)) a0_0 a0_1 a0_2 l0_3 l0_4) else (colophonref10_May.j1 kj1 false a0_0 a0_1 a0_2 l0_3 l0_4)) = some r := by rw [if_neg (show ¬ (false = true) by decide)] at H; exact H
        clear H
        have H := H1
        clear H1
        have HC74 := Aside0.mk H
        clear H
        go_upto_region 3 with (fail)
        go_cut [69] (fun v69 wc => ∃ (kq : Nat) (x69_73 : Bool), v69 = .bool x69_73 ∧ Aside0 (colophonref10_May.j1 kq x69_73 a0_0 a0_1 a0_2 l0_3 l0_4 = some r) ∧ Aside0 (kq ≤ kj1) ∧ Aside0 (wc.heap[gb238]? = some (.cells #[.int .i64 a0_0, .bool a0_1, .string a0_2, (.slice A0_3 l0_3.length c0_3), (.slice A0_4 l0_4.length c0_4)] 25 (0, 0))) ∧ Aside0 (Below w.heap.size w wc))
        case first =>
          have H := HC74.out
          clear HC74
          by_cases c75 : a0_0 = 5
          · rw [if_pos c75] at H
            have c75b0 : (a0_0 == 5) = true := beq_iff_eq.mpr c75
            have c75b1 : (a0_0 != 5) = false := bne_eq_false_iff_eq.mpr c75
            clear c75
            (first | rw [c75b0] | (simp only [i64_w, i32_w]; rw [c75b0]) | skip)
            have H' := Aside0.mk H
            clear H
            have hcz76_0 : wc.cell? ⟨gb238, 0, none⟩ = some (.int .i64 a0_0) := (blk_cell BK238.out 0).trans rfl
            have hcz76_1 : wc.cell? ⟨gb238, 1, none⟩ = some (.bool a0_1) := (blk_cell BK238.out 1).trans rfl
            have hcz76_2 : wc.cell? ⟨gb238, 2, none⟩ = some (.string a0_2) := (blk_cell BK238.out 2).trans rfl
            have hcz76_3 : wc.cell? ⟨gb238, 3, none⟩ = some (.slice A0_3 l0_3.length c0_3) := (blk_cell BK238.out 3).trans rfl
            have hcz76_4 : wc.cell? ⟨gb238, 4, none⟩ = some (.slice A0_4 l0_4.length c0_4) := (blk_cell BK238.out 4).trans rfl
            have hfz76_0 := blk_frozen BK238.out 0
            have hfz76_1 := blk_frozen BK238.out 1
            have hfz76_2 := blk_frozen BK238.out 2
            have hfz76_3 := blk_frozen BK238.out 3
            have hfz76_4 := blk_frozen BK238.out 4
            go_wp2
            go_meet
            case rel => exact ⟨_, (((l0_4.length : Int) != (l0_3.length : Int))), (by first | rfl | (simp; done) | (simp [*]; done)), H', ⟨by have := HJ1.out; first | omega | exact Nat.le_refl _⟩, ⟨by (with_reducible repeat (first | refine blk_drewN ?_ _ | refine blk_drew ?_ | refine blk_alloc ?_ _)); exact BK238.out⟩, ⟨by repeat (first | (with_reducible first | exact HB.out | apply below_alloc | apply pw_below_drewN | apply below_drew1 | refine below_set ?_ GE238.out) | exact HB.out)⟩⟩
          · rw [if_neg c75] at H
            have c75b0 : (a0_0 == 5) = false := beq_eq_false_iff_ne.mpr c75
            have c75b1 : (a0_0 != 5) = true := bne_iff_ne.mpr c75
            (first | rw [c75b0] | (simp only [i64_w, i32_w]; rw [c75b0]) | skip)
            have H' := Aside0.mk H
            clear H
            have hcz77_0 : wc.cell? ⟨gb238, 0, none⟩ = some (.int .i64 a0_0) := (blk_cell BK238.out 0).trans rfl
            have hcz77_1 : wc.cell? ⟨gb238, 1, none⟩ = some (.bool a0_1) := (blk_cell BK238.out 1).trans rfl
            have hcz77_2 : wc.cell? ⟨gb238, 2, none⟩ = some (.string a0_2) := (blk_cell BK238.out 2).trans rfl
            have hcz77_3 : wc.cell? ⟨gb238, 3, none⟩ = some (.slice A0_3 l0_3.length c0_3) := (blk_cell BK238.out 3).trans rfl
            have hcz77_4 : wc.cell? ⟨gb238, 4, none⟩ = some (.slice A0_4 l0_4.length c0_4) := (blk_cell BK238.out 4).trans rfl
            have hfz77_0 := blk_frozen BK238.out 0
            have hfz77_1 := blk_frozen BK238.out 1
            have hfz77_2 := blk_frozen BK238.out 2
            have hfz77_3 := blk_frozen BK238.out 3
            have hfz77_4 := blk_frozen BK238.out 4
            go_wp2
            go_meet
            case rel => exact ⟨_, (false), (by first | rfl | (simp; done) | (simp [*]; done)), H', ⟨by have := HJ1.out; first | omega | exact Nat.le_refl _⟩, ⟨by (with_reducible repeat (first | refine blk_drewN ?_ _ | refine blk_drew ?_ | refine blk_alloc ?_ _)); exact BK238.out⟩, ⟨by repeat (first | (with_reducible first | exact HB.out | apply below_alloc | apply pw_below_drewN | apply below_drew1 | refine below_set ?_ GE238.out) | exact HB.out)⟩⟩
        case rest =>
          clear HC74
          try clear c2
          try clear p2
          try clear c3
          try clear c4
          try clear c5
          try clear c6
          try clear c7
          try clear c8
          try clear c9
          try clear c9b0
          try clear c9b1
          try clear c20
          try clear c20b0
          try clear c20b1
          try clear c21
          try clear c21b0
          try clear c21b1
          try clear c24
          try clear c24b0
          try clear c24b1
          try clear c27
          try clear c27b0
          try clear c27b1
          try clear c30
          try clear c30b0
          try clear c30b1
          try clear c31
          try clear c31b0
          try clear c31b1
          try clear c32
          try clear c32b0
          try clear c34
          try clear c34b0
          try clear c34b1
          try clear c37
          try clear c37b0
          try clear c37b1
          try clear c42
          try clear c42b0
          try clear c42b1
          try clear c43
          try clear c43b0
          try clear c43b1
          try clear c44
          try clear c44b0
          try clear c46
          try clear c46b0
          try clear c46b1
          try clear c49
          try clear c49b0
          try clear c49b1
          try clear c52
          try clear c52b0
          try clear c52b1
          try clear c53
          try clear c53b0
          try clear c53b1
          try clear c54
          try clear c54b0
          try clear c56
          try clear c56b0
          try clear c56b1
          try clear c59
          try clear c59b0
          try clear c59b1
          try clear c62
          try clear c62b0
          try clear c62b1
          try clear c63
          try clear c63b0
          try clear c63b1
          try clear c64
          try clear c64b0
          try clear c66
          try clear c66b0
          try clear c66b1
          try clear c69
          try clear c69b0
          try clear c69b1
          try clear c73
          try clear c75
          try clear c75b0
          try clear c75b1
          try clear hcz25_2
          try clear hcz25_3
          try clear hcz25_4
          try clear hcz26_0
          try clear hcz26_1
          try clear hcz26_2
          try clear hcz26_3
          try clear hcz26_4
          try clear hcz28_0
          try clear hcz28_1
          try clear hcz28_2
          try clear hcz28_3
          try clear hcz28_4
          try clear hcz29_0
          try clear hcz29_1
          try clear hcz29_2
          try clear hcz29_3
          try clear hcz29_4
          try clear hcz33_0
          try clear hcz33_1
          try clear hcz33_2
          try clear hcz33_3
          try clear hcz33_4
          try clear hcz35_0
          try clear hcz35_1
          try clear hcz35_2
          try clear hcz35_3
          try clear hcz35_4
          try clear hcz36_0
          try clear hcz36_1
          try clear hcz36_2
          try clear hcz36_3
          try clear hcz36_4
          try clear hcz38_0
          try clear hcz38_1
          try clear hcz38_2
          try clear hcz38_3
          try clear hcz38_4
          try clear hcz39_0
          try clear hcz39_1
          try clear hcz39_2
          try clear hcz39_3
          try clear hcz39_4
          try clear hcz40_0
          try clear hcz40_1
          try clear hcz40_2
          try clear hcz40_3
          try clear hcz40_4
          try clear hcz41_0
          try clear hcz41_1
          try clear hcz41_2
          try clear hcz41_3
          try clear hcz41_4
          try clear hcz45_0
          try clear hcz45_1
          try clear hcz45_2
          try clear hcz45_3
          try clear hcz45_4
          try clear hcz47_0
          try clear hcz47_1
          try clear hcz47_2
          try clear hcz47_3
          try clear hcz47_4
          try clear hcz48_0
          try clear hcz48_1
          try clear hcz48_2
          try clear hcz48_3
          try clear hcz48_4
          try clear hcz50_0
          try clear hcz50_1
          try clear hcz50_2
          try clear hcz50_3
          try clear hcz50_4
          try clear hcz51_0
          try clear hcz51_1
          try clear hcz51_2
          try clear hcz51_3
          try clear hcz51_4
          try clear hcz55_0
          try clear hcz55_1
          try clear hcz55_2
          try clear hcz55_3
          try clear hcz55_4
          try clear hcz57_0
          try clear hcz57_1
          try clear hcz57_2
          try clear hcz57_3
          try clear hcz57_4
          try clear hcz58_0
          try clear hcz58_1
          try clear hcz58_2
          try clear hcz58_3
          try clear hcz58_4
          try clear hcz60_0
          try clear hcz60_1
          try clear hcz60_2
          try clear hcz60_3
          try clear hcz60_4
          try clear hcz61_0
          try clear hcz61_1
          try clear hcz61_2
          try clear hcz61_3
          try clear hcz61_4
          try clear hcz65_0
          try clear hcz65_1
          try clear hcz65_2
          try clear hcz65_3
          try clear hcz65_4
          try clear hcz67_0
          try clear hcz67_1
          try clear hcz67_2
          try clear hcz67_3
          try clear hcz67_4
          try clear hcz68_0
          try clear hcz68_1
          try clear hcz68_2
          try clear hcz68_3
          try clear hcz68_4
          try clear hcz70_0
          try clear hcz70_1
          try clear hcz70_2
          try clear hcz70_3
          try clear hcz70_4
          try clear hcz71_0
          try clear hcz71_1
          try clear hcz71_2
          try clear hcz71_3
          try clear hcz71_4
          try clear hcz72_0
          try clear hcz72_1
          try clear hcz72_2
          try clear hcz72_3
          try clear hcz72_4
          try clear hcz76_0
          try clear hcz76_1
          try clear hcz76_2
          try clear hcz76_3
          try clear hcz76_4
          try clear hcz77_0
          try clear hcz77_1
          try clear hcz77_2
          try clear hcz77_3
          try clear hcz77_4
          try clear hfz25_0
          try clear hfz25_1
          try clear hfz25_2
          try clear hfz25_3
          try clear hfz25_4
          try clear hfz26_0
          try clear hfz26_1
          try clear hfz26_2
          try clear hfz26_3
          try clear hfz26_4
          try clear hfz28_0
          try clear hfz28_1
          try clear hfz28_2
          try clear hfz28_3
          try clear hfz28_4
          try clear hfz29_0
          try clear hfz29_1
          try clear hfz29_2
          try clear hfz29_3
          try clear hfz29_4
          try clear hfz33_0
          try clear hfz33_1
          try clear hfz33_2
          try clear hfz33_3
          try clear hfz33_4
          try clear hfz35_0
          try clear hfz35_1
          try clear hfz35_2
          try clear hfz35_3
          try clear hfz35_4
          try clear hfz36_0
          try clear hfz36_1
          try clear hfz36_2
          try clear hfz36_3
          try clear hfz36_4
          try clear hfz38_0
          try clear hfz38_1
          try clear hfz38_2
          try clear hfz38_3
          try clear hfz38_4
          try clear hfz39_0
          try clear hfz39_1
          try clear hfz39_2
          try clear hfz39_3
          try clear hfz39_4
          try clear hfz40_0
          try clear hfz40_1
          try clear hfz40_2
          try clear hfz40_3
          try clear hfz40_4
          try clear hfz41_0
          try clear hfz41_1
          try clear hfz41_2
          try clear hfz41_3
          try clear hfz41_4
          try clear hfz45_0
          try clear hfz45_1
          try clear hfz45_2
          try clear hfz45_3
          try clear hfz45_4
          try clear hfz47_0
          try clear hfz47_1
          try clear hfz47_2
          try clear hfz47_3
          try clear hfz47_4
          try clear hfz48_0
          try clear hfz48_1
          try clear hfz48_2
          try clear hfz48_3
          try clear hfz48_4
          try clear hfz50_0
          try clear hfz50_1
          try clear hfz50_2
          try clear hfz50_3
          try clear hfz50_4
          try clear hfz51_0
          try clear hfz51_1
          try clear hfz51_2
          try clear hfz51_3
          try clear hfz51_4
          try clear hfz55_0
          try clear hfz55_1
          try clear hfz55_2
          try clear hfz55_3
          try clear hfz55_4
          try clear hfz57_0
          try clear hfz57_1
          try clear hfz57_2
          try clear hfz57_3
          try clear hfz57_4
          try clear hfz58_0
          try clear hfz58_1
          try clear hfz58_2
          try clear hfz58_3
          try clear hfz58_4
          try clear hfz60_0
          try clear hfz60_1
          try clear hfz60_2
          try clear hfz60_3
          try clear hfz60_4
          try clear hfz61_0
          try clear hfz61_1
          try clear hfz61_2
          try clear hfz61_3
          try clear hfz61_4
          try clear hfz65_0
          try clear hfz65_1
          try clear hfz65_2
          try clear hfz65_3
          try clear hfz65_4
          try clear hfz67_0
          try clear hfz67_1
          try clear hfz67_2
          try clear hfz67_3
          try clear hfz67_4
          try clear hfz68_0
          try clear hfz68_1
          try clear hfz68_2
          try clear hfz68_3
          try clear hfz68_4
          try clear hfz70_0
          try clear hfz70_1
          try clear hfz70_2
          try clear hfz70_3
          try clear hfz70_4
          try clear hfz71_0
          try clear hfz71_1
          try clear hfz71_2
          try clear hfz71_3
          try clear hfz71_4
          try clear hfz72_0
          try clear hfz72_1
          try clear hfz72_2
          try clear hfz72_3
          try clear hfz72_4
          try clear hfz76_0
          try clear hfz76_1
          try clear hfz76_2
          try clear hfz76_3
          try clear hfz76_4
          try clear hfz77_0
          try clear hfz77_1
          try clear hfz77_2
          try clear hfz77_3
          try clear hfz77_4
          try clear p2
          obtain ⟨kq, x69_73, rfl, HA, HJ73, BK238, HB⟩ := hcut
          cases kq with
          | zero => exact absurd HA.out (by simp [colophonref10_May.j1])
          | succ kj73 =>
            have H := HA.out
            clear HA
            simp only [colophonref10_May.j1] at H
            by_cases c78 : x69_73 = true
            · subst c78
              have H1 : (some false) = some r := by rw [if_pos rfl] at H; exact H
              clear H
              have H := H1
              clear H1
              obtain rfl := Option.some.inj H
              go_wp2
              go_ret
              exact ⟨by first | rfl | (simp [errW_none, errW_some] <;> rfl) | (simp [errW_none, errW_some] <;> decide +kernel) | (simp [*, errW_none, errW_some] <;> rfl), by repeat (first | (with_reducible first | exact HB.out | apply below_alloc | apply pw_below_drewN | apply below_drew1 | refine below_set ?_ GE238.out) | exact HB.out)⟩
            · replace c78 := Bool.eq_false_iff.mpr c78
              subst c78
              have H1 : (colophonref10_May.l0 kj73 0 a0_0 a0_1 a0_2 l0_3 l0_4) = some r := by rw [if_neg (show ¬ (false = true) by decide)] at H; exact H
              clear H
              have H := H1
              clear H1
              have H' := Aside0.mk H
              clear H
              go_wp2
              go_loopg [3] kj73 (fun kq v3 w' => ∃ (x3_3 : Int), v3 = .int .i64 x3_3 ∧ Aside0 (colophonref10_May.l0 kq x3_3 a0_0 a0_1 a0_2 l0_3 l0_4 = some r) ∧ Aside0 (kq ≤ kj73) ∧ Aside0 (w'.heap[gb238]? = some (.cells #[.int .i64 a0_0, .bool a0_1, .string a0_2, (.slice A0_3 l0_3.length c0_3), (.slice A0_4 l0_4.length c0_4)] 25 (0, 0))) ∧ Aside0 (Below w.heap.size w w'))
              case atStart => exact ⟨(0), (by first | rfl | (simp; done) | (simp [*]; done)), H', ⟨Nat.le_refl _⟩, ⟨by (with_reducible repeat (first | refine blk_drewN ?_ _ | refine blk_drew ?_ | refine blk_alloc ?_ _)); exact BK238.out⟩, ⟨by repeat (first | (with_reducible first | exact HB.out | apply below_alloc | apply pw_below_drewN | apply below_drew1 | refine below_set ?_ GE238.out) | exact HB.out)⟩⟩
              case round =>
                clear H'
                try clear c2
                try clear p2
                try clear c3
                try clear c4
                try clear c5
                try clear c6
                try clear c7
                try clear c8
                try clear c9
                try clear c9b0
                try clear c9b1
                try clear c20
                try clear c20b0
                try clear c20b1
                try clear c21
                try clear c21b0
                try clear c21b1
                try clear c24
                try clear c24b0
                try clear c24b1
                try clear c27
                try clear c27b0
                try clear c27b1
                try clear c30
                try clear c30b0
                try clear c30b1
                try clear c31
                try clear c31b0
                try clear c31b1
                try clear c32
                try clear c32b0
                try clear c34
                try clear c34b0
                try clear c34b1
                try clear c37
                try clear c37b0
                try clear c37b1
                try clear c42
                try clear c42b0
                try clear c42b1
                try clear c43
                try clear c43b0
                try clear c43b1
                try clear c44
                try clear c44b0
                try clear c46
                try clear c46b0
                try clear c46b1
                try clear c49
                try clear c49b0
                try clear c49b1
                try clear c52
                try clear c52b0
                try clear c52b1
                try clear c53
                try clear c53b0
                try clear c53b1
                try clear c54
                try clear c54b0
                try clear c56
                try clear c56b0
                try clear c56b1
                try clear c59
                try clear c59b0
                try clear c59b1
                try clear c62
                try clear c62b0
                try clear c62b1
                try clear c63
                try clear c63b0
                try clear c63b1
                try clear c64
                try clear c64b0
                try clear c66
                try clear c66b0
                try clear c66b1
                try clear c69
                try clear c69b0
                try clear c69b1
                try clear c73
                try clear c75
                try clear c75b0
                try clear c75b1
                try clear c78
                try clear hcz25_2
                try clear hcz25_3
                try clear hcz25_4
                try clear hcz26_0
                try clear hcz26_1
                try clear hcz26_2
                try clear hcz26_3
                try clear hcz26_4
                try clear hcz28_0
                try clear hcz28_1
                try clear hcz28_2
                try clear hcz28_3
                try clear hcz28_4
                try clear hcz29_0
                try clear hcz29_1
                try clear hcz29_2
                try clear hcz29_3
                try clear hcz29_4
                try clear hcz33_0
                try clear hcz33_1
                try clear hcz33_2
                try clear hcz33_3
                try clear hcz33_4
                try clear hcz35_0
                try clear hcz35_1
                try clear hcz35_2
                try clear hcz35_3
                try clear hcz35_4
                try clear hcz36_0
                try clear hcz36_1
                try clear hcz36_2
                try clear hcz36_3
                try clear hcz36_4
                try clear hcz38_0
                try clear hcz38_1
                try clear hcz38_2
                try clear hcz38_3
                try clear hcz38_4
                try clear hcz39_0
                try clear hcz39_1
                try clear hcz39_2
                try clear hcz39_3
                try clear hcz39_4
                try clear hcz40_0
                try clear hcz40_1
                try clear hcz40_2
                try clear hcz40_3
                try clear hcz40_4
                try clear hcz41_0
                try clear hcz41_1
                try clear hcz41_2
                try clear hcz41_3
                try clear hcz41_4
                try clear hcz45_0
                try clear hcz45_1
                try clear hcz45_2
                try clear hcz45_3
                try clear hcz45_4
                try clear hcz47_0
                try clear hcz47_1
                try clear hcz47_2
                try clear hcz47_3
                try clear hcz47_4
                try clear hcz48_0
                try clear hcz48_1
                try clear hcz48_2
                try clear hcz48_3
                try clear hcz48_4
                try clear hcz50_0
                try clear hcz50_1
                try clear hcz50_2
                try clear hcz50_3
                try clear hcz50_4
                try clear hcz51_0
                try clear hcz51_1
                try clear hcz51_2
                try clear hcz51_3
                try clear hcz51_4
                try clear hcz55_0
                try clear hcz55_1
                try clear hcz55_2
                try clear hcz55_3
                try clear hcz55_4
                try clear hcz57_0
                try clear hcz57_1
                try clear hcz57_2
                try clear hcz57_3
                try clear hcz57_4
                try clear hcz58_0
                try clear hcz58_1
                try clear hcz58_2
                try clear hcz58_3
                try clear hcz58_4
                try clear hcz60_0
                try clear hcz60_1
                try clear hcz60_2
                try clear hcz60_3
                try clear hcz60_4
                try clear hcz61_0
                try clear hcz61_1
                try clear hcz61_2
                try clear hcz61_3
                try clear hcz61_4
                try clear hcz65_0
                try clear hcz65_1
                try clear hcz65_2
                try clear hcz65_3
                try clear hcz65_4
                try clear hcz67_0
                try clear hcz67_1
                try clear hcz67_2
                try clear hcz67_3
                try clear hcz67_4
                try clear hcz68_0
                try clear hcz68_1
                try clear hcz68_2
                try clear hcz68_3
                try clear hcz68_4
                try clear hcz70_0
                try clear hcz70_1
                try clear hcz70_2
                try clear hcz70_3
                try clear hcz70_4
                try clear hcz71_0
                try clear hcz71_1
                try clear hcz71_2
                try clear hcz71_3
                try clear hcz71_4
                try clear hcz72_0
                try clear hcz72_1
                try clear hcz72_2
                try clear hcz72_3
                try clear hcz72_4
                try clear hcz76_0
                try clear hcz76_1
                try clear hcz76_2
                try clear hcz76_3
                try clear hcz76_4
                try clear hcz77_0
                try clear hcz77_1
                try clear hcz77_2
                try clear hcz77_3
                try clear hcz77_4
                try clear hfz25_0
                try clear hfz25_1
                try clear hfz25_2
                try clear hfz25_3
                try clear hfz25_4
                try clear hfz26_0
                try clear hfz26_1
                try clear hfz26_2
                try clear hfz26_3
                try clear hfz26_4
                try clear hfz28_0
                try clear hfz28_1
                try clear hfz28_2
                try clear hfz28_3
                try clear hfz28_4
                try clear hfz29_0
                try clear hfz29_1
                try clear hfz29_2
                try clear hfz29_3
                try clear hfz29_4
                try clear hfz33_0
                try clear hfz33_1
                try clear hfz33_2
                try clear hfz33_3
                try clear hfz33_4
                try clear hfz35_0
                try clear hfz35_1
                try clear hfz35_2
                try clear hfz35_3
                try clear hfz35_4
                try clear hfz36_0
                try clear hfz36_1
                try clear hfz36_2
                try clear hfz36_3
                try clear hfz36_4
                try clear hfz38_0
                try clear hfz38_1
                try clear hfz38_2
                try clear hfz38_3
                try clear hfz38_4
                try clear hfz39_0
                try clear hfz39_1
                try clear hfz39_2
                try clear hfz39_3
                try clear hfz39_4
                try clear hfz40_0
                try clear hfz40_1
                try clear hfz40_2
                try clear hfz40_3
                try clear hfz40_4
                try clear hfz41_0
                try clear hfz41_1
                try clear hfz41_2
                try clear hfz41_3
                try clear hfz41_4
                try clear hfz45_0
                try clear hfz45_1
                try clear hfz45_2
                try clear hfz45_3
                try clear hfz45_4
                try clear hfz47_0
                try clear hfz47_1
                try clear hfz47_2
                try clear hfz47_3
                try clear hfz47_4
                try clear hfz48_0
                try clear hfz48_1
                try clear hfz48_2
                try clear hfz48_3
                try clear hfz48_4
                try clear hfz50_0
                try clear hfz50_1
                try clear hfz50_2
                try clear hfz50_3
                try clear hfz50_4
                try clear hfz51_0
                try clear hfz51_1
                try clear hfz51_2
                try clear hfz51_3
                try clear hfz51_4
                try clear hfz55_0
                try clear hfz55_1
                try clear hfz55_2
                try clear hfz55_3
                try clear hfz55_4
                try clear hfz57_0
                try clear hfz57_1
                try clear hfz57_2
                try clear hfz57_3
                try clear hfz57_4
                try clear hfz58_0
                try clear hfz58_1
                try clear hfz58_2
                try clear hfz58_3
                try clear hfz58_4
                try clear hfz60_0
                try clear hfz60_1
                try clear hfz60_2
                try clear hfz60_3
                try clear hfz60_4
                try clear hfz61_0
                try clear hfz61_1
                try clear hfz61_2
                try clear hfz61_3
                try clear hfz61_4
                try clear hfz65_0
                try clear hfz65_1
                try clear hfz65_2
                try clear hfz65_3
                try clear hfz65_4
                try clear hfz67_0
                try clear hfz67_1
                try clear hfz67_2
                try clear hfz67_3
                try clear hfz67_4
                try clear hfz68_0
                try clear hfz68_1
                try clear hfz68_2
                try clear hfz68_3
                try clear hfz68_4
                try clear hfz70_0
                try clear hfz70_1
                try clear hfz70_2
                try clear hfz70_3
                try clear hfz70_4
                try clear hfz71_0
                try clear hfz71_1
                try clear hfz71_2
                try clear hfz71_3
                try clear hfz71_4
                try clear hfz72_0
                try clear hfz72_1
                try clear hfz72_2
                try clear hfz72_3
                try clear hfz72_4
                try clear hfz76_0
                try clear hfz76_1
                try clear hfz76_2
                try clear hfz76_3
                try clear hfz76_4
                try clear hfz77_0
                try clear hfz77_1
                try clear hfz77_2
                try clear hfz77_3
                try clear hfz77_4
                try clear p2
                obtain ⟨x3_3, rfl, HA, HK3, BK238, HB⟩ := hrel
                cases gk with
                | zero => exact absurd HA.out (by simp [colophonref10_May.l0])
                | succ k3 =>
                  have H := HA.out
                  clear HA
                  simp only [colophonref10_May.l0] at H
                  by_cases c79 : x3_3 < (l0_3.length : Int)
                  · rw [if_pos c79] at H
                    have c79b0 : decide (x3_3 < (l0_3.length : Int)) = true := decide_eq_true c79
                    clear c79
                    by_cases c80 : 0 ≤ x3_3
                    · rw [if_pos c80] at H
                      have c80b0 : decide (0 ≤ x3_3) = true := decide_eq_true c80
                      clear c80
                      replace H := Option.bind_eq_some_iff.mp H
                      obtain ⟨t240, A810, H⟩ := H
                      replace H : (if t240 = true then (colophonref10_May.l0 k3 (wrap64 (x3_3 + 1)) a0_0 a0_1 a0_2 l0_3 l0_4) else (some false)) = some r := H
                      have A81 := Aside0.mk A810
                      clear A810
                      by_cases c82 : t240 = true
                      · subst c82
                        have H1 : (colophonref10_May.l0 k3 (wrap64 (x3_3 + 1)) a0_0 a0_1 a0_2 l0_3 l0_4) = some r := by rw [if_pos rfl] at H; exact H
                        clear H
                        have H := H1
                        clear H1
                        have H' := Aside0.mk H
                        clear H
                        have hcz83_0 : wr.cell? ⟨gb238, 0, none⟩ = some (.int .i64 a0_0) := (blk_cell BK238.out 0).trans rfl
                        have hcz83_1 : wr.cell? ⟨gb238, 1, none⟩ = some (.bool a0_1) := (blk_cell BK238.out 1).trans rfl
                        have hcz83_2 : wr.cell? ⟨gb238, 2, none⟩ = some (.string a0_2) := (blk_cell BK238.out 2).trans rfl
                        have hcz83_3 : wr.cell? ⟨gb238, 3, none⟩ = some (.slice A0_3 l0_3.length c0_3) := (blk_cell BK238.out 3).trans rfl
                        have hcz83_4 : wr.cell? ⟨gb238, 4, none⟩ = some (.slice A0_4 l0_4.length c0_4) := (blk_cell BK238.out 4).trans rfl
                        have hfz83_0 := blk_frozen BK238.out 0
                        have hfz83_1 := blk_frozen BK238.out 1
                        have hfz83_2 := blk_frozen BK238.out 2
                        have hfz83_3 := blk_frozen BK238.out 3
                        have hfz83_4 := blk_frozen BK238.out 4
                        have p239 : 0 ≤ (x3_3 : Int) := of_decide_eq_true (by first | (with_reducible assumption) | assumption)
                        have q239 : x3_3 < (l0_3.length : Int) := of_decide_eq_true (by first | (with_reducible assumption) | assumption)
                        obtain ⟨ad239, A239_3, c239_3, A239_4, c239_4, e239, hx239_0, hx239_1, hx239_2, hx239_3, hx239_4, hl239_3, hi239_3, hl239_4, hi239_4⟩ := at_T25 HR0_3.out x3_3 p239 q239
                        cases e239
                        replace hx239_0 := (HB.out.cell (World.block_lt_of_cell? w _ hx239_0)).trans hx239_0
                        replace hx239_1 := (HB.out.cell (World.block_lt_of_cell? w _ hx239_1)).trans hx239_1
                        replace hx239_2 := (HB.out.cell (World.block_lt_of_cell? w _ hx239_2)).trans hx239_2
                        replace hx239_3 := (HB.out.cell (World.block_lt_of_cell? w _ hx239_3)).trans hx239_3
                        replace hx239_4 := (HB.out.cell (World.block_lt_of_cell? w _ hx239_4)).trans hx239_4
                        have HR239_3 := Aside0.mk hi239_3
                        have HC239_3 := Aside0.mk hl239_3
                        clear hi239_3 hl239_3
                        have HR239_4 := Aside0.mk hi239_4
                        have HC239_4 := Aside0.mk hl239_4
                        clear hi239_4 hl239_4
                        replace p239 := eq_true p239
                        replace q239 := eq_true q239
                        go_wp2_with (first | ((with_reducible refine gate_callee (f := 38) rfl ?_); refine goesL_ (some 82) rfl rfl Tryd.func38 (by kernel_rfl) rfl #[.agg #[.int .i64 ((rd_T25 l0_3 x3_3).f0), .bool ((rd_T25 l0_3 x3_3).f1), .string ((rd_T25 l0_3 x3_3).f2), .slice A239_3 ((rd_T25 l0_3 x3_3).f3).length c239_3, .slice A239_4 ((rd_T25 l0_3 x3_3).f4).length c239_4]] rfl (by (try simp only [List.map_toArray, List.map_cons, List.map_nil]); first | done | rfl | (simp only [List.length_drop, List.length_take]; rfl)) ?_; (with_reducible refine (ih k3 (by have := HJ1.out; have := HJ73.out; have := HK3.out; omega) ((rd_T25 l0_3 x3_3).f0) ((rd_T25 l0_3 x3_3).f1) ((rd_T25 l0_3 x3_3).f2) _ _ ((rd_T25 l0_3 x3_3).f3) _ _ ((rd_T25 l0_3 x3_3).f4) true _ ?side1 ?side2 ?side3 ?side4 A81.out).mono ?_); (case side1 => repeat (first | exact (Kd.C_below HR239_3.out HB.out) | (with_reducible refine Kd.C_alloc ?_ _) | (with_reducible refine Kd.C_drewN ?_ _) | (with_reducible refine Kd.C_drew ?_))); (case side2 => exact HC239_3.out); (case side3 => repeat (first | exact (Kd.C_below HR239_4.out HB.out) | (with_reducible refine Kd.C_alloc ?_ _) | (with_reducible refine Kd.C_drewN ?_ _) | (with_reducible refine Kd.C_drew ?_))); (case side4 => exact HC239_4.out); rintro e w84 ⟨rfl, hb⟩; refine ⟨_, rfl, ?_⟩; have n0_ := Aside0.mk (blk_below (g := gb238) (o := .cells #[.int .i64 a0_0, .bool a0_1, .string a0_2, .slice (some ad239) l0_3.length c0_3, .slice A0_4 l0_4.length c0_4] 25 (0, 0)) (by (with_reducible repeat (first | refine blk_drewN ?_ _ | refine blk_drew ?_ | refine blk_alloc ?_ _)); exact BK238.out) hb); have n1_ := Aside0.mk (below_step (by repeat (first | (with_reducible first | exact HB.out | apply below_alloc | apply pw_below_drewN | apply below_drew1 | refine below_set ?_ GE238.out) | exact HB.out)) hb); clear BK238; clear HB; have BK238 := n0_; have HB := n1_; clear n0_ n1_; (try clear hb); (try clear hb2); (try clear hk); (try clear hi)))
                        go_roundg k3
                        case measure => have := HJ1.out; have := HJ73.out; have := HK3.out; omega
                        case rel => exact ⟨(wrap64 (x3_3 + 1)), (by first | rfl | (simp; done) | (simp [*]; done)), H', ⟨by have := HJ1.out; have := HJ73.out; have := HK3.out; omega⟩, ⟨by (with_reducible repeat (first | refine blk_drewN ?_ _ | refine blk_drew ?_ | refine blk_alloc ?_ _)); exact BK238.out⟩, ⟨by repeat (first | (with_reducible first | exact HB.out | apply below_alloc | apply pw_below_drewN | apply below_drew1 | refine below_set ?_ GE238.out) | exact HB.out)⟩⟩
                      · replace c82 := Bool.eq_false_iff.mpr c82
                        subst c82
                        have H1 : (some false) = some r := by rw [if_neg (show ¬ (false = true) by decide)] at H; exact H
                        clear H
                        have H := H1
                        clear H1
                        obtain rfl := Option.some.inj H
                        have hcz85_0 : wr.cell? ⟨gb238, 0, none⟩ = some (.int .i64 a0_0) := (blk_cell BK238.out 0).trans rfl
                        have hcz85_1 : wr.cell? ⟨gb238, 1, none⟩ = some (.bool a0_1) := (blk_cell BK238.out 1).trans rfl
                        have hcz85_2 : wr.cell? ⟨gb238, 2, none⟩ = some (.string a0_2) := (blk_cell BK238.out 2).trans rfl
                        have hcz85_3 : wr.cell? ⟨gb238, 3, none⟩ = some (.slice A0_3 l0_3.length c0_3) := (blk_cell BK238.out 3).trans rfl
                        have hcz85_4 : wr.cell? ⟨gb238, 4, none⟩ = some (.slice A0_4 l0_4.length c0_4) := (blk_cell BK238.out 4).trans rfl
                        have hfz85_0 := blk_frozen BK238.out 0
                        have hfz85_1 := blk_frozen BK238.out 1
                        have hfz85_2 := blk_frozen BK238.out 2
                        have hfz85_3 := blk_frozen BK238.out 3
                        have hfz85_4 := blk_frozen BK238.out 4
                        have p239 : 0 ≤ (x3_3 : Int) := of_decide_eq_true (by first | (with_reducible assumption) | assumption)
                        have q239 : x3_3 < (l0_3.length : Int) := of_decide_eq_true (by first | (with_reducible assumption) | assumption)
                        obtain ⟨ad239, A239_3, c239_3, A239_4, c239_4, e239, hx239_0, hx239_1, hx239_2, hx239_3, hx239_4, hl239_3, hi239_3, hl239_4, hi239_4⟩ := at_T25 HR0_3.out x3_3 p239 q239
                        cases e239
                        replace hx239_0 := (HB.out.cell (World.block_lt_of_cell? w _ hx239_0)).trans hx239_0
                        replace hx239_1 := (HB.out.cell (World.block_lt_of_cell? w _ hx239_1)).trans hx239_1
                        replace hx239_2 := (HB.out.cell (World.block_lt_of_cell? w _ hx239_2)).trans hx239_2
                        replace hx239_3 := (HB.out.cell (World.block_lt_of_cell? w _ hx239_3)).trans hx239_3
                        replace hx239_4 := (HB.out.cell (World.block_lt_of_cell? w _ hx239_4)).trans hx239_4
                        have HR239_3 := Aside0.mk hi239_3
                        have HC239_3 := Aside0.mk hl239_3
                        clear hi239_3 hl239_3
                        have HR239_4 := Aside0.mk hi239_4
                        have HC239_4 := Aside0.mk hl239_4
                        clear hi239_4 hl239_4
                        replace p239 := eq_true p239
                        replace q239 := eq_true q239
                        go_wp2_with (first | ((with_reducible refine gate_callee (f := 38) rfl ?_); refine goesL_ (some 82) rfl rfl Tryd.func38 (by kernel_rfl) rfl #[.agg #[.int .i64 ((rd_T25 l0_3 x3_3).f0), .bool ((rd_T25 l0_3 x3_3).f1), .string ((rd_T25 l0_3 x3_3).f2), .slice A239_3 ((rd_T25 l0_3 x3_3).f3).length c239_3, .slice A239_4 ((rd_T25 l0_3 x3_3).f4).length c239_4]] rfl (by (try simp only [List.map_toArray, List.map_cons, List.map_nil]); first | done | rfl | (simp only [List.length_drop, List.length_take]; rfl)) ?_; (with_reducible refine (ih k3 (by have := HJ1.out; have := HJ73.out; have := HK3.out; omega) ((rd_T25 l0_3 x3_3).f0) ((rd_T25 l0_3 x3_3).f1) ((rd_T25 l0_3 x3_3).f2) _ _ ((rd_T25 l0_3 x3_3).f3) _ _ ((rd_T25 l0_3 x3_3).f4) false _ ?side1 ?side2 ?side3 ?side4 A81.out).mono ?_); (case side1 => repeat (first | exact (Kd.C_below HR239_3.out HB.out) | (with_reducible refine Kd.C_alloc ?_ _) | (with_reducible refine Kd.C_drewN ?_ _) | (with_reducible refine Kd.C_drew ?_))); (case side2 => exact HC239_3.out); (case side3 => repeat (first | exact (Kd.C_below HR239_4.out HB.out) | (with_reducible refine Kd.C_alloc ?_ _) | (with_reducible refine Kd.C_drewN ?_ _) | (with_reducible refine Kd.C_drew ?_))); (case side4 => exact HC239_4.out); rintro e w86 ⟨rfl, hb⟩; refine ⟨_, rfl, ?_⟩; have n0_ := Aside0.mk (blk_below (g := gb238) (o := .cells #[.int .i64 a0_0, .bool a0_1, .string a0_2, .slice (some ad239) l0_3.length c0_3, .slice A0_4 l0_4.length c0_4] 25 (0, 0)) (by (with_reducible repeat (first | refine blk_drewN ?_ _ | refine blk_drew ?_ | refine blk_alloc ?_ _)); exact BK238.out) hb); have n1_ := Aside0.mk (below_step (by repeat (first | (with_reducible first | exact HB.out | apply below_alloc | apply pw_below_drewN | apply below_drew1 | refine below_set ?_ GE238.out) | exact HB.out)) hb); clear BK238; clear HB; have BK238 := n0_; have HB := n1_; clear n0_ n1_; (try clear hb); (try clear hb2); (try clear hk); (try clear hi)))
                        go_ret
                        exact ⟨by first | rfl | (simp [errW_none, errW_some] <;> rfl) | (simp [errW_none, errW_some] <;> decide +kernel) | (simp [*, errW_none, errW_some] <;> rfl), by repeat (first | (with_reducible first | exact HB.out | apply below_alloc | apply pw_below_drewN | apply below_drew1 | refine below_set ?_ GE238.out) | exact HB.out)⟩
                    · rw [if_neg c80] at H
                      exact absurd H (by simp)
                  · rw [if_neg c79] at H
                    have c79b0 : decide (x3_3 < (l0_3.length : Int)) = false := decide_eq_false c79
                    clear c79
                    obtain rfl := Option.some.inj H
                    have hcz87_0 : wr.cell? ⟨gb238, 0, none⟩ = some (.int .i64 a0_0) := (blk_cell BK238.out 0).trans rfl
                    have hcz87_1 : wr.cell? ⟨gb238, 1, none⟩ = some (.bool a0_1) := (blk_cell BK238.out 1).trans rfl
                    have hcz87_2 : wr.cell? ⟨gb238, 2, none⟩ = some (.string a0_2) := (blk_cell BK238.out 2).trans rfl
                    have hcz87_3 : wr.cell? ⟨gb238, 3, none⟩ = some (.slice A0_3 l0_3.length c0_3) := (blk_cell BK238.out 3).trans rfl
                    have hcz87_4 : wr.cell? ⟨gb238, 4, none⟩ = some (.slice A0_4 l0_4.length c0_4) := (blk_cell BK238.out 4).trans rfl
                    have hfz87_0 := blk_frozen BK238.out 0
                    have hfz87_1 := blk_frozen BK238.out 1
                    have hfz87_2 := blk_frozen BK238.out 2
                    have hfz87_3 := blk_frozen BK238.out 3
                    have hfz87_4 := blk_frozen BK238.out 4
                    go_wp2
                    go_ret
                    exact ⟨by first | rfl | (simp [errW_none, errW_some] <;> rfl) | (simp [errW_none, errW_some] <;> decide +kernel) | (simp [*, errW_none, errW_some] <;> rfl), by repeat (first | (with_reducible first | exact HB.out | apply below_alloc | apply pw_below_drewN | apply below_drew1 | refine below_set ?_ GE238.out) | exact HB.out)⟩

end Go.Proofs.YtfpmompdgmklmaaDoor.P
