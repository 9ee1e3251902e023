/- HeadCases: the walk. -/
import Derived.Test.YtekmdbicobkffaaDoorP0
import Derived.Test.YtekmdbicobkffaaDoorP6
import Derived.Test.YtekmdbicobkffaaDoorP7
import Derived.Test.YtekmdbicobkffaaDoorP9
import Derived.Test.YtekmdbicobkffaaDoorP10
namespace Go.Proofs.YtekmdbicobkffaaDoor.P
attribute [-simp] List.length_drop List.length_take ByteArray.size_append
open Go.RowKit Go.Proofs.YtekmdbicobkffaaDoorW.PrintWords Go.Proofs.YtekmdbicobkffaaDoorW.PrintLast Go.Proofs.YtekmdbicobkffaaDoorW.PrintMore
attribute [local go_sem] max2_int min2_int max_two min_two max_three min_three max_four min_four   -- for this text's walks alone
set_option linter.unusedVariables false
set_option linter.unusedSimpArgs false

/-! ### colophonlaw06_HeadCases: function 8 -/
mutual
def colophonlaw06_HeadCases.j0 : Nat → List Int → Int → Int → Int → Int → List Int → Bool → Option (Bool)
  | 0, _, _, _, _, _, _, _ => none
  | k + 1, x1, x2, x3, x4, x7, x8, x31 => if x31 = true then (some false) else (if 16 ≤ (wrap64 ((x8.length : Int) - 4)) then (if (wrap64 ((x8.length : Int) - 4)) ≤ (x8.length : Int) then ((some ((x8.take ((wrap64 ((x8.length : Int) - 4)) : Int).toNat).drop 16 : List Int)).bind fun y336 => ((some (([(⟨#[]⟩ : ByteArray), (⟨#[32]⟩ : ByteArray), (⟨#[9]⟩ : ByteArray), (⟨#[32, 9, 32]⟩ : ByteArray)] : List ByteArray) : List ByteArray)).bind fun y341 => ((colophonlaw06_mixed.f k (⟨#[99, 111, 110, 116, 101, 110, 116, 45, 108, 101, 110, 103, 116, 104]⟩ : ByteArray) x2).bind fun t344 => (if t344.size + 1 ≤ 9223372036854775807 then ((colophonref00_Bring.f x3 4).bind fun t345 => (if 0 ≤ t345 then (if t345 < (y341.length : Int) then (if t344.size + 1 + (rdOf ByteArray.empty y341 t345).size ≤ 9223372036854775807 then (if t344.size + 1 + (rdOf ByteArray.empty y341 t345).size + 2 ≤ 9223372036854775807 then (if t344.size + 1 + (rdOf ByteArray.empty y341 t345).size + 2 + (strOfNums y336).size ≤ 9223372036854775807 then ((colophonref00_Bring.f x4 4).bind fun t347 => (if 0 ≤ t347 then (if t347 < (y341.length : Int) then (if t344.size + 1 + (rdOf ByteArray.empty y341 t345).size + 2 + (strOfNums y336).size + (rdOf ByteArray.empty y341 t347).size ≤ 9223372036854775807 then (if t344.size + 1 + (rdOf ByteArray.empty y341 t345).size + 2 + (strOfNums y336).size + (rdOf ByteArray.empty y341 t347).size + 2 ≤ 9223372036854775807 then ((colophonlaw06_letters.f k x1).bind fun t349 => (if 2 + t349.size ≤ 9223372036854775807 then (if 2 + t349.size + 2 ≤ 9223372036854775807 then ((colophonlaw06_letters.f k x1).bind fun t350 => (if 2 + t349.size + 2 + t350.size ≤ 9223372036854775807 then (if 2 + t349.size + 2 + t350.size + 2 ≤ 9223372036854775807 then (if t344.size + 1 + (rdOf ByteArray.empty y341 t345).size + 2 + (strOfNums y336).size + (rdOf ByteArray.empty y341 t347).size + 2 + 2 ≤ 9223372036854775807 then (if 2 + t349.size + 2 + t350.size + 2 + t344.size + 1 + (rdOf ByteArray.empty y341 t345).size + 2 + (strOfNums y336).size + (rdOf ByteArray.empty y341 t347).size + 2 ≤ 9223372036854775807 then (if 2 + t349.size + 2 + t350.size + 2 + t344.size + 1 + (rdOf ByteArray.empty y341 t345).size + 2 + (strOfNums y336).size + (rdOf ByteArray.empty y341 t347).size + 2 + 2 ≤ 9223372036854775807 then (if t344.size + 1 + (rdOf ByteArray.empty y341 t345).size + 2 + (strOfNums y336).size + (rdOf ByteArray.empty y341 t347).size + 2 + 2 + t349.size + 2 + t350.size + 2 ≤ 9223372036854775807 then (if t344.size + 1 + (rdOf ByteArray.empty y341 t345).size + 2 + (strOfNums y336).size + (rdOf ByteArray.empty y341 t347).size + 2 + 2 + t349.size + 2 + t350.size + 2 + 2 ≤ 9223372036854775807 then (if t344.size + 1 + (rdOf ByteArray.empty y341 t345).size + 2 + (strOfNums y336).size + (rdOf ByteArray.empty y341 t347).size + 2 + t344.size + 1 + (rdOf ByteArray.empty y341 t345).size + 2 + (strOfNums y336).size + (rdOf ByteArray.empty y341 t347).size + 2 ≤ 9223372036854775807 then (if t344.size + 1 + (rdOf ByteArray.empty y341 t345).size + 2 + (strOfNums y336).size + (rdOf ByteArray.empty y341 t347).size + 2 + t344.size + 1 + (rdOf ByteArray.empty y341 t345).size + 2 + (strOfNums y336).size + (rdOf ByteArray.empty y341 t347).size + 2 + 2 + t349.size + 2 + t350.size + 2 ≤ 9223372036854775807 then (if t344.size + 1 + (rdOf ByteArray.empty y341 t345).size + 2 + (strOfNums y336).size + (rdOf ByteArray.empty y341 t347).size + 2 + t344.size + 1 + (rdOf ByteArray.empty y341 t345).size + 2 + (strOfNums y336).size + (rdOf ByteArray.empty y341 t347).size + 2 + 2 + t349.size + 2 + t350.size + 2 + 2 ≤ 9223372036854775807 then (colophonlaw06_HeadCases.l0 k x7 (([((((((t344 ++ (⟨#[58]⟩ : ByteArray)) ++ (rdOf ByteArray.empty y341 t345)) ++ (⟨#[48, 48]⟩ : ByteArray)) ++ (strOfNums y336)) ++ (rdOf ByteArray.empty y341 t347)) ++ (⟨#[13, 10]⟩ : ByteArray)) ++ (⟨#[13, 10]⟩ : ByteArray), ((((((⟨#[120, 45]⟩ : ByteArray) ++ t349) ++ (⟨#[58, 32]⟩ : ByteArray)) ++ t350) ++ (⟨#[13, 10]⟩ : ByteArray)) ++ ((((((t344 ++ (⟨#[58]⟩ : ByteArray)) ++ (rdOf ByteArray.empty y341 t345)) ++ (⟨#[48, 48]⟩ : ByteArray)) ++ (strOfNums y336)) ++ (rdOf ByteArray.empty y341 t347)) ++ (⟨#[13, 10]⟩ : ByteArray))) ++ (⟨#[13, 10]⟩ : ByteArray), (((((((t344 ++ (⟨#[58]⟩ : ByteArray)) ++ (rdOf ByteArray.empty y341 t345)) ++ (⟨#[48, 48]⟩ : ByteArray)) ++ (strOfNums y336)) ++ (rdOf ByteArray.empty y341 t347)) ++ (⟨#[13, 10]⟩ : ByteArray)) ++ (((((⟨#[120, 45]⟩ : ByteArray) ++ t349) ++ (⟨#[58, 32]⟩ : ByteArray)) ++ t350) ++ (⟨#[13, 10]⟩ : ByteArray))) ++ (⟨#[13, 10]⟩ : ByteArray), ((((((((t344 ++ (⟨#[58]⟩ : ByteArray)) ++ (rdOf ByteArray.empty y341 t345)) ++ (⟨#[48, 48]⟩ : ByteArray)) ++ (strOfNums y336)) ++ (rdOf ByteArray.empty y341 t347)) ++ (⟨#[13, 10]⟩ : ByteArray)) ++ ((((((t344 ++ (⟨#[58]⟩ : ByteArray)) ++ (rdOf ByteArray.empty y341 t345)) ++ (⟨#[48, 48]⟩ : ByteArray)) ++ (strOfNums y336)) ++ (rdOf ByteArray.empty y341 t347)) ++ (⟨#[13, 10]⟩ : ByteArray))) ++ (((((⟨#[120, 45]⟩ : ByteArray) ++ t349) ++ (⟨#[58, 32]⟩ : ByteArray)) ++ t350) ++ (⟨#[13, 10]⟩ : ByteArray))) ++ (⟨#[13, 10]⟩ : ByteArray)] : List ByteArray)) 0) else (none)) else (none)) else (none)) else (none)) else (none)) else (none)) else (none)) else (none)) else (none)) else (none))) else (none)) else (none))) else (none)) else (none)) else (none)) else (none))) else (none)) else (none)) else (none)) else (none)) else (none))) else (none))))) else (none)) else (none))
def colophonlaw06_HeadCases.l0 : Nat → Int → List ByteArray → Int → Option (Bool)
  | 0, _, _, _ => none
  | k + 1, x7, x14, x15 => if x15 < (x14.length : Int) then (if 0 ≤ x15 then ((colophonlaw06_says.f k (rdOf ByteArray.empty x14 x15) x7 ((rdOf ByteArray.empty x14 x15).size : Int)).bind fun t356 => (if t356 = true then (colophonlaw06_HeadCases.l0 k x7 x14 (wrap64 (x15 + 1))) else (some false))) else (none)) else ((colophonlaw06_awake.f k).bind fun t357 => (some t357))
end
def colophonlaw06_HeadCases.f (k : Nat) (a0 : Int) (l1 : List Int) (a2 : Int) (a3 : Int) (a4 : Int) : Option (Bool) := (colophonlaw06_awake.f k).bind fun t330 => (if t330 = true then ((colophonref00_Bring.f a0 65537).bind fun t331 => ((head_Make.f t331).bind fun bt332 => (if bt332.2 = 0 then (colophonlaw06_HeadCases.j0 k l1 a2 a3 a4 t331 bt332.1 (decide ((bt332.1.length : Int) < 20))) else (colophonlaw06_HeadCases.j0 k l1 a2 a3 a4 t331 bt332.1 true)))) else (some false))
theorem colophonlaw06_HeadCases.mono_l : ∀ k, (∀ y0 y1 y2 y3 y4 y5 y6, LeO (colophonlaw06_HeadCases.j0 k y0 y1 y2 y3 y4 y5 y6) (colophonlaw06_HeadCases.j0 (k + 1) y0 y1 y2 y3 y4 y5 y6)) ∧ (∀ y0 y1 y2, LeO (colophonlaw06_HeadCases.l0 k y0 y1 y2) (colophonlaw06_HeadCases.l0 (k + 1) y0 y1 y2))
  | 0 => ⟨fun _ _ _ _ _ _ _ r h => by simp [colophonlaw06_HeadCases.j0] at h, fun _ _ _ r h => by simp [colophonlaw06_HeadCases.l0] at h⟩
  | k + 1 => by
    obtain ⟨ih0, ih1⟩ := colophonlaw06_HeadCases.mono_l k
    refine ⟨?_, ?_⟩
    · intro y0 y1 y2 y3 y4 y5 y6
      unfold colophonlaw06_HeadCases.j0
      repeat' first
      | (with_reducible exact ih0 _ _ _ _ _ _ _)
      | (with_reducible exact ih1 _ _ _)
      | (with_reducible exact colophonlaw06_awake.mono _)
      | (with_reducible exact colophonlaw06_letters.mono _ _)
      | (with_reducible exact colophonlaw06_mixed.mono _ _ _)
      | (with_reducible exact colophonlaw06_says.mono _ _ _ _)
      | (with_reducible exact LeO.refl _)
      | (with_reducible exact LeO.none _)
      | (with_reducible refine LeO.ite ?_ ?_)
      | (with_reducible refine LeO.bind ?_ (fun _ => ?_))
      | exact ih0 _ _ _ _ _ _ _
      | exact ih1 _ _ _
      | exact colophonlaw06_awake.mono _
      | exact colophonlaw06_letters.mono _ _
      | exact colophonlaw06_mixed.mono _ _ _
      | exact colophonlaw06_says.mono _ _ _ _
      | exact LeO.none _
      | refine LeO.ite ?_ ?_
      | refine LeO.bind ?_ (fun _ => ?_)
    · intro y0 y1 y2
      unfold colophonlaw06_HeadCases.l0
      repeat' first
      | (with_reducible exact ih0 _ _ _ _ _ _ _)
      | (with_reducible exact ih1 _ _ _)
      | (with_reducible exact colophonlaw06_awake.mono _)
      | (with_reducible exact colophonlaw06_letters.mono _ _)
      | (with_reducible exact colophonlaw06_mixed.mono _ _ _)
      | (with_reducible exact colophonlaw06_says.mono _ _ _ _)
      | (with_reducible exact LeO.refl _)
      | (with_reducible exact LeO.none _)
      | (with_reducible refine LeO.ite ?_ ?_)
      | (with_reducible refine LeO.bind ?_ (fun _ => ?_))
      | exact ih0 _ _ _ _ _ _ _
      | exact ih1 _ _ _
      | exact colophonlaw06_awake.mono _
      | exact colophonlaw06_letters.mono _ _
      | exact colophonlaw06_mixed.mono _ _ _
      | exact colophonlaw06_says.mono _ _ _ _
      | exact LeO.none _
      | refine LeO.ite ?_ ?_
      | refine LeO.bind ?_ (fun _ => ?_)
theorem colophonlaw06_HeadCases.mono : ∀ a0 a1 a2 a3 a4 k, LeO (colophonlaw06_HeadCases.f k a0 a1 a2 a3 a4) (colophonlaw06_HeadCases.f (k + 1) a0 a1 a2 a3 a4) := by
  intro a0 a1 a2 a3 a4 k
  obtain ⟨ih0, ih1⟩ := colophonlaw06_HeadCases.mono_l k
  unfold colophonlaw06_HeadCases.f
  repeat' first
      | (with_reducible exact ih0 _ _ _ _ _ _ _)
      | (with_reducible exact ih1 _ _ _)
      | (with_reducible exact colophonlaw06_awake.mono _)
      | (with_reducible exact colophonlaw06_letters.mono _ _)
      | (with_reducible exact colophonlaw06_mixed.mono _ _ _)
      | (with_reducible exact colophonlaw06_says.mono _ _ _ _)
      | (with_reducible exact LeO.refl _)
      | (with_reducible exact LeO.none _)
      | (with_reducible refine LeO.ite ?_ ?_)
      | (with_reducible refine LeO.bind ?_ (fun _ => ?_))
      | exact ih0 _ _ _ _ _ _ _
      | exact ih1 _ _ _
      | exact colophonlaw06_awake.mono _
      | exact colophonlaw06_letters.mono _ _
      | exact colophonlaw06_mixed.mono _ _ _
      | exact colophonlaw06_says.mono _ _ _ _
      | exact LeO.none _
      | refine LeO.ite ?_ ?_
      | refine LeO.bind ?_ (fun _ => ?_)
def colophonlaw06_HeadCases.T9 : Bool × List (List Nat × List Nat) := (true, [([], []), ([0], [0]), ([1], [1]), ([2], [2]), ([], []), ([], []), ([5], [5]), ([6, 2], [6]), ([4, 7], [4, 7]), ([8], [8]), ([3, 9], [3, 9]), ([10], [10]), ([], []), ([11, 12], [11, 12]), ([], []), ([], []), ([15], [15]), ([16, 7], [16]), ([14, 17], [14, 17]), ([18], [18]), ([13, 19], [13, 19]), ([20], [20]), ([21, 17, 0, 1, 2, 3, 4, 5, 6, 7, 8, 9, 10, 11, 12, 13, 14, 15, 16, 17, 18, 19, 20, 21], [21])])
def colophonlaw06_HeadCases.B9 : List Nat := [0, 1, 3, 7, 0, 0, 32, 103, 247, 503, 1023, 2047, 0, 8191, 0, 0, 32768, 98535, 245991, 508135, 1048575, 2097151, 4194303]
theorem colophonlaw06_HeadCases.tab9 : rtab .any (opsOf Tryd.f8 9) = colophonlaw06_HeadCases.T9 := by kernel_rfl
theorem colophonlaw06_HeadCases.bits9 : waitsOk colophonlaw06_HeadCases.T9.2 colophonlaw06_HeadCases.B9 = true := by kernel_rfl
def colophonlaw06_HeadCases.T15 : Bool × List (List Nat × List Nat) := (true, [([], []), ([], []), ([0, 1], [0, 1]), ([2], [2]), ([], []), ([], []), ([], []), ([5, 6], [5, 6]), ([7], [7]), ([8], [8]), ([3, 4, 9], [3, 4, 9]), ([10], [10])])
def colophonlaw06_HeadCases.B15 : List Nat := [0, 0, 3, 7, 0, 0, 0, 96, 224, 480, 1023, 2047]
theorem colophonlaw06_HeadCases.tab15 : rtab .any (opsOf Tryd.f8 15) = colophonlaw06_HeadCases.T15 := by kernel_rfl
theorem colophonlaw06_HeadCases.bits15 : waitsOk colophonlaw06_HeadCases.T15.2 colophonlaw06_HeadCases.B15 = true := by kernel_rfl
set_option maxHeartbeats 8000000 in
set_option maxRecDepth 100000 in
theorem colophonlaw06_HeadCases.calls (k : Nat) (a0 : Int) (A1 : Option Addr) (c1 : Nat) (l1 : List Int) (a2 : Int) (a3 : Int) (a4 : Int) (r : Bool) (wS : World) (hr1S : Kd.C (Kd.int .u8) wS A1 l1.length l1) (hc1 : l1.length ≤ c1) (hTS : TAB2 wS) (h : colophonlaw06_HeadCases.f k a0 l1 a2 a3 a4 = some r) :
    Calls Tryd.prog 8 #[.int .i64 a0, .slice A1 l1.length c1, .agg #[.int .i64 a2, .int .i64 a3, .int .i64 a4]] wS fun e w' => e = .returned (.bool r) ∧ Below wS.heap.size wS w' := by
  have hB0 := below_alloc (Below.refl wS.heap.size wS) (.cells #[.int .i64 a2, .int .i64 a3, .int .i64 a4] 38)
  have hbk := heap_alloc_new wS (.cells #[.int .i64 a2, .int .i64 a3, .int .i64 a4] 38)
  have HQ0 := Aside0.mk (show (wS.alloc (.cells #[.int .i64 a2, .int .i64 a3, .int .i64 a4] 38)).cell? ⟨wS.heap.size, 0, none⟩ = some (.int .i64 a2) from blk_cell hbk 0)
  have HQ1 := Aside0.mk (show (wS.alloc (.cells #[.int .i64 a2, .int .i64 a3, .int .i64 a4] 38)).cell? ⟨wS.heap.size, 1, none⟩ = some (.int .i64 a3) from blk_cell hbk 1)
  have HQ2 := Aside0.mk (show (wS.alloc (.cells #[.int .i64 a2, .int .i64 a3, .int .i64 a4] 38)).cell? ⟨wS.heap.size, 2, none⟩ = some (.int .i64 a4) from blk_cell hbk 2)
  have hr1 := Kd.C_below hr1S hB0
  have hT := TAB2.below hTS hB0
  have HB0 := Aside0.mk hB0
  clear hr1S hTS hB0 hbk
  go_enter Tryd.func8, Tryd.ntmps8
  go_upto_region 1 with (fail)
  generalize wS.alloc (.cells #[.int .i64 a2, .int .i64 a3, .int .i64 a4] 38) = w at HQ0 HQ1 HQ2 hr1 hT HB0 ⊢
  obtain ⟨gq, hgq⟩ : ∃ gq, wS.heap.size = gq := ⟨_, rfl⟩
  rw [hgq] at HQ0 HQ1 HQ2
  have HGQ := Aside0.mk hgq
  simp only [hgq]
  clear hgq
  have HR1 := Aside0.mk hr1
  have HC1 := Aside0.mk hc1
  clear hr1 hc1
  have HT := Aside0.mk hT
  clear hT
  have HB := Aside0.mk (Below.refl w.heap.size w)
  have H : ((colophonlaw06_awake.f k).bind fun t330 => (if t330 = true then ((colophonref00_Bring.f a0 65537).bind fun t331 => ((head_Make.f t331).bind fun bt332 => (if bt332.2 = 0 then (colophonlaw06_HeadCases.j0 k l1 a2 a3 a4 t331 bt332.1 (decide ((bt332.1.length : Int) < 20))) else (colophonlaw06_HeadCases.j0 k l1 a2 a3 a4 t331 bt332.1 true)))) else (some false))) = some r := h
  clear h
  replace H := Option.bind_eq_some_iff.mp H
  obtain ⟨t330, A60, H⟩ := H
  replace H : (if t330 = true then ((colophonref00_Bring.f a0 65537).bind fun t331 => ((head_Make.f t331).bind fun bt332 => (if bt332.2 = 0 then (colophonlaw06_HeadCases.j0 k l1 a2 a3 a4 t331 bt332.1 (decide ((bt332.1.length : Int) < 20))) else (colophonlaw06_HeadCases.j0 k l1 a2 a3 a4 t331 bt332.1 true)))) else (some false)) = some r := H
  have A6 := Aside0.mk A60
  clear A60
  by_cases c7 : t330 = true
  · subst c7
    have H1 : ((colophonref00_Bring.f a0 65537).bind fun t331 => ((head_Make.f t331).bind fun bt332 => (if bt332.2 = 0 then (colophonlaw06_HeadCases.j0 k l1 a2 a3 a4 t331 bt332.1 (decide ((bt332.1.length : Int) < 20))) else (colophonlaw06_HeadCases.j0 k l1 a2 a3 a4 t331 bt332.1 true)))) = some r := by rw [if_pos rfl] at H; exact H
    clear H
    have H := H1
    clear H1
    replace H := Option.bind_eq_some_iff.mp H
    obtain ⟨t331, A80, H⟩ := H
    replace H : ((head_Make.f t331).bind fun bt332 => (if bt332.2 = 0 then (colophonlaw06_HeadCases.j0 k l1 a2 a3 a4 t331 bt332.1 (decide ((bt332.1.length : Int) < 20))) else (colophonlaw06_HeadCases.j0 k l1 a2 a3 a4 t331 bt332.1 true))) = some r := H
    have A8 := Aside0.mk A80
    clear A80
    replace H := Option.bind_eq_some_iff.mp H
    obtain ⟨⟨t332, t335⟩, A90, H⟩ := H
    replace H : (if t335 = 0 then (colophonlaw06_HeadCases.j0 k l1 a2 a3 a4 t331 t332 (decide ((t332.length : Int) < 20))) else (colophonlaw06_HeadCases.j0 k l1 a2 a3 a4 t331 t332 true)) = some r := H
    have A9 := Aside0.mk A90
    clear A90
    have HC10 := Aside0.mk H
    clear H
    go_upto_region 5 with (first | ((with_reducible refine gate_callee (f := 15) rfl ?_); refine goesL_ (some 16) rfl rfl Tryd.func15 (by kernel_rfl) rfl #[] rfl (by (try simp only [List.map_toArray, List.map_cons, List.map_nil]); first | done | rfl | (simp only [List.length_drop, List.length_take]; rfl)) ?_; (with_reducible refine (colophonlaw06_awake.calls k  true _ ?side1 A6.out).mono ?_); (case side1 => exact TAB.below HT.out.tab (by repeat (first | (with_reducible first | exact HB.out | apply below_alloc | apply pw_below_drewN | apply below_drew1) | exact HB.out))); rintro e w11 ⟨rfl, hb⟩; refine ⟨_, rfl, ?_⟩; have n0_ := Aside0.mk (below_step (by repeat (first | (with_reducible first | exact HB.out | apply below_alloc | apply pw_below_drewN | apply below_drew1) | exact HB.out)) hb); clear HB; have HB := n0_; clear n0_; (try clear hb); (try clear hb2); (try clear hk); (try clear hi)) | ((with_reducible refine gate_callee (f := 16) rfl ?_); refine goesL_ (some 19) rfl rfl Tryd.func16 (by kernel_rfl) rfl #[.int .i64 a0, .int .i64 65537] rfl (by (try simp only [List.map_toArray, List.map_cons, List.map_nil]); first | done | rfl | (simp only [List.length_drop, List.length_take]; rfl)) ?_; (with_reducible refine (colophonref00_Bring.calls a0 65537 t331 _ A8.out).mono ?_); rintro e w' ⟨rfl, ⟨nd, rfl⟩⟩; refine ⟨_, rfl, ?_⟩) | ((with_reducible refine gate_callee (f := 19) rfl ?_); refine goesL_ (some 22) rfl rfl Tryd.func19 (by kernel_rfl) rfl #[.int .i64 t331] rfl (by (try simp only [List.map_toArray, List.map_cons, List.map_nil]); first | done | rfl | (simp only [List.length_drop, List.length_take]; rfl)) ?_; (with_reducible refine (head_Make.calls t331 t332 t335 _ ?side1 A9.out).mono ?_); (case side1 => exact TAB2.below HT.out (by repeat (first | (with_reducible first | exact HB.out | apply below_alloc | apply pw_below_drewN | apply below_drew1) | exact HB.out))); rintro e w12 ⟨v333, rfl, ho0, hb⟩; refine ⟨_, rfl, ?_⟩; have n0_ := Aside0.mk (Kd.V_lower (Kd.V_mono (ok' := fun k_ => True) ho0 (fun k_ hk_ => trivial)) (below_size (by repeat (first | (with_reducible first | exact HB.out | apply below_alloc | apply pw_below_drewN | apply below_drew1) | exact HB.out)))); have n1_ := Aside0.mk (below_step (by repeat (first | (with_reducible first | exact HB.out | apply below_alloc | apply pw_below_drewN | apply below_drew1) | exact HB.out)) hb); clear HB; have HO334 := n0_; have HB := n1_; clear n0_ n1_; (try clear hb); (try clear hb2); (try clear hk); (try clear hi); (try clear ho0)))
    (try simp only [Act.put, List.setIfInBounds_toArray, List.set_cons_zero, List.set_cons_succ])
    go_cut [31] (fun v31 wc => ∃ (kq : Nat) (x31_9 : Bool), v31 = .bool x31_9 ∧ Aside0 (colophonlaw06_HeadCases.j0 kq l1 a2 a3 a4 t331 t332 x31_9 = some r) ∧ Aside0 (kq ≤ k) ∧ Aside0 (Kd.V (Kd.int .u8) 5 wc w.heap.size (fun _ => True) v333 t332) ∧ Aside0 (Below w.heap.size w wc))
    case first =>
      have H := HC10.out
      clear HC10
      by_cases c13 : t335 = 0
      · rw [if_pos c13] at H
        have c13b0 : (t335 == 0) = true := beq_iff_eq.mpr c13
        have c13b1 : (t335 != 0) = false := bne_eq_false_iff_eq.mpr c13
        clear c13
        (first | rw [c13b0] | (simp only [i64_w, i32_w]; rw [c13b0]) | skip)
        have H' := Aside0.mk H
        clear H
        obtain ⟨Ao14, co14, eo14⟩ := Kd.V_slice HO334.out
        subst eo14
        go_wp2
        go_meet
        case rel => exact ⟨_, (decide ((t332.length : Int) < 20)), (by first | rfl | (simp; done) | (simp [*]; done)), H', ⟨by first | omega | exact Nat.le_refl _⟩, ⟨by (with_reducible repeat (first | apply Kd.V_alloc | apply Kd.V_drewN | apply Kd.V_drew)); exact HO334.out⟩, ⟨by repeat (first | (with_reducible first | exact HB.out | apply below_alloc | apply pw_below_drewN | apply below_drew1) | exact HB.out)⟩⟩
      · rw [if_neg c13] at H
        have c13b0 : (t335 == 0) = false := beq_eq_false_iff_ne.mpr c13
        have c13b1 : (t335 != 0) = true := bne_iff_ne.mpr c13
        (first | rw [c13b0] | (simp only [i64_w, i32_w]; rw [c13b0]) | skip)
        have H' := Aside0.mk H
        clear H
        go_wp2
        go_meet
        case rel => exact ⟨_, (true), (by first | rfl | (simp; done) | (simp [*]; done)), H', ⟨by first | omega | exact Nat.le_refl _⟩, ⟨by (with_reducible repeat (first | apply Kd.V_alloc | apply Kd.V_drewN | apply Kd.V_drew)); exact HO334.out⟩, ⟨by repeat (first | (with_reducible first | exact HB.out | apply below_alloc | apply pw_below_drewN | apply below_drew1) | exact HB.out)⟩⟩
    case rest =>
      clear HC10
      try clear c1
      try clear p2
      try clear c7
      try clear c8
      try clear c13
      try clear c13b0
      try clear c13b1
      obtain ⟨kq, x31_9, rfl, HA, HJ9, HO_8, HB⟩ := hcut
      cases kq with
      | zero => exact absurd HA.out (by simp [colophonlaw06_HeadCases.j0])
      | succ kj9 =>
        have H := HA.out
        clear HA
        simp only [colophonlaw06_HeadCases.j0] at H
        by_cases c15 : x31_9 = true
        · subst c15
          have H1 : (some false) = some r := by rw [if_pos rfl] at H; exact H
          clear H
          have H := H1
          clear H1
          obtain rfl := Option.some.inj H
          go_wp2
          go_ret
          exact ⟨by first | rfl | (simp [errW_none, errW_some] <;> rfl) | (simp [errW_none, errW_some] <;> decide +kernel) | (simp [*, errW_none, errW_some] <;> rfl), below_step HB0.out (by repeat (first | (with_reducible first | exact HB.out | apply below_alloc | apply pw_below_drewN | apply below_drew1) | exact HB.out))⟩
        · replace c15 := Bool.eq_false_iff.mpr c15
          subst c15
          have H1 : (if 16 ≤ (wrap64 ((t332.length : Int) - 4)) then (if (wrap64 ((t332.length : Int) - 4)) ≤ (t332.length : Int) then ((some ((t332.take ((wrap64 ((t332.length : Int) - 4)) : Int).toNat).drop 16 : List Int)).bind fun y336 => ((some (([(⟨#[]⟩ : ByteArray), (⟨#[32]⟩ : ByteArray), (⟨#[9]⟩ : ByteArray), (⟨#[32, 9, 32]⟩ : ByteArray)] : List ByteArray) : List ByteArray)).bind fun y341 => ((colophonlaw06_mixed.f kj9 (⟨#[99, 111, 110, 116, 101, 110, 116, 45, 108, 101, 110, 103, 116, 104]⟩ : ByteArray) a2).bind fun t344 => (if t344.size + 1 ≤ 9223372036854775807 then ((colophonref00_Bring.f a3 4).bind fun t345 => (if 0 ≤ t345 then (if t345 < (y341.length : Int) then (if t344.size + 1 + (rdOf ByteArray.empty y341 t345).size ≤ 9223372036854775807 then (if t344.size + 1 + (rdOf ByteArray.empty y341 t345).size + 2 ≤ 9223372036854775807 then (if t344.size + 1 + (rdOf ByteArray.empty y341 t345).size + 2 + (strOfNums y336).size ≤ 9223372036854775807 then ((colophonref00_Bring.f a4 4).bind fun t347 => (if 0 ≤ t347 then (if t347 < (y341.length : Int) then (if t344.size + 1 + (rdOf ByteArray.empty y341 t345).size + 2 + (strOfNums y336).size + (rdOf ByteArray.empty y341 t347).size ≤ 9223372036854775807 then (if t344.size + 1 + (rdOf ByteArray.empty y341 t345).size + 2 + (strOfNums y336).size + (rdOf ByteArray.empty y341 t347).size + 2 ≤ 9223372036854775807 then ((colophonlaw06_letters.f kj9 l1).bind fun t349 => (if 2 + t349.size ≤ 9223372036854775807 then (if 2 + t349.size + 2 ≤ 9223372036854775807 then ((colophonlaw06_letters.f kj9 l1).bind fun t350 => (if 2 + t349.size + 2 + t350.size ≤ 9223372036854775807 then (if 2 + t349.size + 2 + t350.size + 2 ≤ 9223372036854775807 then (if t344.size + 1 + (rdOf ByteArray.empty y341 t345).size + 2 + (strOfNums y336).size + (rdOf ByteArray.empty y341 t347).size + 2 + 2 ≤ 9223372036854775807 then (if 2 + t349.size + 2 + t350.size + 2 + t344.size + 1 + (rdOf ByteArray.empty y341 t345).size + 2 + (strOfNums y336).size + (rdOf ByteArray.empty y341 t347).size + 2 ≤ 9223372036854775807 then (if 2 + t349.size + 2 + t350.size + 2 + t344.size + 1 + (rdOf ByteArray.empty y341 t345).size + 2 + (strOfNums y336).size + (rdOf ByteArray.empty y341 t347).size + 2 + 2 ≤ 9223372036854775807 then (if t344.size + 1 + (rdOf ByteArray.empty y341 t345).size + 2 + (strOfNums y336).size + (rdOf ByteArray.empty y341 t347).size + 2 + 2 + t349.size + 2 + t350.size + 2 ≤ 9223372036854775807 then (if t344.size + 1 + (rdOf ByteArray.empty y341 t345).size + 2 + (strOfNums y336).size + (rdOf ByteArray.empty y341 t347).size + 2 + 2 + t349.size + 2 + t350.size + 2 + 2 ≤ 9223372036854775807 then (if t344.size + 1 + (rdOf ByteArray.empty y341 t345).size + 2 + (strOfNums y336).size + (rdOf ByteArray.empty y341 t347).size + 2 + t344.size + 1 + (rdOf ByteArray.empty y341 t345).size + 2 + (strOfNums y336).size + (rdOf ByteArray.empty y341 t347).size + 2 ≤ 9223372036854775807 then (if t344.size + 1 + (rdOf ByteArray.empty y341 t345).size + 2 + (strOfNums y336).size + (rdOf ByteArray.empty y341 t347).size + 2 + t344.size + 1 + (rdOf ByteArray.empty y341 t345).size + 2 + (strOfNums y336).size + (rdOf ByteArray.empty y341 t347).size + 2 + 2 + t349.size + 2 + t350.size + 2 ≤ 9223372036854775807 then (if t344.size + 1 + (rdOf ByteArray.empty y341 t345).size + 2 + (strOfNums y336).size + (rdOf ByteArray.empty y341 t347).size + 2 + t344.size + 1 + (rdOf ByteArray.empty y341 t345).size + 2 + (strOfNums y336).size + (rdOf ByteArray.empty y341 t347).size + 2 + 2 + t349.size + 2 + t350.size + 2 + 2 ≤ 9223372036854775807 then (colophonlaw06_HeadCases.l0 kj9 t331 (([((((((t344 ++ (⟨#[58]⟩ : ByteArray)) ++ (rdOf ByteArray.empty y341 t345)) ++ (⟨#[48, 48]⟩ : ByteArray)) ++ (strOfNums y336)) ++ (rdOf ByteArray.empty y341 t347)) ++ (⟨#[13, 10]⟩ : ByteArray)) ++ (⟨#[13, 10]⟩ : ByteArray), ((((((⟨#[120, 45]⟩ : ByteArray) ++ t349) ++ (⟨#[58, 32]⟩ : ByteArray)) ++ t350) ++ (⟨#[13, 10]⟩ : ByteArray)) ++ ((((((t344 ++ (⟨#[58]⟩ : ByteArray)) ++ (rdOf ByteArray.empty y341 t345)) ++ (⟨#[48, 48]⟩ : ByteArray)) ++ (strOfNums y336)) ++ (rdOf ByteArray.empty y341 t347)) ++ (⟨#[13, 10]⟩ : ByteArray))) ++ (⟨#[13, 10]⟩ : ByteArray), (((((((t344 ++ (⟨#[58]⟩ : ByteArray)) ++ (rdOf ByteArray.empty y341 t345)) ++ (⟨#[48, 48]⟩ : ByteArray)) ++ (strOfNums y336)) ++ (rdOf ByteArray.empty y341 t347)) ++ (⟨#[13, 10]⟩ : ByteArray)) ++ (((((⟨#[120, 45]⟩ : ByteArray) ++ t349) ++ (⟨#[58, 32]⟩ : ByteArray)) ++ t350) ++ (⟨#[13, 10]⟩ : ByteArray))) ++ (⟨#[13, 10]⟩ : ByteArray), ((((((((t344 ++ (⟨#[58]⟩ : ByteArray)) ++ (rdOf ByteArray.empty y341 t345)) ++ (⟨#[48, 48]⟩ : ByteArray)) ++ (strOfNums y336)) ++ (rdOf ByteArray.empty y341 t347)) ++ (⟨#[13, 10]⟩ : ByteArray)) ++ ((((((t344 ++ (⟨#[58]⟩ : ByteArray)) ++ (rdOf ByteArray.empty y341 t345)) ++ (⟨#[48, 48]⟩ : ByteArray)) ++ (strOfNums y336)) ++ (rdOf ByteArray.empty y341 t347)) ++ (⟨#[13, 10]⟩ : ByteArray))) ++ (((((⟨#[120, 45]⟩ : ByteArray) ++ t349) ++ (⟨#[58, 32]⟩ : ByteArray)) ++ t350) ++ (⟨#[13, 10]⟩ : ByteArray))) ++ (⟨#[13, 10]⟩ : ByteArray)] : List ByteArray)) 0) else (none)) else (none)) else (none)) else (none)) else (none)) else (none)) else (none)) else (none)) else (none)) else (none))) else (none)) else (none))) else (none)) else (none)) else (none)) else (none))) else (none)) else (none)) else (none)) else (none)) else (none))) else (none))))) else (none)) else (none)) = some r := by rw [if_neg (show ¬ (false = true) by decide)] at H; exact H
          clear H
          have H := H1
          clear H1
          by_cases c16 : 16 ≤ (wrap64 ((t332.length : Int) - 4))
          · rw [if_pos c16] at H
            have c16b0 := eq_true c16
            have c16b1 : decide (16 ≤ (wrap64 ((t332.length : Int) - 4))) = true := decide_eq_true c16
            clear c16
            by_cases c17 : (wrap64 ((t332.length : Int) - 4)) ≤ (t332.length : Int)
            · rw [if_pos c17] at H
              have c17b0 := eq_true c17
              have c17b1 : decide ((wrap64 ((t332.length : Int) - 4)) ≤ (t332.length : Int)) = true := decide_eq_true c17
              clear c17
              obtain ⟨y336, hy336⟩ : ∃ y_ : List Int, y_ = ((t332.take ((wrap64 ((t332.length : Int) - 4)) : Int).toNat).drop 16) := ⟨_, rfl⟩
              replace H : ((some (([(⟨#[]⟩ : ByteArray), (⟨#[32]⟩ : ByteArray), (⟨#[9]⟩ : ByteArray), (⟨#[32, 9, 32]⟩ : ByteArray)] : List ByteArray) : List ByteArray)).bind fun y341 => ((colophonlaw06_mixed.f kj9 (⟨#[99, 111, 110, 116, 101, 110, 116, 45, 108, 101, 110, 103, 116, 104]⟩ : ByteArray) a2).bind fun t344 => (if t344.size + 1 ≤ 9223372036854775807 then ((colophonref00_Bring.f a3 4).bind fun t345 => (if 0 ≤ t345 then (if t345 < (y341.length : Int) then (if t344.size + 1 + (rdOf ByteArray.empty y341 t345).size ≤ 9223372036854775807 then (if t344.size + 1 + (rdOf ByteArray.empty y341 t345).size + 2 ≤ 9223372036854775807 then (if t344.size + 1 + (rdOf ByteArray.empty y341 t345).size + 2 + (strOfNums y336).size ≤ 9223372036854775807 then ((colophonref00_Bring.f a4 4).bind fun t347 => (if 0 ≤ t347 then (if t347 < (y341.length : Int) then (if t344.size + 1 + (rdOf ByteArray.empty y341 t345).size + 2 + (strOfNums y336).size + (rdOf ByteArray.empty y341 t347).size ≤ 9223372036854775807 then (if t344.size + 1 + (rdOf ByteArray.empty y341 t345).size + 2 + (strOfNums y336).size + (rdOf ByteArray.empty y341 t347).size + 2 ≤ 9223372036854775807 then ((colophonlaw06_letters.f kj9 l1).bind fun t349 => (if 2 + t349.size ≤ 9223372036854775807 then (if 2 + t349.size + 2 ≤ 9223372036854775807 then ((colophonlaw06_letters.f kj9 l1).bind fun t350 => (if 2 + t349.size + 2 + t350.size ≤ 9223372036854775807 then (if 2 + t349.size + 2 + t350.size + 2 ≤ 9223372036854775807 then (if t344.size + 1 + (rdOf ByteArray.empty y341 t345).size + 2 + (strOfNums y336).size + (rdOf ByteArray.empty y341 t347).size + 2 + 2 ≤ 9223372036854775807 then (if 2 + t349.size + 2 + t350.size + 2 + t344.size + 1 + (rdOf ByteArray.empty y341 t345).size + 2 + (strOfNums y336).size + (rdOf ByteArray.empty y341 t347).size + 2 ≤ 9223372036854775807 then (if 2 + t349.size + 2 + t350.size + 2 + t344.size + 1 + (rdOf ByteArray.empty y341 t345).size + 2 + (strOfNums y336).size + (rdOf ByteArray.empty y341 t347).size + 2 + 2 ≤ 9223372036854775807 then (if t344.size + 1 + (rdOf ByteArray.empty y341 t345).size + 2 + (strOfNums y336).size + (rdOf ByteArray.empty y341 t347).size + 2 + 2 + t349.size + 2 + t350.size + 2 ≤ 9223372036854775807 then (if t344.size + 1 + (rdOf ByteArray.empty y341 t345).size + 2 + (strOfNums y336).size + (rdOf ByteArray.empty y341 t347).size + 2 + 2 + t349.size + 2 + t350.size + 2 + 2 ≤ 9223372036854775807 then (if t344.size + 1 + (rdOf ByteArray.empty y341 t345).size + 2 + (strOfNums y336).size + (rdOf ByteArray.empty y341 t347).size + 2 + t344.size + 1 + (rdOf ByteArray.empty y341 t345).size + 2 + (strOfNums y336).size + (rdOf ByteArray.empty y341 t347).size + 2 ≤ 9223372036854775807 then (if t344.size + 1 + (rdOf ByteArray.empty y341 t345).size + 2 + (strOfNums y336).size + (rdOf ByteArray.empty y341 t347).size + 2 + t344.size + 1 + (rdOf ByteArray.empty y341 t345).size + 2 + (strOfNums y336).size + (rdOf ByteArray.empty y341 t347).size + 2 + 2 + t349.size + 2 + t350.size + 2 ≤ 9223372036854775807 then (if t344.size + 1 + (rdOf ByteArray.empty y341 t345).size + 2 + (strOfNums y336).size + (rdOf ByteArray.empty y341 t347).size + 2 + t344.size + 1 + (rdOf ByteArray.empty y341 t345).size + 2 + (strOfNums y336).size + (rdOf ByteArray.empty y341 t347).size + 2 + 2 + t349.size + 2 + t350.size + 2 + 2 ≤ 9223372036854775807 then (colophonlaw06_HeadCases.l0 kj9 t331 (([((((((t344 ++ (⟨#[58]⟩ : ByteArray)) ++ (rdOf ByteArray.empty y341 t345)) ++ (⟨#[48, 48]⟩ : ByteArray)) ++ (strOfNums y336)) ++ (rdOf ByteArray.empty y341 t347)) ++ (⟨#[13, 10]⟩ : ByteArray)) ++ (⟨#[13, 10]⟩ : ByteArray), ((((((⟨#[120, 45]⟩ : ByteArray) ++ t349) ++ (⟨#[58, 32]⟩ : ByteArray)) ++ t350) ++ (⟨#[13, 10]⟩ : ByteArray)) ++ ((((((t344 ++ (⟨#[58]⟩ : ByteArray)) ++ (rdOf ByteArray.empty y341 t345)) ++ (⟨#[48, 48]⟩ : ByteArray)) ++ (strOfNums y336)) ++ (rdOf ByteArray.empty y341 t347)) ++ (⟨#[13, 10]⟩ : ByteArray))) ++ (⟨#[13, 10]⟩ : ByteArray), (((((((t344 ++ (⟨#[58]⟩ : ByteArray)) ++ (rdOf ByteArray.empty y341 t345)) ++ (⟨#[48, 48]⟩ : ByteArray)) ++ (strOfNums y336)) ++ (rdOf ByteArray.empty y341 t347)) ++ (⟨#[13, 10]⟩ : ByteArray)) ++ (((((⟨#[120, 45]⟩ : ByteArray) ++ t349) ++ (⟨#[58, 32]⟩ : ByteArray)) ++ t350) ++ (⟨#[13, 10]⟩ : ByteArray))) ++ (⟨#[13, 10]⟩ : ByteArray), ((((((((t344 ++ (⟨#[58]⟩ : ByteArray)) ++ (rdOf ByteArray.empty y341 t345)) ++ (⟨#[48, 48]⟩ : ByteArray)) ++ (strOfNums y336)) ++ (rdOf ByteArray.empty y341 t347)) ++ (⟨#[13, 10]⟩ : ByteArray)) ++ ((((((t344 ++ (⟨#[58]⟩ : ByteArray)) ++ (rdOf ByteArray.empty y341 t345)) ++ (⟨#[48, 48]⟩ : ByteArray)) ++ (strOfNums y336)) ++ (rdOf ByteArray.empty y341 t347)) ++ (⟨#[13, 10]⟩ : ByteArray))) ++ (((((⟨#[120, 45]⟩ : ByteArray) ++ t349) ++ (⟨#[58, 32]⟩ : ByteArray)) ++ t350) ++ (⟨#[13, 10]⟩ : ByteArray))) ++ (⟨#[13, 10]⟩ : ByteArray)] : List ByteArray)) 0) else (none)) else (none)) else (none)) else (none)) else (none)) else (none)) else (none)) else (none)) else (none)) else (none))) else (none)) else (none))) else (none)) else (none)) else (none)) else (none))) else (none)) else (none)) else (none)) else (none)) else (none))) else (none)))) = some r := by first | (rw [hy336]; with_reducible exact H) | (have H2_ := (Option.bind_some _ _).symm.trans H; rw [hy336]; with_reducible exact H2_) | (have H2_ := (Option.bind_some _ _).symm.trans H; with_reducible exact H2_) | with_reducible exact H | (rw [hy336]; exact H) | exact H
              have Ny336 := Aside0.mk hy336
              clear hy336
              obtain ⟨y341, hy341⟩ : ∃ y_ : List ByteArray, y_ = (([(⟨#[]⟩ : ByteArray), (⟨#[32]⟩ : ByteArray), (⟨#[9]⟩ : ByteArray), (⟨#[32, 9, 32]⟩ : ByteArray)] : List ByteArray)) := ⟨_, rfl⟩
              replace H : ((colophonlaw06_mixed.f kj9 (⟨#[99, 111, 110, 116, 101, 110, 116, 45, 108, 101, 110, 103, 116, 104]⟩ : ByteArray) a2).bind fun t344 => (if t344.size + 1 ≤ 9223372036854775807 then ((colophonref00_Bring.f a3 4).bind fun t345 => (if 0 ≤ t345 then (if t345 < (y341.length : Int) then (if t344.size + 1 + (rdOf ByteArray.empty y341 t345).size ≤ 9223372036854775807 then (if t344.size + 1 + (rdOf ByteArray.empty y341 t345).size + 2 ≤ 9223372036854775807 then (if t344.size + 1 + (rdOf ByteArray.empty y341 t345).size + 2 + (strOfNums y336).size ≤ 9223372036854775807 then ((colophonref00_Bring.f a4 4).bind fun t347 => (if 0 ≤ t347 then (if t347 < (y341.length : Int) then (if t344.size + 1 + (rdOf ByteArray.empty y341 t345).size + 2 + (strOfNums y336).size + (rdOf ByteArray.empty y341 t347).size ≤ 9223372036854775807 then (if t344.size + 1 + (rdOf ByteArray.empty y341 t345).size + 2 + (strOfNums y336).size + (rdOf ByteArray.empty y341 t347).size + 2 ≤ 9223372036854775807 then ((colophonlaw06_letters.f kj9 l1).bind fun t349 => (if 2 + t349.size ≤ 9223372036854775807 then (if 2 + t349.size + 2 ≤ 9223372036854775807 then ((colophonlaw06_letters.f kj9 l1).bind fun t350 => (if 2 + t349.size + 2 + t350.size ≤ 9223372036854775807 then (if 2 + t349.size + 2 + t350.size + 2 ≤ 9223372036854775807 then (if t344.size + 1 + (rdOf ByteArray.empty y341 t345).size + 2 + (strOfNums y336).size + (rdOf ByteArray.empty y341 t347).size + 2 + 2 ≤ 9223372036854775807 then (if 2 + t349.size + 2 + t350.size + 2 + t344.size + 1 + (rdOf ByteArray.empty y341 t345).size + 2 + (strOfNums y336).size + (rdOf ByteArray.empty y341 t347).size + 2 ≤ 9223372036854775807 then (if 2 + t349.size + 2 + t350.size + 2 + t344.size + 1 + (rdOf ByteArray.empty y341 t345).size + 2 + (strOfNums y336).size + (rdOf ByteArray.empty y341 t347).size + 2 + 2 ≤ 9223372036854775807 then (if t344.size + 1 + (rdOf ByteArray.empty y341 t345).size + 2 + (strOfNums y336).size + (rdOf ByteArray.empty y341 t347).size + 2 + 2 + t349.size + 2 + t350.size + 2 ≤ 9223372036854775807 then (if t344.size + 1 + (rdOf ByteArray.empty y341 t345).size + 2 + (strOfNums y336).size + (rdOf ByteArray.empty y341 t347).size + 2 + 2 + t349.size + 2 + t350.size + 2 + 2 ≤ 9223372036854775807 then (if t344.size + 1 + (rdOf ByteArray.empty y341 t345).size + 2 + (strOfNums y336).size + (rdOf ByteArray.empty y341 t347).size + 2 + t344.size + 1 + (rdOf ByteArray.empty y341 t345).size + 2 + (strOfNums y336).size + (rdOf ByteArray.empty y341 t347).size + 2 ≤ 9223372036854775807 then (if t344.size + 1 + (rdOf ByteArray.empty y341 t345).size + 2 + (strOfNums y336).size + (rdOf ByteArray.empty y341 t347).size + 2 + t344.size + 1 + (rdOf ByteArray.empty y341 t345).size + 2 + (strOfNums y336).size + (rdOf ByteArray.empty y341 t347).size + 2 + 2 + t349.size + 2 + t350.size + 2 ≤ 9223372036854775807 then (if t344.size + 1 + (rdOf ByteArray.empty y341 t345).size + 2 + (strOfNums y336).size + (rdOf ByteArray.empty y341 t347).size + 2 + t344.size + 1 + (rdOf ByteArray.empty y341 t345).size + 2 + (strOfNums y336).size + (rdOf ByteArray.empty y341 t347).size + 2 + 2 + t349.size + 2 + t350.size + 2 + 2 ≤ 9223372036854775807 then (colophonlaw06_HeadCases.l0 kj9 t331 (([((((((t344 ++ (⟨#[58]⟩ : ByteArray)) ++ (rdOf ByteArray.empty y341 t345)) ++ (⟨#[48, 48]⟩ : ByteArray)) ++ (strOfNums y336)) ++ (rdOf ByteArray.empty y341 t347)) ++ (⟨#[13, 10]⟩ : ByteArray)) ++ (⟨#[13, 10]⟩ : ByteArray), ((((((⟨#[120, 45]⟩ : ByteArray) ++ t349) ++ (⟨#[58, 32]⟩ : ByteArray)) ++ t350) ++ (⟨#[13, 10]⟩ : ByteArray)) ++ ((((((t344 ++ (⟨#[58]⟩ : ByteArray)) ++ (rdOf ByteArray.empty y341 t345)) ++ (⟨#[48, 48]⟩ : ByteArray)) ++ (strOfNums y336)) ++ (rdOf ByteArray.empty y341 t347)) ++ (⟨#[13, 10]⟩ : ByteArray))) ++ (⟨#[13, 10]⟩ : ByteArray), (((((((t344 ++ (⟨#[58]⟩ : ByteArray)) ++ (rdOf ByteArray.empty y341 t345)) ++ (⟨#[48, 48]⟩ : ByteArray)) ++ (strOfNums y336)) ++ (rdOf ByteArray.empty y341 t347)) ++ (⟨#[13, 10]⟩ : ByteArray)) ++ (((((⟨#[120, 45]⟩ : ByteArray) ++ t349) ++ (⟨#[58, 32]⟩ : ByteArray)) ++ t350) ++ (⟨#[13, 10]⟩ : ByteArray))) ++ (⟨#[13, 10]⟩ : ByteArray), ((((((((t344 ++ (⟨#[58]⟩ : ByteArray)) ++ (rdOf ByteArray.empty y341 t345)) ++ (⟨#[48, 48]⟩ : ByteArray)) ++ (strOfNums y336)) ++ (rdOf ByteArray.empty y341 t347)) ++ (⟨#[13, 10]⟩ : ByteArray)) ++ ((((((t344 ++ (⟨#[58]⟩ : ByteArray)) ++ (rdOf ByteArray.empty y341 t345)) ++ (⟨#[48, 48]⟩ : ByteArray)) ++ (strOfNums y336)) ++ (rdOf ByteArray.empty y341 t347)) ++ (⟨#[13, 10]⟩ : ByteArray))) ++ (((((⟨#[120, 45]⟩ : ByteArray) ++ t349) ++ (⟨#[58, 32]⟩ : ByteArray)) ++ t350) ++ (⟨#[13, 10]⟩ : ByteArray))) ++ (⟨#[13, 10]⟩ : ByteArray)] : List ByteArray)) 0) else (none)) else (none)) else (none)) else (none)) else (none)) else (none)) else (none)) else (none)) else (none)) else (none))) else (none)) else (none))) else (none)) else (none)) else (none)) else (none))) else (none)) else (none)) else (none)) else (none)) else (none))) else (none))) = some r := by first | (rw [hy341]; with_reducible exact H) | (have H2_ := (Option.bind_some _ _).symm.trans H; rw [hy341]; with_reducible exact H2_) | (have H2_ := (Option.bind_some _ _).symm.trans H; with_reducible exact H2_) | with_reducible exact H | (rw [hy341]; exact H) | exact H
              have Ny341 := Aside0.mk hy341
              clear hy341
              replace H := Option.bind_eq_some_iff.mp H
              obtain ⟨t344, A180, H⟩ := H
              replace H : (if t344.size + 1 ≤ 9223372036854775807 then ((colophonref00_Bring.f a3 4).bind fun t345 => (if 0 ≤ t345 then (if t345 < (y341.length : Int) then (if t344.size + 1 + (rdOf ByteArray.empty y341 t345).size ≤ 9223372036854775807 then (if t344.size + 1 + (rdOf ByteArray.empty y341 t345).size + 2 ≤ 9223372036854775807 then (if t344.size + 1 + (rdOf ByteArray.empty y341 t345).size + 2 + (strOfNums y336).size ≤ 9223372036854775807 then ((colophonref00_Bring.f a4 4).bind fun t347 => (if 0 ≤ t347 then (if t347 < (y341.length : Int) then (if t344.size + 1 + (rdOf ByteArray.empty y341 t345).size + 2 + (strOfNums y336).size + (rdOf ByteArray.empty y341 t347).size ≤ 9223372036854775807 then (if t344.size + 1 + (rdOf ByteArray.empty y341 t345).size + 2 + (strOfNums y336).size + (rdOf ByteArray.empty y341 t347).size + 2 ≤ 9223372036854775807 then ((colophonlaw06_letters.f kj9 l1).bind fun t349 => (if 2 + t349.size ≤ 9223372036854775807 then (if 2 + t349.size + 2 ≤ 9223372036854775807 then ((colophonlaw06_letters.f kj9 l1).bind fun t350 => (if 2 + t349.size + 2 + t350.size ≤ 9223372036854775807 then (if 2 + t349.size + 2 + t350.size + 2 ≤ 9223372036854775807 then (if t344.size + 1 + (rdOf ByteArray.empty y341 t345).size + 2 + (strOfNums y336).size + (rdOf ByteArray.empty y341 t347).size + 2 + 2 ≤ 9223372036854775807 then (if 2 + t349.size + 2 + t350.size + 2 + t344.size + 1 + (rdOf ByteArray.empty y341 t345).size + 2 + (strOfNums y336).size + (rdOf ByteArray.empty y341 t347).size + 2 ≤ 9223372036854775807 then (if 2 + t349.size + 2 + t350.size + 2 + t344.size + 1 + (rdOf ByteArray.empty y341 t345).size + 2 + (strOfNums y336).size + (rdOf ByteArray.empty y341 t347).size + 2 + 2 ≤ 9223372036854775807 then (if t344.size + 1 + (rdOf ByteArray.empty y341 t345).size + 2 + (strOfNums y336).size + (rdOf ByteArray.empty y341 t347).size + 2 + 2 + t349.size + 2 + t350.size + 2 ≤ 9223372036854775807 then (if t344.size + 1 + (rdOf ByteArray.empty y341 t345).size + 2 + (strOfNums y336).size + (rdOf ByteArray.empty y341 t347).size + 2 + 2 + t349.size + 2 + t350.size + 2 + 2 ≤ 9223372036854775807 then (if t344.size + 1 + (rdOf ByteArray.empty y341 t345).size + 2 + (strOfNums y336).size + (rdOf ByteArray.empty y341 t347).size + 2 + t344.size + 1 + (rdOf ByteArray.empty y341 t345).size + 2 + (strOfNums y336).size + (rdOf ByteArray.empty y341 t347).size + 2 ≤ 9223372036854775807 then (if t344.size + 1 + (rdOf ByteArray.empty y341 t345).size + 2 + (strOfNums y336).size + (rdOf ByteArray.empty y341 t347).size + 2 + t344.size + 1 + (rdOf ByteArray.empty y341 t345).size + 2 + (strOfNums y336).size + (rdOf ByteArray.empty y341 t347).size + 2 + 2 + t349.size + 2 + t350.size + 2 ≤ 9223372036854775807 then (if t344.size + 1 + (rdOf ByteArray.empty y341 t345).size + 2 + (strOfNums y336).size + (rdOf ByteArray.empty y341 t347).size + 2 + t344.size + 1 + (rdOf ByteArray.empty y341 t345).size + 2 + (strOfNums y336).size + (rdOf ByteArray.empty y341 t347).size + 2 + 2 + t349.size + 2 + t350.size + 2 + 2 ≤ 9223372036854775807 then (colophonlaw06_HeadCases.l0 kj9 t331 (([((((((t344 ++ (⟨#[58]⟩ : ByteArray)) ++ (rdOf ByteArray.empty y341 t345)) ++ (⟨#[48, 48]⟩ : ByteArray)) ++ (strOfNums y336)) ++ (rdOf ByteArray.empty y341 t347)) ++ (⟨#[13, 10]⟩ : ByteArray)) ++ (⟨#[13, 10]⟩ : ByteArray), ((((((⟨#[120, 45]⟩ : ByteArray) ++ t349) ++ (⟨#[58, 32]⟩ : ByteArray)) ++ t350) ++ (⟨#[13, 10]⟩ : ByteArray)) ++ ((((((t344 ++ (⟨#[58]⟩ : ByteArray)) ++ (rdOf ByteArray.empty y341 t345)) ++ (⟨#[48, 48]⟩ : ByteArray)) ++ (strOfNums y336)) ++ (rdOf ByteArray.empty y341 t347)) ++ (⟨#[13, 10]⟩ : ByteArray))) ++ (⟨#[13, 10]⟩ : ByteArray), (((((((t344 ++ (⟨#[58]⟩ : ByteArray)) ++ (rdOf ByteArray.empty y341 t345)) ++ (⟨#[48, 48]⟩ : ByteArray)) ++ (strOfNums y336)) ++ (rdOf ByteArray.empty y341 t347)) ++ (⟨#[13, 10]⟩ : ByteArray)) ++ (((((⟨#[120, 45]⟩ : ByteArray) ++ t349) ++ (⟨#[58, 32]⟩ : ByteArray)) ++ t350) ++ (⟨#[13, 10]⟩ : ByteArray))) ++ (⟨#[13, 10]⟩ : ByteArray), ((((((((t344 ++ (⟨#[58]⟩ : ByteArray)) ++ (rdOf ByteArray.empty y341 t345)) ++ (⟨#[48, 48]⟩ : ByteArray)) ++ (strOfNums y336)) ++ (rdOf ByteArray.empty y341 t347)) ++ (⟨#[13, 10]⟩ : ByteArray)) ++ ((((((t344 ++ (⟨#[58]⟩ : ByteArray)) ++ (rdOf ByteArray.empty y341 t345)) ++ (⟨#[48, 48]⟩ : ByteArray)) ++ (strOfNums y336)) ++ (rdOf ByteArray.empty y341 t347)) ++ (⟨#[13, 10]⟩ : ByteArray))) ++ (((((⟨#[120, 45]⟩ : ByteArray) ++ t349) ++ (⟨#[58, 32]⟩ : ByteArray)) ++ t350) ++ (⟨#[13, 10]⟩ : ByteArray))) ++ (⟨#[13, 10]⟩ : ByteArray)] : List ByteArray)) 0) else (none)) else (none)) else (none)) else (none)) else (none)) else (none)) else (none)) else (none)) else (none)) else (none))) else (none)) else (none))) else (none)) else (none)) else (none)) else (none))) else (none)) else (none)) else (none)) else (none)) else (none))) else (none)) = some r := H
              have A18 := Aside0.mk A180
              clear A180
              by_cases c19 : t344.size + 1 ≤ 9223372036854775807
              · rw [if_pos c19] at H
                have c19b0 := eq_true c19
                have c19b1 : decide (t344.size + 1 ≤ 9223372036854775807) = true := decide_eq_true c19
                try have c19b2 : (9223372036854775807 < t344.size + 1) = False := eq_false (Nat.not_lt.2 c19)
                replace H := Option.bind_eq_some_iff.mp H
                obtain ⟨t345, A200, H⟩ := H
                replace H : (if 0 ≤ t345 then (if t345 < (y341.length : Int) then (if t344.size + 1 + (rdOf ByteArray.empty y341 t345).size ≤ 9223372036854775807 then (if t344.size + 1 + (rdOf ByteArray.empty y341 t345).size + 2 ≤ 9223372036854775807 then (if t344.size + 1 + (rdOf ByteArray.empty y341 t345).size + 2 + (strOfNums y336).size ≤ 9223372036854775807 then ((colophonref00_Bring.f a4 4).bind fun t347 => (if 0 ≤ t347 then (if t347 < (y341.length : Int) then (if t344.size + 1 + (rdOf ByteArray.empty y341 t345).size + 2 + (strOfNums y336).size + (rdOf ByteArray.empty y341 t347).size ≤ 9223372036854775807 then (if t344.size + 1 + (rdOf ByteArray.empty y341 t345).size + 2 + (strOfNums y336).size + (rdOf ByteArray.empty y341 t347).size + 2 ≤ 9223372036854775807 then ((colophonlaw06_letters.f kj9 l1).bind fun t349 => (if 2 + t349.size ≤ 9223372036854775807 then (if 2 + t349.size + 2 ≤ 9223372036854775807 then ((colophonlaw06_letters.f kj9 l1).bind fun t350 => (if 2 + t349.size + 2 + t350.size ≤ 9223372036854775807 then (if 2 + t349.size + 2 + t350.size + 2 ≤ 9223372036854775807 then (if t344.size + 1 + (rdOf ByteArray.empty y341 t345).size + 2 + (strOfNums y336).size + (rdOf ByteArray.empty y341 t347).size + 2 + 2 ≤ 9223372036854775807 then (if 2 + t349.size + 2 + t350.size + 2 + t344.size + 1 + (rdOf ByteArray.empty y341 t345).size + 2 + (strOfNums y336).size + (rdOf ByteArray.empty y341 t347).size + 2 ≤ 9223372036854775807 then (if 2 + t349.size + 2 + t350.size + 2 + t344.size + 1 + (rdOf ByteArray.empty y341 t345).size + 2 + (strOfNums y336).size + (rdOf ByteArray.empty y341 t347).size + 2 + 2 ≤ 9223372036854775807 then (if t344.size + 1 + (rdOf ByteArray.empty y341 t345).size + 2 + (strOfNums y336).size + (rdOf ByteArray.empty y341 t347).size + 2 + 2 + t349.size + 2 + t350.size + 2 ≤ 9223372036854775807 then (if t344.size + 1 + (rdOf ByteArray.empty y341 t345).size + 2 + (strOfNums y336).size + (rdOf ByteArray.empty y341 t347).size + 2 + 2 + t349.size + 2 + t350.size + 2 + 2 ≤ 9223372036854775807 then (if t344.size + 1 + (rdOf ByteArray.empty y341 t345).size + 2 + (strOfNums y336).size + (rdOf ByteArray.empty y341 t347).size + 2 + t344.size + 1 + (rdOf ByteArray.empty y341 t345).size + 2 + (strOfNums y336).size + (rdOf ByteArray.empty y341 t347).size + 2 ≤ 9223372036854775807 then (if t344.size + 1 + (rdOf ByteArray.empty y341 t345).size + 2 + (strOfNums y336).size + (rdOf ByteArray.empty y341 t347).size + 2 + t344.size + 1 + (rdOf ByteArray.empty y341 t345).size + 2 + (strOfNums y336).size + (rdOf ByteArray.empty y341 t347).size + 2 + 2 + t349.size + 2 + t350.size + 2 ≤ 9223372036854775807 then (if t344.size + 1 + (rdOf ByteArray.empty y341 t345).size + 2 + (strOfNums y336).size + (rdOf ByteArray.empty y341 t347).size + 2 + t344.size + 1 + (rdOf ByteArray.empty y341 t345).size + 2 + (strOfNums y336).size + (rdOf ByteArray.empty y341 t347).size + 2 + 2 + t349.size + 2 + t350.size + 2 + 2 ≤ 9223372036854775807 then (colophonlaw06_HeadCases.l0 kj9 t331 (([((((((t344 ++ (⟨#[58]⟩ : ByteArray)) ++ (rdOf ByteArray.empty y341 t345)) ++ (⟨#[48, 48]⟩ : ByteArray)) ++ (strOfNums y336)) ++ (rdOf ByteArray.empty y341 t347)) ++ (⟨#[13, 10]⟩ : ByteArray)) ++ (⟨#[13, 10]⟩ : ByteArray), ((((((⟨#[120, 45]⟩ : ByteArray) ++ t349) ++ (⟨#[58, 32]⟩ : ByteArray)) ++ t350) ++ (⟨#[13, 10]⟩ : ByteArray)) ++ ((((((t344 ++ (⟨#[58]⟩ : ByteArray)) ++ (rdOf ByteArray.empty y341 t345)) ++ (⟨#[48, 48]⟩ : ByteArray)) ++ (strOfNums y336)) ++ (rdOf ByteArray.empty y341 t347)) ++ (⟨#[13, 10]⟩ : ByteArray))) ++ (⟨#[13, 10]⟩ : ByteArray), (((((((t344 ++ (⟨#[58]⟩ : ByteArray)) ++ (rdOf ByteArray.empty y341 t345)) ++ (⟨#[48, 48]⟩ : ByteArray)) ++ (strOfNums y336)) ++ (rdOf ByteArray.empty y341 t347)) ++ (⟨#[13, 10]⟩ : ByteArray)) ++ (((((⟨#[120, 45]⟩ : ByteArray) ++ t349) ++ (⟨#[58, 32]⟩ : ByteArray)) ++ t350) ++ (⟨#[13, 10]⟩ : ByteArray))) ++ (⟨#[13, 10]⟩ : ByteArray), ((((((((t344 ++ (⟨#[58]⟩ : ByteArray)) ++ (rdOf ByteArray.empty y341 t345)) ++ (⟨#[48, 48]⟩ : ByteArray)) ++ (strOfNums y336)) ++ (rdOf ByteArray.empty y341 t347)) ++ (⟨#[13, 10]⟩ : ByteArray)) ++ ((((((t344 ++ (⟨#[58]⟩ : ByteArray)) ++ (rdOf ByteArray.empty y341 t345)) ++ (⟨#[48, 48]⟩ : ByteArray)) ++ (strOfNums y336)) ++ (rdOf ByteArray.empty y341 t347)) ++ (⟨#[13, 10]⟩ : ByteArray))) ++ (((((⟨#[120, 45]⟩ : ByteArray) ++ t349) ++ (⟨#[58, 32]⟩ : ByteArray)) ++ t350) ++ (⟨#[13, 10]⟩ : ByteArray))) ++ (⟨#[13, 10]⟩ : ByteArray)] : List ByteArray)) 0) else (none)) else (none)) else (none)) else (none)) else (none)) else (none)) else (none)) else (none)) else (none)) else (none))) else (none)) else (none))) else (none)) else (none)) else (none)) else (none))) else (none)) else (none)) else (none)) else (none)) else (none)) = some r := H
                have A20 := Aside0.mk A200
                clear A200
                by_cases c21 : 0 ≤ t345
                · rw [if_pos c21] at H
                  have c21b0 : decide (0 ≤ t345) = true := decide_eq_true c21
                  clear c21
                  by_cases c22 : t345 < (y341.length : Int)
                  · rw [if_pos c22] at H
                    have c22b0 : decide (t345 < (y341.length : Int)) = true := decide_eq_true c22
                    clear c22
                    by_cases c23 : t344.size + 1 + (rdOf ByteArray.empty y341 t345).size ≤ 9223372036854775807
                    · rw [if_pos c23] at H
                      have c23b0 := eq_true c23
                      have c23b1 : decide (t344.size + 1 + (rdOf ByteArray.empty y341 t345).size ≤ 9223372036854775807) = true := decide_eq_true c23
                      try have c23b2 : (9223372036854775807 < t344.size + 1 + (rdOf ByteArray.empty y341 t345).size) = False := eq_false (Nat.not_lt.2 c23)
                      by_cases c24 : t344.size + 1 + (rdOf ByteArray.empty y341 t345).size + 2 ≤ 9223372036854775807
                      · rw [if_pos c24] at H
                        have c24b0 := eq_true c24
                        have c24b1 : decide (t344.size + 1 + (rdOf ByteArray.empty y341 t345).size + 2 ≤ 9223372036854775807) = true := decide_eq_true c24
                        try have c24b2 : (9223372036854775807 < t344.size + 1 + (rdOf ByteArray.empty y341 t345).size + 2) = False := eq_false (Nat.not_lt.2 c24)
                        by_cases c25 : t344.size + 1 + (rdOf ByteArray.empty y341 t345).size + 2 + (strOfNums y336).size ≤ 9223372036854775807
                        · rw [if_pos c25] at H
                          have c25b0 := eq_true c25
                          have c25b1 : decide (t344.size + 1 + (rdOf ByteArray.empty y341 t345).size + 2 + (strOfNums y336).size ≤ 9223372036854775807) = true := decide_eq_true c25
                          try have c25b2 : (9223372036854775807 < t344.size + 1 + (rdOf ByteArray.empty y341 t345).size + 2 + (strOfNums y336).size) = False := eq_false (Nat.not_lt.2 c25)
                          replace H := Option.bind_eq_some_iff.mp H
                          obtain ⟨t347, A260, H⟩ := H
                          replace H : (if 0 ≤ t347 then (if t347 < (y341.length : Int) then (if t344.size + 1 + (rdOf ByteArray.empty y341 t345).size + 2 + (strOfNums y336).size + (rdOf ByteArray.empty y341 t347).size ≤ 9223372036854775807 then (if t344.size + 1 + (rdOf ByteArray.empty y341 t345).size + 2 + (strOfNums y336).size + (rdOf ByteArray.empty y341 t347).size + 2 ≤ 9223372036854775807 then ((colophonlaw06_letters.f kj9 l1).bind fun t349 => (if 2 + t349.size ≤ 9223372036854775807 then (if 2 + t349.size + 2 ≤ 9223372036854775807 then ((colophonlaw06_letters.f kj9 l1).bind fun t350 => (if 2 + t349.size + 2 + t350.size ≤ 9223372036854775807 then (if 2 + t349.size + 2 + t350.size + 2 ≤ 9223372036854775807 then (if t344.size + 1 + (rdOf ByteArray.empty y341 t345).size + 2 + (strOfNums y336).size + (rdOf ByteArray.empty y341 t347).size + 2 + 2 ≤ 9223372036854775807 then (if 2 + t349.size + 2 + t350.size + 2 + t344.size + 1 + (rdOf ByteArray.empty y341 t345).size + 2 + (strOfNums y336).size + (rdOf ByteArray.empty y341 t347).size + 2 ≤ 9223372036854775807 then (if 2 + t349.size + 2 + t350.size + 2 + t344.size + 1 + (rdOf ByteArray.empty y341 t345).size + 2 + (strOfNums y336).size + (rdOf ByteArray.empty y341 t347).size + 2 + 2 ≤ 9223372036854775807 then (if t344.size + 1 + (rdOf ByteArray.empty y341 t345).size + 2 + (strOfNums y336).size + (rdOf ByteArray.empty y341 t347).size + 2 + 2 + t349.size + 2 + t350.size + 2 ≤ 9223372036854775807 then (if t344.size + 1 + (rdOf ByteArray.empty y341 t345).size + 2 + (strOfNums y336).size + (rdOf ByteArray.empty y341 t347).size + 2 + 2 + t349.size + 2 + t350.size + 2 + 2 ≤ 9223372036854775807 then (if t344.size + 1 + (rdOf ByteArray.empty y341 t345).size + 2 + (strOfNums y336).size + (rdOf ByteArray.empty y341 t347).size + 2 + t344.size + 1 + (rdOf ByteArray.empty y341 t345).size + 2 + (strOfNums y336).size + (rdOf ByteArray.empty y341 t347).size + 2 ≤ 9223372036854775807 then (if t344.size + 1 + (rdOf ByteArray.empty y341 t345).size + 2 + (strOfNums y336).size + (rdOf ByteArray.empty y341 t347).size + 2 + t344.size + 1 + (rdOf ByteArray.empty y341 t345).size + 2 + (strOfNums y336).size + (rdOf ByteArray.empty y341 t347).size + 2 + 2 + t349.size + 2 + t350.size + 2 ≤ 9223372036854775807 then (if t344.size + 1 + (rdOf ByteArray.empty y341 t345).size + 2 + (strOfNums y336).size + (rdOf ByteArray.empty y341 t347).size + 2 + t344.size + 1 + (rdOf ByteArray.empty y341 t345).size + 2 + (strOfNums y336).size + (rdOf ByteArray.empty y341 t347).size + 2 + 2 + t349.size + 2 + t350.size + 2 + 2 ≤ 9223372036854775807 then (colophonlaw06_HeadCases.l0 kj9 t331 (([((((((t344 ++ (⟨#[58]⟩ : ByteArray)) ++ (rdOf ByteArray.empty y341 t345)) ++ (⟨#[48, 48]⟩ : ByteArray)) ++ (strOfNums y336)) ++ (rdOf ByteArray.empty y341 t347)) ++ (⟨#[13, 10]⟩ : ByteArray)) ++ (⟨#[13, 10]⟩ : ByteArray), ((((((⟨#[120, 45]⟩ : ByteArray) ++ t349) ++ (⟨#[58, 32]⟩ : ByteArray)) ++ t350) ++ (⟨#[13, 10]⟩ : ByteArray)) ++ ((((((t344 ++ (⟨#[58]⟩ : ByteArray)) ++ (rdOf ByteArray.empty y341 t345)) ++ (⟨#[48, 48]⟩ : ByteArray)) ++ (strOfNums y336)) ++ (rdOf ByteArray.empty y341 t347)) ++ (⟨#[13, 10]⟩ : ByteArray))) ++ (⟨#[13, 10]⟩ : ByteArray), (((((((t344 ++ (⟨#[58]⟩ : ByteArray)) ++ (rdOf ByteArray.empty y341 t345)) ++ (⟨#[48, 48]⟩ : ByteArray)) ++ (strOfNums y336)) ++ (rdOf ByteArray.empty y341 t347)) ++ (⟨#[13, 10]⟩ : ByteArray)) ++ (((((⟨#[120, 45]⟩ : ByteArray) ++ t349) ++ (⟨#[58, 32]⟩ : ByteArray)) ++ t350) ++ (⟨#[13, 10]⟩ : ByteArray))) ++ (⟨#[13, 10]⟩ : ByteArray), ((((((((t344 ++ (⟨#[58]⟩ : ByteArray)) ++ (rdOf ByteArray.empty y341 t345)) ++ (⟨#[48, 48]⟩ : ByteArray)) ++ (strOfNums y336)) ++ (rdOf ByteArray.empty y341 t347)) ++ (⟨#[13, 10]⟩ : ByteArray)) ++ ((((((t344 ++ (⟨#[58]⟩ : ByteArray)) ++ (rdOf ByteArray.empty y341 t345)) ++ (⟨#[48, 48]⟩ : ByteArray)) ++ (strOfNums y336)) ++ (rdOf ByteArray.empty y341 t347)) ++ (⟨#[13, 10]⟩ : ByteArray))) ++ (((((⟨#[120, 45]⟩ : ByteArray) ++ t349) ++ (⟨#[58, 32]⟩ : ByteArray)) ++ t350) ++ (⟨#[13, 10]⟩ : ByteArray))) ++ (⟨#[13, 10]⟩ : ByteArray)] : List ByteArray)) 0) else (none)) else (none)) else (none)) else (none)) else (none)) else (none)) else (none)) else (none)) else (none)) else (none))) else (none)) else (none))) else (none)) else (none)) else (none)) else (none)) = some r := H
                          have A26 := Aside0.mk A260
                          clear A260
                          by_cases c27 : 0 ≤ t347
                          · rw [if_pos c27] at H
                            have c27b0 : decide (0 ≤ t347) = true := decide_eq_true c27
                            clear c27
                            by_cases c28 : t347 < (y341.length : Int)
                            · rw [if_pos c28] at H
                              have c28b0 : decide (t347 < (y341.length : Int)) = true := decide_eq_true c28
                              clear c28
                              by_cases c29 : t344.size + 1 + (rdOf ByteArray.empty y341 t345).size + 2 + (strOfNums y336).size + (rdOf ByteArray.empty y341 t347).size ≤ 9223372036854775807
                              · rw [if_pos c29] at H
                                have c29b0 := eq_true c29
                                have c29b1 : decide (t344.size + 1 + (rdOf ByteArray.empty y341 t345).size + 2 + (strOfNums y336).size + (rdOf ByteArray.empty y341 t347).size ≤ 9223372036854775807) = true := decide_eq_true c29
                                try have c29b2 : (9223372036854775807 < t344.size + 1 + (rdOf ByteArray.empty y341 t345).size + 2 + (strOfNums y336).size + (rdOf ByteArray.empty y341 t347).size) = False := eq_false (Nat.not_lt.2 c29)
                                by_cases c30 : t344.size + 1 + (rdOf ByteArray.empty y341 t345).size + 2 + (strOfNums y336).size + (rdOf ByteArray.empty y341 t347).size + 2 ≤ 9223372036854775807
                                · rw [if_pos c30] at H
                                  have c30b0 := eq_true c30
                                  have c30b1 : decide (t344.size + 1 + (rdOf ByteArray.empty y341 t345).size + 2 + (strOfNums y336).size + (rdOf ByteArray.empty y341 t347).size + 2 ≤ 9223372036854775807) = true := decide_eq_true c30
                                  try have c30b2 : (9223372036854775807 < t344.size + 1 + (rdOf ByteArray.empty y341 t345).size + 2 + (strOfNums y336).size + (rdOf ByteArray.empty y341 t347).size + 2) = False := eq_false (Nat.not_lt.2 c30)
                                  replace H := Option.bind_eq_some_iff.mp H
                                  obtain ⟨t349, A310, H⟩ := H
                                  replace H : (if 2 + t349.size ≤ 9223372036854775807 then (if 2 + t349.size + 2 ≤ 9223372036854775807 then ((colophonlaw06_letters.f kj9 l1).bind fun t350 => (if 2 + t349.size + 2 + t350.size ≤ 9223372036854775807 then (if 2 + t349.size + 2 + t350.size + 2 ≤ 9223372036854775807 then (if t344.size + 1 + (rdOf ByteArray.empty y341 t345).size + 2 + (strOfNums y336).size + (rdOf ByteArray.empty y341 t347).size + 2 + 2 ≤ 9223372036854775807 then (if 2 + t349.size + 2 + t350.size + 2 + t344.size + 1 + (rdOf ByteArray.empty y341 t345).size + 2 + (strOfNums y336).size + (rdOf ByteArray.empty y341 t347).size + 2 ≤ 9223372036854775807 then (if 2 + t349.size + 2 + t350.size + 2 + t344.size + 1 + (rdOf ByteArray.empty y341 t345).size + 2 + (strOfNums y336).size + (rdOf ByteArray.empty y341 t347).size + 2 + 2 ≤ 9223372036854775807 then (if t344.size + 1 + (rdOf ByteArray.empty y341 t345).size + 2 + (strOfNums y336).size + (rdOf ByteArray.empty y341 t347).size + 2 + 2 + t349.size + 2 + t350.size + 2 ≤ 9223372036854775807 then (if t344.size + 1 + (rdOf ByteArray.empty y341 t345).size + 2 + (strOfNums y336).size + (rdOf ByteArray.empty y341 t347).size + 2 + 2 + t349.size + 2 + t350.size + 2 + 2 ≤ 9223372036854775807 then (if t344.size + 1 + (rdOf ByteArray.empty y341 t345).size + 2 + (strOfNums y336).size + (rdOf ByteArray.empty y341 t347).size + 2 + t344.size + 1 + (rdOf ByteArray.empty y341 t345).size + 2 + (strOfNums y336).size + (rdOf ByteArray.empty y341 t347).size + 2 ≤ 9223372036854775807 then (if t344.size + 1 + (rdOf ByteArray.empty y341 t345).size + 2 + (strOfNums y336).size + (rdOf ByteArray.empty y341 t347).size + 2 + t344.size + 1 + (rdOf ByteArray.empty y341 t345).size + 2 + (strOfNums y336).size + (rdOf ByteArray.empty y341 t347).size + 2 + 2 + t349.size + 2 + t350.size + 2 ≤ 9223372036854775807 then (if t344.size + 1 + (rdOf ByteArray.empty y341 t345).size + 2 + (strOfNums y336).size + (rdOf ByteArray.empty y341 t347).size + 2 + t344.size + 1 + (rdOf ByteArray.empty y341 t345).size + 2 + (strOfNums y336).size + (rdOf ByteArray.empty y341 t347).size + 2 + 2 + t349.size + 2 + t350.size + 2 + 2 ≤ 9223372036854775807 then (colophonlaw06_HeadCases.l0 kj9 t331 (([((((((t344 ++ (⟨#[58]⟩ : ByteArray)) ++ (rdOf ByteArray.empty y341 t345)) ++ (⟨#[48, 48]⟩ : ByteArray)) ++ (strOfNums y336)) ++ (rdOf ByteArray.empty y341 t347)) ++ (⟨#[13, 10]⟩ : ByteArray)) ++ (⟨#[13, 10]⟩ : ByteArray), ((((((⟨#[120, 45]⟩ : ByteArray) ++ t349) ++ (⟨#[58, 32]⟩ : ByteArray)) ++ t350) ++ (⟨#[13, 10]⟩ : ByteArray)) ++ ((((((t344 ++ (⟨#[58]⟩ : ByteArray)) ++ (rdOf ByteArray.empty y341 t345)) ++ (⟨#[48, 48]⟩ : ByteArray)) ++ (strOfNums y336)) ++ (rdOf ByteArray.empty y341 t347)) ++ (⟨#[13, 10]⟩ : ByteArray))) ++ (⟨#[13, 10]⟩ : ByteArray), (((((((t344 ++ (⟨#[58]⟩ : ByteArray)) ++ (rdOf ByteArray.empty y341 t345)) ++ (⟨#[48, 48]⟩ : ByteArray)) ++ (strOfNums y336)) ++ (rdOf ByteArray.empty y341 t347)) ++ (⟨#[13, 10]⟩ : ByteArray)) ++ (((((⟨#[120, 45]⟩ : ByteArray) ++ t349) ++ (⟨#[58, 32]⟩ : ByteArray)) ++ t350) ++ (⟨#[13, 10]⟩ : ByteArray))) ++ (⟨#[13, 10]⟩ : ByteArray), ((((((((t344 ++ (⟨#[58]⟩ : ByteArray)) ++ (rdOf ByteArray.empty y341 t345)) ++ (⟨#[48, 48]⟩ : ByteArray)) ++ (strOfNums y336)) ++ (rdOf ByteArray.empty y341 t347)) ++ (⟨#[13, 10]⟩ : ByteArray)) ++ ((((((t344 ++ (⟨#[58]⟩ : ByteArray)) ++ (rdOf ByteArray.empty y341 t345)) ++ (⟨#[48, 48]⟩ : ByteArray)) ++ (strOfNums y336)) ++ (rdOf ByteArray.empty y341 t347)) ++ (⟨#[13, 10]⟩ : ByteArray))) ++ (((((⟨#[120, 45]⟩ : ByteArray) ++ t349) ++ (⟨#[58, 32]⟩ : ByteArray)) ++ t350) ++ (⟨#[13, 10]⟩ : ByteArray))) ++ (⟨#[13, 10]⟩ : ByteArray)] : List ByteArray)) 0) else (none)) else (none)) else (none)) else (none)) else (none)) else (none)) else (none)) else (none)) else (none)) else (none))) else (none)) else (none)) = some r := H
                                  have A31 := Aside0.mk A310
                                  clear A310
                                  by_cases c32 : 2 + t349.size ≤ 9223372036854775807
                                  · rw [if_pos c32] at H
                                    have c32b0 := eq_true c32
                                    have c32b1 : decide (2 + t349.size ≤ 9223372036854775807) = true := decide_eq_true c32
                                    try have c32b2 : (9223372036854775807 < 2 + t349.size) = False := eq_false (Nat.not_lt.2 c32)
                                    by_cases c33 : 2 + t349.size + 2 ≤ 9223372036854775807
                                    · rw [if_pos c33] at H
                                      have c33b0 := eq_true c33
                                      have c33b1 : decide (2 + t349.size + 2 ≤ 9223372036854775807) = true := decide_eq_true c33
                                      try have c33b2 : (9223372036854775807 < 2 + t349.size + 2) = False := eq_false (Nat.not_lt.2 c33)
                                      replace H := Option.bind_eq_some_iff.mp H
                                      obtain ⟨t350, A340, H⟩ := H
                                      replace H : (if 2 + t349.size + 2 + t350.size ≤ 9223372036854775807 then (if 2 + t349.size + 2 + t350.size + 2 ≤ 9223372036854775807 then (if t344.size + 1 + (rdOf ByteArray.empty y341 t345).size + 2 + (strOfNums y336).size + (rdOf ByteArray.empty y341 t347).size + 2 + 2 ≤ 9223372036854775807 then (if 2 + t349.size + 2 + t350.size + 2 + t344.size + 1 + (rdOf ByteArray.empty y341 t345).size + 2 + (strOfNums y336).size + (rdOf ByteArray.empty y341 t347).size + 2 ≤ 9223372036854775807 then (if 2 + t349.size + 2 + t350.size + 2 + t344.size + 1 + (rdOf ByteArray.empty y341 t345).size + 2 + (strOfNums y336).size + (rdOf ByteArray.empty y341 t347).size + 2 + 2 ≤ 9223372036854775807 then (if t344.size + 1 + (rdOf ByteArray.empty y341 t345).size + 2 + (strOfNums y336).size + (rdOf ByteArray.empty y341 t347).size + 2 + 2 + t349.size + 2 + t350.size + 2 ≤ 9223372036854775807 then (if t344.size + 1 + (rdOf ByteArray.empty y341 t345).size + 2 + (strOfNums y336).size + (rdOf ByteArray.empty y341 t347).size + 2 + 2 + t349.size + 2 + t350.size + 2 + 2 ≤ 9223372036854775807 then (if t344.size + 1 + (rdOf ByteArray.empty y341 t345).size + 2 + (strOfNums y336).size + (rdOf ByteArray.empty y341 t347).size + 2 + t344.size + 1 + (rdOf ByteArray.empty y341 t345).size + 2 + (strOfNums y336).size + (rdOf ByteArray.empty y341 t347).size + 2 ≤ 9223372036854775807 then (if t344.size + 1 + (rdOf ByteArray.empty y341 t345).size + 2 + (strOfNums y336).size + (rdOf ByteArray.empty y341 t347).size + 2 + t344.size + 1 + (rdOf ByteArray.empty y341 t345).size + 2 + (strOfNums y336).size + (rdOf ByteArray.empty y341 t347).size + 2 + 2 + t349.size + 2 + t350.size + 2 ≤ 9223372036854775807 then (if t344.size + 1 + (rdOf ByteArray.empty y341 t345).size + 2 + (strOfNums y336).size + (rdOf ByteArray.empty y341 t347).size + 2 + t344.size + 1 + (rdOf ByteArray.empty y341 t345).size + 2 + (strOfNums y336).size + (rdOf ByteArray.empty y341 t347).size + 2 + 2 + t349.size + 2 + t350.size + 2 + 2 ≤ 9223372036854775807 then (colophonlaw06_HeadCases.l0 kj9 t331 (([((((((t344 ++ (⟨#[58]⟩ : ByteArray)) ++ (rdOf ByteArray.empty y341 t345)) ++ (⟨#[48, 48]⟩ : ByteArray)) ++ (strOfNums y336)) ++ (rdOf ByteArray.empty y341 t347)) ++ (⟨#[13, 10]⟩ : ByteArray)) ++ (⟨#[13, 10]⟩ : ByteArray), ((((((⟨#[120, 45]⟩ : ByteArray) ++ t349) ++ (⟨#[58, 32]⟩ : ByteArray)) ++ t350) ++ (⟨#[13, 10]⟩ : ByteArray)) ++ ((((((t344 ++ (⟨#[58]⟩ : ByteArray)) ++ (rdOf ByteArray.empty y341 t345)) ++ (⟨#[48, 48]⟩ : ByteArray)) ++ (strOfNums y336)) ++ (rdOf ByteArray.empty y341 t347)) ++ (⟨#[13, 10]⟩ : ByteArray))) ++ (⟨#[13, 10]⟩ : ByteArray), (((((((t344 ++ (⟨#[58]⟩ : ByteArray)) ++ (rdOf ByteArray.empty y341 t345)) ++ (⟨#[48, 48]⟩ : ByteArray)) ++ (strOfNums y336)) ++ (rdOf ByteArray.empty y341 t347)) ++ (⟨#[13, 10]⟩ : ByteArray)) ++ (((((⟨#[120, 45]⟩ : ByteArray) ++ t349) ++ (⟨#[58, 32]⟩ : ByteArray)) ++ t350) ++ (⟨#[13, 10]⟩ : ByteArray))) ++ (⟨#[13, 10]⟩ : ByteArray), ((((((((t344 ++ (⟨#[58]⟩ : ByteArray)) ++ (rdOf ByteArray.empty y341 t345)) ++ (⟨#[48, 48]⟩ : ByteArray)) ++ (strOfNums y336)) ++ (rdOf ByteArray.empty y341 t347)) ++ (⟨#[13, 10]⟩ : ByteArray)) ++ ((((((t344 ++ (⟨#[58]⟩ : ByteArray)) ++ (rdOf ByteArray.empty y341 t345)) ++ (⟨#[48, 48]⟩ : ByteArray)) ++ (strOfNums y336)) ++ (rdOf ByteArray.empty y341 t347)) ++ (⟨#[13, 10]⟩ : ByteArray))) ++ (((((⟨#[120, 45]⟩ : ByteArray) ++ t349) ++ (⟨#[58, 32]⟩ : ByteArray)) ++ t350) ++ (⟨#[13, 10]⟩ : ByteArray))) ++ (⟨#[13, 10]⟩ : ByteArray)] : List ByteArray)) 0) else (none)) else (none)) else (none)) else (none)) else (none)) else (none)) else (none)) else (none)) else (none)) else (none)) = some r := H
                                      have A34 := Aside0.mk A340
                                      clear A340
                                      by_cases c35 : 2 + t349.size + 2 + t350.size ≤ 9223372036854775807
                                      · rw [if_pos c35] at H
                                        have c35b0 := eq_true c35
                                        have c35b1 : decide (2 + t349.size + 2 + t350.size ≤ 9223372036854775807) = true := decide_eq_true c35
                                        try have c35b2 : (9223372036854775807 < 2 + t349.size + 2 + t350.size) = False := eq_false (Nat.not_lt.2 c35)
                                        by_cases c36 : 2 + t349.size + 2 + t350.size + 2 ≤ 9223372036854775807
                                        · rw [if_pos c36] at H
                                          have c36b0 := eq_true c36
                                          have c36b1 : decide (2 + t349.size + 2 + t350.size + 2 ≤ 9223372036854775807) = true := decide_eq_true c36
                                          try have c36b2 : (9223372036854775807 < 2 + t349.size + 2 + t350.size + 2) = False := eq_false (Nat.not_lt.2 c36)
                                          by_cases c37 : t344.size + 1 + (rdOf ByteArray.empty y341 t345).size + 2 + (strOfNums y336).size + (rdOf ByteArray.empty y341 t347).size + 2 + 2 ≤ 9223372036854775807
                                          · rw [if_pos c37] at H
                                            have c37b0 := eq_true c37
                                            have c37b1 : decide (t344.size + 1 + (rdOf ByteArray.empty y341 t345).size + 2 + (strOfNums y336).size + (rdOf ByteArray.empty y341 t347).size + 2 + 2 ≤ 9223372036854775807) = true := decide_eq_true c37
                                            try have c37b2 : (9223372036854775807 < t344.size + 1 + (rdOf ByteArray.empty y341 t345).size + 2 + (strOfNums y336).size + (rdOf ByteArray.empty y341 t347).size + 2 + 2) = False := eq_false (Nat.not_lt.2 c37)
                                            by_cases c38 : 2 + t349.size + 2 + t350.size + 2 + t344.size + 1 + (rdOf ByteArray.empty y341 t345).size + 2 + (strOfNums y336).size + (rdOf ByteArray.empty y341 t347).size + 2 ≤ 9223372036854775807
                                            · rw [if_pos c38] at H
                                              have c38b0 := eq_true c38
                                              have c38b1 : decide (2 + t349.size + 2 + t350.size + 2 + t344.size + 1 + (rdOf ByteArray.empty y341 t345).size + 2 + (strOfNums y336).size + (rdOf ByteArray.empty y341 t347).size + 2 ≤ 9223372036854775807) = true := decide_eq_true c38
                                              try have c38b2 : (9223372036854775807 < 2 + t349.size + 2 + t350.size + 2 + t344.size + 1 + (rdOf ByteArray.empty y341 t345).size + 2 + (strOfNums y336).size + (rdOf ByteArray.empty y341 t347).size + 2) = False := eq_false (Nat.not_lt.2 c38)
                                              by_cases c39 : 2 + t349.size + 2 + t350.size + 2 + t344.size + 1 + (rdOf ByteArray.empty y341 t345).size + 2 + (strOfNums y336).size + (rdOf ByteArray.empty y341 t347).size + 2 + 2 ≤ 9223372036854775807
                                              · rw [if_pos c39] at H
                                                have c39b0 := eq_true c39
                                                have c39b1 : decide (2 + t349.size + 2 + t350.size + 2 + t344.size + 1 + (rdOf ByteArray.empty y341 t345).size + 2 + (strOfNums y336).size + (rdOf ByteArray.empty y341 t347).size + 2 + 2 ≤ 9223372036854775807) = true := decide_eq_true c39
                                                try have c39b2 : (9223372036854775807 < 2 + t349.size + 2 + t350.size + 2 + t344.size + 1 + (rdOf ByteArray.empty y341 t345).size + 2 + (strOfNums y336).size + (rdOf ByteArray.empty y341 t347).size + 2 + 2) = False := eq_false (Nat.not_lt.2 c39)
                                                by_cases c40 : t344.size + 1 + (rdOf ByteArray.empty y341 t345).size + 2 + (strOfNums y336).size + (rdOf ByteArray.empty y341 t347).size + 2 + 2 + t349.size + 2 + t350.size + 2 ≤ 9223372036854775807
                                                · rw [if_pos c40] at H
                                                  have c40b0 := eq_true c40
                                                  have c40b1 : decide (t344.size + 1 + (rdOf ByteArray.empty y341 t345).size + 2 + (strOfNums y336).size + (rdOf ByteArray.empty y341 t347).size + 2 + 2 + t349.size + 2 + t350.size + 2 ≤ 9223372036854775807) = true := decide_eq_true c40
                                                  try have c40b2 : (9223372036854775807 < t344.size + 1 + (rdOf ByteArray.empty y341 t345).size + 2 + (strOfNums y336).size + (rdOf ByteArray.empty y341 t347).size + 2 + 2 + t349.size + 2 + t350.size + 2) = False := eq_false (Nat.not_lt.2 c40)
                                                  by_cases c41 : t344.size + 1 + (rdOf ByteArray.empty y341 t345).size + 2 + (strOfNums y336).size + (rdOf ByteArray.empty y341 t347).size + 2 + 2 + t349.size + 2 + t350.size + 2 + 2 ≤ 9223372036854775807
                                                  · rw [if_pos c41] at H
                                                    have c41b0 := eq_true c41
                                                    have c41b1 : decide (t344.size + 1 + (rdOf ByteArray.empty y341 t345).size + 2 + (strOfNums y336).size + (rdOf ByteArray.empty y341 t347).size + 2 + 2 + t349.size + 2 + t350.size + 2 + 2 ≤ 9223372036854775807) = true := decide_eq_true c41
                                                    try have c41b2 : (9223372036854775807 < t344.size + 1 + (rdOf ByteArray.empty y341 t345).size + 2 + (strOfNums y336).size + (rdOf ByteArray.empty y341 t347).size + 2 + 2 + t349.size + 2 + t350.size + 2 + 2) = False := eq_false (Nat.not_lt.2 c41)
                                                    by_cases c42 : t344.size + 1 + (rdOf ByteArray.empty y341 t345).size + 2 + (strOfNums y336).size + (rdOf ByteArray.empty y341 t347).size + 2 + t344.size + 1 + (rdOf ByteArray.empty y341 t345).size + 2 + (strOfNums y336).size + (rdOf ByteArray.empty y341 t347).size + 2 ≤ 9223372036854775807
                                                    · rw [if_pos c42] at H
                                                      have c42b0 := eq_true c42
                                                      have c42b1 : decide (t344.size + 1 + (rdOf ByteArray.empty y341 t345).size + 2 + (strOfNums y336).size + (rdOf ByteArray.empty y341 t347).size + 2 + t344.size + 1 + (rdOf ByteArray.empty y341 t345).size + 2 + (strOfNums y336).size + (rdOf ByteArray.empty y341 t347).size + 2 ≤ 9223372036854775807) = true := decide_eq_true c42
                                                      try have c42b2 : (9223372036854775807 < t344.size + 1 + (rdOf ByteArray.empty y341 t345).size + 2 + (strOfNums y336).size + (rdOf ByteArray.empty y341 t347).size + 2 + t344.size + 1 + (rdOf ByteArray.empty y341 t345).size + 2 + (strOfNums y336).size + (rdOf ByteArray.empty y341 t347).size + 2) = False := eq_false (Nat.not_lt.2 c42)
                                                      by_cases c43 : t344.size + 1 + (rdOf ByteArray.empty y341 t345).size + 2 + (strOfNums y336).size + (rdOf ByteArray.empty y341 t347).size + 2 + t344.size + 1 + (rdOf ByteArray.empty y341 t345).size + 2 + (strOfNums y336).size + (rdOf ByteArray.empty y341 t347).size + 2 + 2 + t349.size + 2 + t350.size + 2 ≤ 9223372036854775807
                                                      · rw [if_pos c43] at H
                                                        have c43b0 := eq_true c43
                                                        have c43b1 : decide (t344.size + 1 + (rdOf ByteArray.empty y341 t345).size + 2 + (strOfNums y336).size + (rdOf ByteArray.empty y341 t347).size + 2 + t344.size + 1 + (rdOf ByteArray.empty y341 t345).size + 2 + (strOfNums y336).size + (rdOf ByteArray.empty y341 t347).size + 2 + 2 + t349.size + 2 + t350.size + 2 ≤ 9223372036854775807) = true := decide_eq_true c43
                                                        try have c43b2 : (9223372036854775807 < t344.size + 1 + (rdOf ByteArray.empty y341 t345).size + 2 + (strOfNums y336).size + (rdOf ByteArray.empty y341 t347).size + 2 + t344.size + 1 + (rdOf ByteArray.empty y341 t345).size + 2 + (strOfNums y336).size + (rdOf ByteArray.empty y341 t347).size + 2 + 2 + t349.size + 2 + t350.size + 2) = False := eq_false (Nat.not_lt.2 c43)
                                                        by_cases c44 : t344.size + 1 + (rdOf ByteArray.empty y341 t345).size + 2 + (strOfNums y336).size + (rdOf ByteArray.empty y341 t347).size + 2 + t344.size + 1 + (rdOf ByteArray.empty y341 t345).size + 2 + (strOfNums y336).size + (rdOf ByteArray.empty y341 t347).size + 2 + 2 + t349.size + 2 + t350.size + 2 + 2 ≤ 9223372036854775807
                                                        · rw [if_pos c44] at H
                                                          have c44b0 := eq_true c44
                                                          have c44b1 : decide (t344.size + 1 + (rdOf ByteArray.empty y341 t345).size + 2 + (strOfNums y336).size + (rdOf ByteArray.empty y341 t347).size + 2 + t344.size + 1 + (rdOf ByteArray.empty y341 t345).size + 2 + (strOfNums y336).size + (rdOf ByteArray.empty y341 t347).size + 2 + 2 + t349.size + 2 + t350.size + 2 + 2 ≤ 9223372036854775807) = true := decide_eq_true c44
                                                          try have c44b2 : (9223372036854775807 < t344.size + 1 + (rdOf ByteArray.empty y341 t345).size + 2 + (strOfNums y336).size + (rdOf ByteArray.empty y341 t347).size + 2 + t344.size + 1 + (rdOf ByteArray.empty y341 t345).size + 2 + (strOfNums y336).size + (rdOf ByteArray.empty y341 t347).size + 2 + 2 + t349.size + 2 + t350.size + 2 + 2) = False := eq_false (Nat.not_lt.2 c44)
                                                          obtain ⟨y351, hy351⟩ : ∃ y_ : List ByteArray, y_ = (([((((((t344 ++ (⟨#[58]⟩ : ByteArray)) ++ (rdOf ByteArray.empty y341 t345)) ++ (⟨#[48, 48]⟩ : ByteArray)) ++ (strOfNums y336)) ++ (rdOf ByteArray.empty y341 t347)) ++ (⟨#[13, 10]⟩ : ByteArray)) ++ (⟨#[13, 10]⟩ : ByteArray), ((((((⟨#[120, 45]⟩ : ByteArray) ++ t349) ++ (⟨#[58, 32]⟩ : ByteArray)) ++ t350) ++ (⟨#[13, 10]⟩ : ByteArray)) ++ ((((((t344 ++ (⟨#[58]⟩ : ByteArray)) ++ (rdOf ByteArray.empty y341 t345)) ++ (⟨#[48, 48]⟩ : ByteArray)) ++ (strOfNums y336)) ++ (rdOf ByteArray.empty y341 t347)) ++ (⟨#[13, 10]⟩ : ByteArray))) ++ (⟨#[13, 10]⟩ : ByteArray), (((((((t344 ++ (⟨#[58]⟩ : ByteArray)) ++ (rdOf ByteArray.empty y341 t345)) ++ (⟨#[48, 48]⟩ : ByteArray)) ++ (strOfNums y336)) ++ (rdOf ByteArray.empty y341 t347)) ++ (⟨#[13, 10]⟩ : ByteArray)) ++ (((((⟨#[120, 45]⟩ : ByteArray) ++ t349) ++ (⟨#[58, 32]⟩ : ByteArray)) ++ t350) ++ (⟨#[13, 10]⟩ : ByteArray))) ++ (⟨#[13, 10]⟩ : ByteArray), ((((((((t344 ++ (⟨#[58]⟩ : ByteArray)) ++ (rdOf ByteArray.empty y341 t345)) ++ (⟨#[48, 48]⟩ : ByteArray)) ++ (strOfNums y336)) ++ (rdOf ByteArray.empty y341 t347)) ++ (⟨#[13, 10]⟩ : ByteArray)) ++ ((((((t344 ++ (⟨#[58]⟩ : ByteArray)) ++ (rdOf ByteArray.empty y341 t345)) ++ (⟨#[48, 48]⟩ : ByteArray)) ++ (strOfNums y336)) ++ (rdOf ByteArray.empty y341 t347)) ++ (⟨#[13, 10]⟩ : ByteArray))) ++ (((((⟨#[120, 45]⟩ : ByteArray) ++ t349) ++ (⟨#[58, 32]⟩ : ByteArray)) ++ t350) ++ (⟨#[13, 10]⟩ : ByteArray))) ++ (⟨#[13, 10]⟩ : ByteArray)] : List ByteArray)) := ⟨_, rfl⟩
                                                          replace H : (colophonlaw06_HeadCases.l0 kj9 t331 y351 0) = some r := by first | (rw [hy351]; with_reducible exact H) | (have H2_ := (Option.bind_some _ _).symm.trans H; rw [hy351]; with_reducible exact H2_) | (have H2_ := (Option.bind_some _ _).symm.trans H; with_reducible exact H2_) | with_reducible exact H | (rw [hy351]; exact H) | exact H
                                                          have Ny351 := Aside0.mk hy351
                                                          clear hy351
                                                          have H' := Aside0.mk H
                                                          clear H
                                                          obtain ⟨Ao45, co45, eo45⟩ := Kd.V_slice HO_8.out
                                                          subst eo45
                                                          have q46 : ((wrap64 ((t332.length : Int) - 4)) : Int) ≤ ((t332.length : Int) : Int) := of_decide_eq_true (by first | (with_reducible assumption) | assumption)
                                                          obtain ⟨i046, hi046, _, hsz46, _⟩ := info_parts info5
                                                          have hroom46 : t332.length ≤ co45 := (Kd.V_reads' HO_8.out).2.1
                                                          have hC46 : Kd.F (Kd.int .u8) _ _ Ao45 t332.length t332 := (Kd.V_at (base := w.heap.size) HO_8.out).2.2
                                                          have ql46 : (16 : Int) ≤ ((wrap64 ((t332.length : Int) - 4)) : Int) := of_decide_eq_true (by first | (with_reducible assumption) | assumption)
                                                          have hcut46 := cut_mid (P := Tryd.prog) 22 5 .i64 .i64 Tryd.underlying22 hi046 1 hsz46 Ao45 t332.length co45 16 (wrap64 ((t332.length : Int) - 4)) (by omega) ql46 q46 hroom46
                                                          have hr46 := Kd.F_mid (lo := (16 : Int).toNat) (hi := ((wrap64 ((t332.length : Int) - 4)) : Int).toNat) (c := co45) hC46 (by omega) (by omega) hroom46
                                                          obtain ⟨A46, hA46⟩ : ∃ A1, A1 = (if co45 = (16 : Int).toNat then Ao45 else (Ao45 : Option Addr).map (·.add ((16 : Int).toNat * 1))) := ⟨_, rfl⟩
                                                          obtain ⟨c46, hc46⟩ : ∃ c1, c1 = co45 - (16 : Int).toNat := ⟨_, rfl⟩
                                                          have hy46 : y336.length = ((wrap64 ((t332.length : Int) - 4)) : Int).toNat - (16 : Int).toNat := (by rw [Ny336.out, List.length_drop, List.length_take] <;> omega)
                                                          rw [show ((t332).take ((wrap64 ((t332.length : Int) - 4)) : Int).toNat).drop (16 : Int).toNat = y336 from Ny336.out.symm] at hr46
                                                          replace hr46 : Kd.F (Kd.int .u8) _ _ A46 y336.length y336 := (by rw [hA46]; exact hr46)
                                                          rw [← hy46, ← hA46, ← hc46] at hcut46
                                                          have HO340 := Aside0.mk (show Kd.V (Kd.int .u8) 5 _ w.heap.size _ (.slice A46 y336.length c46) y336 from Kd.V_mk (by rw [hy46, hc46]; exact Nat.sub_le_sub_right (Nat.le_trans (by omega) hroom46) _) hr46)
                                                          have HC340 := Aside0.mk (show y336.length ≤ c46 from by rw [hy46, hc46]; exact Nat.sub_le_sub_right (Nat.le_trans (by omega) hroom46) _)
                                                          clear hr46 hC46 hroom46 hi046 hsz46 hc46
                                                          have KY46 := Aside0.mk hy46
                                                          have KA46 := Aside0.mk hA46
                                                          clear hy46 hA46
                                                          replace q46 := eq_true q46
                                                          have hcv47 := V_string (P := Tryd.prog) Tryd.underlying22 Tryd.underlying5 Tryd.underlying9 HO340.out
                                                          try go_wp2_with (first | ((with_reducible refine gate_dst (N := 38) rfl ?_); (try (refine gate_guard (by rfl) ?_; dsimp only)); refine Kd.R_lit Kd.string _ 9 ?hg (N := 38) ?hd (xs := ([(⟨#[]⟩ : ByteArray), (⟨#[32]⟩ : ByteArray), (⟨#[9]⟩ : ByteArray), (⟨#[32, 9, 32]⟩ : ByteArray)] : List ByteArray)) (inner := [.string (⟨#[]⟩ : ByteArray), .string (⟨#[32]⟩ : ByteArray), .string (⟨#[9]⟩ : ByteArray), .string (⟨#[32, 9, 32]⟩ : ByteArray)]) (ok := fun _ => True) (okp := fun _ => True) ?hr ?hp (fun _ hk => hk) trivial (Below.refl _ _) (Nat.le_refl _) (by simp) ?_; (case hd => rfl); (case hg => rfl); (case hr => first | (go_simp; done) | (go_simp; rfl)); (case hp => exact (Reps.one (show Kd.M Kd.string _ _ _ (⟨#[]⟩ : ByteArray) [.string (⟨#[]⟩ : ByteArray)] from rfl) (Reps.one (show Kd.M Kd.string _ _ _ (⟨#[32]⟩ : ByteArray) [.string (⟨#[32]⟩ : ByteArray)] from rfl) (Reps.one (show Kd.M Kd.string _ _ _ (⟨#[9]⟩ : ByteArray) [.string (⟨#[9]⟩ : ByteArray)] from rfl) (Reps.one (show Kd.M Kd.string _ _ _ (⟨#[32, 9, 32]⟩ : ByteArray) [.string (⟨#[32, 9, 32]⟩ : ByteArray)] from rfl) (Reps.none _ _)))))); intro v342 w48 ho49 hb hg_ hnew_; clear hg_ hnew_; (first | rw [← Ny341.out] at ho49 | (simp only [Int.reduceToNat] at ho49; rw [← Ny341.out] at ho49)); have n0_ := Aside0.mk (Kd.V_elder' (by (with_reducible repeat (first | apply Kd.V_alloc | apply Kd.V_drewN | apply Kd.V_drew)); exact HO_8.out) (Kd.R_base ho49) hb); have n1_ := Aside0.mk (Kd.V_elder' (by (with_reducible repeat (first | apply Kd.V_alloc | apply Kd.V_drewN | apply Kd.V_drew)); exact HO340.out) (Kd.R_base ho49) hb); have n2_ := Aside0.mk (Kd.R_lower ho49 (below_size (by repeat (first | (with_reducible first | exact HB.out | apply below_alloc | apply pw_below_drewN | apply below_drew1) | exact HB.out)))); have n3_ := Aside0.mk (below_step (by repeat (first | (with_reducible first | exact HB.out | apply below_alloc | apply pw_below_drewN | apply below_drew1) | exact HB.out)) hb); clear HO_8; clear HO340; clear HB; have HO_8 := n0_; have HO340 := n1_; have HO343 := n2_; have HB := n3_; clear n0_ n1_ n2_ n3_; clear hb ho49))
                                                          have n0_ := Aside0.mk (Kd.V_drew HO_8.out)
                                                          have n1_ := Aside0.mk (Kd.V_drew HO340.out)
                                                          have n2_ := Aside0.mk (Kd.R_drew HO343.out)
                                                          have n3_ := Aside0.mk (below_drew1 HB.out)
                                                          clear HO_8
                                                          clear HO340
                                                          clear HO343
                                                          clear HB
                                                          have HO_8 := n0_
                                                          have HO340 := n1_
                                                          have HO343 := n2_
                                                          have HB := n3_
                                                          clear n0_ n1_ n2_ n3_
                                                          obtain ⟨Aq_, cq_, eq_⟩ := Kd.R_slice HO343.out
                                                          subst eq_
                                                          have p346 : 0 ≤ (t345 : Int) := of_decide_eq_true (by first | (with_reducible assumption) | assumption)
                                                          have q346 : t345 < (y341.length : Int) := of_decide_eq_true (by first | (with_reducible assumption) | assumption)
                                                          obtain ⟨ad346, e346, hx346_0⟩ := Kd.at_string (Kd.R_reads' HO343.out).2.2 t345 p346 q346
                                                          cases e346
                                                          replace p346 := eq_true p346
                                                          replace q346 := eq_true q346
                                                          have p348 : 0 ≤ (t347 : Int) := of_decide_eq_true (by first | (with_reducible assumption) | assumption)
                                                          have q348 : t347 < (y341.length : Int) := of_decide_eq_true (by first | (with_reducible assumption) | assumption)
                                                          obtain ⟨ad348, e348, hx348_0⟩ := Kd.at_string (Kd.R_reads' HO343.out).2.2 t347 p348 q348
                                                          obtain rfl : ad346 = ad348 := (by injection e348)
                                                          replace p348 := eq_true p348
                                                          replace q348 := eq_true q348
                                                          refine start_ (n := 23) (S := fun w' => w'.cell? (ad346.add (t345).toNat) = some (.string (rdOf ByteArray.empty y341 t345)) ∧ w'.cell? (ad346.add (t347).toNat) = some (.string (rdOf ByteArray.empty y341 t347)) ∧ w'.cell? ⟨gq, 0, none⟩ = some (.int .i64 a2) ∧ w'.cell? ⟨gq, 1, none⟩ = some (.int .i64 a3) ∧ w'.cell? ⟨gq, 2, none⟩ = some (.int .i64 a4)) (ds := []) #[false, false, false, false, false, false, false, false, false, false, false, false, false, false, false, false, false, false, false, false, false, false, false] (by kernel_rfl) rfl rfl ⟨hx346_0, hx348_0, (HB.out.cell (World.block_lt_of_cell? _ _ HQ0.out)).trans HQ0.out, (HB.out.cell (World.block_lt_of_cell? _ _ HQ1.out)).trans HQ1.out, (HB.out.cell (World.block_lt_of_cell? _ _ HQ2.out)).trans HQ2.out⟩ (fun hHeld => ?_); refine with_tabW colophonlaw06_HeadCases.tab9 colophonlaw06_HeadCases.bits9 (fun HT_ HW_ => ?_)
                                                          generalize w48.drew = w50 at HO_8 HO340 HO343 HB hx346_0 hx348_0 hHeld ⊢
                                                          refine pure_ (i := 0) (N := some 39) (v := ?_) (a' := ?_) #[true, false, false, false, false, false, false, false, false, false, false, false, false, false, false, false, false, false, false, false, false, false, false] rfl rfl (any_of HT_.out (by kernel_rfl)) (fun _ _ _ h => h) (Or.inl ⟨by rfl, ?_⟩) ?_ ?_
                                                          rotate_left
                                                          · intro w'
                                                            go_simp
                                                            with_reducible rfl
                                                          rotate_left
                                                          · simp only [Act.put, List.setIfInBounds_toArray, List.set_cons_zero, List.set_cons_succ, i64_w, i32_w]
                                                            rfl
                                                          refine take_ (i := 1) (N := some 40) (v := ?_) (a' := ?_) #[true, true, false, false, false, false, false, false, false, false, false, false, false, false, false, false, false, false, false, false, false, false, false] rfl rfl (take_ofW HT_.out HW_.out (by kernel_rfl)) (fun _ _ _ h => h) (Or.inl ⟨by rfl, ?_⟩) hHeld ?_ ?_
                                                          rotate_left
                                                          · rintro w' ⟨s0, s1, s2, s3, s4⟩
                                                            go_simp
                                                            with_reducible rfl
                                                          rotate_left
                                                          · simp only [Act.put, List.setIfInBounds_toArray, List.set_cons_zero, List.set_cons_succ, i64_w, i32_w]
                                                            rfl
                                                          refine pure_ (i := 4) (N := some 43) (v := ?_) (a' := ?_) #[true, true, false, false, true, false, false, false, false, false, false, false, false, false, false, false, false, false, false, false, false, false, false] rfl rfl (any_of HT_.out (by kernel_rfl)) (fun _ _ _ h => h) (Or.inl ⟨by rfl, ?_⟩) ?_ ?_
                                                          rotate_left
                                                          · intro w'
                                                            go_simp
                                                            with_reducible rfl
                                                          rotate_left
                                                          · simp only [Act.put, List.setIfInBounds_toArray, List.set_cons_zero, List.set_cons_succ, i64_w, i32_w]
                                                            rfl
                                                          refine pure_ (i := 5) (N := some 44) (v := ?_) (a' := ?_) #[true, true, false, false, true, true, false, false, false, false, false, false, false, false, false, false, false, false, false, false, false, false, false] rfl rfl (any_of HT_.out (by kernel_rfl)) (fun _ _ _ h => h) (Or.inl ⟨by rfl, ?_⟩) ?_ ?_
                                                          rotate_left
                                                          · intro w'
                                                            go_simp
                                                            with_reducible rfl
                                                          rotate_left
                                                          · simp only [Act.put, List.setIfInBounds_toArray, List.set_cons_zero, List.set_cons_succ, i64_w, i32_w]
                                                            rfl
                                                          refine take_ (i := 6) (N := some 45) (v := ?_) (a' := ?_) #[true, true, false, false, true, true, true, false, false, false, false, false, false, false, false, false, false, false, false, false, false, false, false] rfl rfl (take_ofW HT_.out HW_.out (by kernel_rfl)) (fun _ _ _ h => h) (Or.inl ⟨by rfl, ?_⟩) hHeld ?_ ?_
                                                          rotate_left
                                                          · rintro w' ⟨s0, s1, s2, s3, s4⟩
                                                            go_simp
                                                            with_reducible rfl
                                                          rotate_left
                                                          · simp only [Act.put, List.setIfInBounds_toArray, List.set_cons_zero, List.set_cons_succ, i64_w, i32_w]
                                                            rfl
                                                          refine pure_ (i := 12) (N := some 51) (v := ?_) (a' := ?_) #[true, true, false, false, true, true, true, false, false, false, false, false, true, false, false, false, false, false, false, false, false, false, false] rfl rfl (any_of HT_.out (by kernel_rfl)) (fun _ _ _ h => h) (Or.inl ⟨by rfl, ?_⟩) ?_ ?_
                                                          rotate_left
                                                          · intro w'
                                                            go_simp
                                                            with_reducible rfl
                                                          rotate_left
                                                          · simp only [Act.put, List.setIfInBounds_toArray, List.set_cons_zero, List.set_cons_succ, i64_w, i32_w]
                                                            rfl
                                                          refine pure_ (i := 14) (N := some 53) (v := ?_) (a' := ?_) #[true, true, false, false, true, true, true, false, false, false, false, false, true, false, true, false, false, false, false, false, false, false, false] rfl rfl (any_of HT_.out (by kernel_rfl)) (fun _ _ _ h => h) (Or.inl ⟨by rfl, ?_⟩) ?_ ?_
                                                          rotate_left
                                                          · intro w'
                                                            go_simp
                                                            with_reducible rfl
                                                          rotate_left
                                                          · simp only [Act.put, List.setIfInBounds_toArray, List.set_cons_zero, List.set_cons_succ, i64_w, i32_w]
                                                            rfl
                                                          refine pure_ (i := 15) (N := some 54) (v := ?_) (a' := ?_) #[true, true, false, false, true, true, true, false, false, false, false, false, true, false, true, true, false, false, false, false, false, false, false] rfl rfl (any_of HT_.out (by kernel_rfl)) (fun _ _ _ h => h) (Or.inl ⟨by rfl, ?_⟩) ?_ ?_
                                                          rotate_left
                                                          · intro w'
                                                            go_simp
                                                            with_reducible rfl
                                                          rotate_left
                                                          · simp only [Act.put, List.setIfInBounds_toArray, List.set_cons_zero, List.set_cons_succ, i64_w, i32_w]
                                                            rfl
                                                          refine take_ (i := 16) (N := some 55) (v := ?_) (a' := ?_) #[true, true, false, false, true, true, true, false, false, false, false, false, true, false, true, true, true, false, false, false, false, false, false] rfl rfl (take_ofW HT_.out HW_.out (by kernel_rfl)) (fun _ _ _ h => h) (Or.inl ⟨by rfl, ?_⟩) hHeld ?_ ?_
                                                          rotate_left
                                                          · rintro w' ⟨s0, s1, s2, s3, s4⟩
                                                            go_simp
                                                            with_reducible rfl
                                                          rotate_left
                                                          · simp only [Act.put, List.setIfInBounds_toArray, List.set_cons_zero, List.set_cons_succ, i64_w, i32_w]
                                                            rfl
                                                          refine one_ (i := 2) (N := some 41) #[true, true, true, false, true, true, true, false, false, false, false, false, true, false, true, true, true, false, false, false, false, false, false] rfl rfl (one_of HT_.out (by kernel_rfl)) (by decide) (fun K hK => ?_)
                                                          refine goes_ Tryd.func21 (by kernel_rfl) rfl #[.string (⟨#[99, 111, 110, 116, 101, 110, 116, 45, 108, 101, 110, 103, 116, 104]⟩ : ByteArray), .int .i64 a2] (by rfl) rfl rfl (by (try simp only [List.map_toArray, List.map_cons, List.map_nil]); first | done | rfl | (simp only [List.length_drop, List.length_take]; rfl)) ?_
                                                          with_reducible refine (colophonlaw06_mixed.calls kj9 (⟨#[99, 111, 110, 116, 101, 110, 116, 45, 108, 101, 110, 103, 116, 104]⟩ : ByteArray) a2 t344 _ A18.out).mono ?_
                                                          rintro e w51 ⟨rfl, hb⟩
                                                          have HS0_ := (hb.cell (World.block_lt_of_cell? _ _ (hHeld.1))).trans (hHeld.1)
                                                          have HS1_ := (hb.cell (World.block_lt_of_cell? _ _ (hHeld.2.1))).trans (hHeld.2.1)
                                                          have HS2_ := (hb.cell (World.block_lt_of_cell? _ _ (hHeld.2.2.1))).trans (hHeld.2.2.1)
                                                          have HS3_ := (hb.cell (World.block_lt_of_cell? _ _ (hHeld.2.2.2.1))).trans (hHeld.2.2.2.1)
                                                          have HS4_ := (hb.cell (World.block_lt_of_cell? _ _ (hHeld.2.2.2.2))).trans (hHeld.2.2.2.2)
                                                          refine ⟨_, rfl, ?_⟩
                                                          have n0_ := Aside0.mk (Kd.V_below (by (with_reducible repeat (first | apply Kd.V_alloc | apply Kd.V_drewN | apply Kd.V_drew)); exact HO_8.out) hb)
                                                          have n1_ := Aside0.mk (Kd.V_below (by (with_reducible repeat (first | apply Kd.V_alloc | apply Kd.V_drewN | apply Kd.V_drew)); exact HO340.out) hb)
                                                          have n2_ := Aside0.mk (Kd.R_below (by (with_reducible repeat (first | apply Kd.R_alloc | apply Kd.R_drewN | apply Kd.R_drew)); exact HO343.out) hb)
                                                          have n3_ := Aside0.mk (below_step (by repeat (first | (with_reducible first | exact HB.out | apply below_alloc | apply pw_below_drewN | apply below_drew1) | exact HB.out)) hb)
                                                          clear HO_8
                                                          clear HO340
                                                          clear HO343
                                                          clear HB
                                                          have HO_8 := n0_
                                                          have HO340 := n1_
                                                          have HO343 := n2_
                                                          have HB := n3_
                                                          clear n0_ n1_ n2_ n3_
                                                          (try clear hb)
                                                          (try clear hb2)
                                                          (try clear hk)
                                                          (try clear hi)
                                                          refine hK.out _ _ ⟨HS0_, HS1_, HS2_, HS3_, HS4_⟩ (fun hHeld => ?_)
                                                          clear hK K
                                                          refine norm_ (a' := ?_) ?_ ?_
                                                          rotate_left
                                                          · show Act.put _ (some 41) _ = _
                                                            simp only [Act.put, List.setIfInBounds_toArray, List.set_cons_zero, List.set_cons_succ, i64_w, i32_w]
                                                            rfl
                                                          refine pure_ (i := 3) (N := some 42) (v := ?_) (a' := ?_) #[true, true, true, true, true, true, true, false, false, false, false, false, true, false, true, true, true, false, false, false, false, false, false] rfl rfl (any_of HT_.out (by kernel_rfl)) (fun _ _ _ h => h) (Or.inl ⟨by rfl, ?_⟩) ?_ ?_
                                                          rotate_left
                                                          · intro w'
                                                            go_simp
                                                            with_reducible rfl
                                                          rotate_left
                                                          · simp only [Act.put, List.setIfInBounds_toArray, List.set_cons_zero, List.set_cons_succ, i64_w, i32_w]
                                                            rfl
                                                          refine one_ (i := 7) (N := some 46) #[true, true, true, true, true, true, true, true, false, false, false, false, true, false, true, true, true, false, false, false, false, false, false] rfl rfl (one_of HT_.out (by kernel_rfl)) (by decide) (fun K hK => ?_)
                                                          refine goes_ Tryd.func16 (by kernel_rfl) rfl #[.int .i64 a3, .int .i64 4] (by rfl) rfl rfl (by (try simp only [List.map_toArray, List.map_cons, List.map_nil]); first | done | rfl | (simp only [List.length_drop, List.length_take]; rfl)) ?_
                                                          with_reducible refine (colophonref00_Bring.calls a3 4 t345 _ A20.out).mono ?_
                                                          rintro e w' ⟨rfl, ⟨nd, rfl⟩⟩
                                                          refine ⟨_, rfl, ?_⟩
                                                          obtain ⟨Ao52, co52, eo52⟩ := Kd.R_slice HO343.out
                                                          (first | subst eo52 | (injection eo52 with f1_ f2_ f3_; have f4_ := f1_.symm; have f5_ := f3_.symm; clear f1_ f2_ f3_; subst f4_; subst f5_))
                                                          refine hK.out _ _ ⟨hHeld.1, hHeld.2.1, hHeld.2.2.1, hHeld.2.2.2.1, hHeld.2.2.2.2⟩ (fun hHeld => ?_)
                                                          clear hK K
                                                          refine norm_ (a' := ?_) ?_ ?_
                                                          rotate_left
                                                          · show Act.put _ (some 46) _ = _
                                                            simp only [Act.put, List.setIfInBounds_toArray, List.set_cons_zero, List.set_cons_succ, i64_w, i32_w]
                                                            rfl
                                                          refine pure_ (i := 8) (N := some 47) (v := ?_) (a' := ?_) #[true, true, true, true, true, true, true, true, true, false, false, false, true, false, true, true, true, false, false, false, false, false, false] rfl rfl (any_of HT_.out (by kernel_rfl)) (fun _ _ _ h => h) (Or.inl ⟨by rfl, ?_⟩) ?_ ?_
                                                          rotate_left
                                                          · intro w'
                                                            go_simp
                                                            with_reducible rfl
                                                          rotate_left
                                                          · simp only [Act.put, List.setIfInBounds_toArray, List.set_cons_zero, List.set_cons_succ, i64_w, i32_w]
                                                            rfl
                                                          refine take_ (i := 9) (N := some 48) (v := ?_) (a' := ?_) #[true, true, true, true, true, true, true, true, true, true, false, false, true, false, true, true, true, false, false, false, false, false, false] rfl rfl (take_ofW HT_.out HW_.out (by kernel_rfl)) (fun _ _ _ h => h) (Or.inl ⟨by rfl, ?_⟩) hHeld ?_ ?_
                                                          rotate_left
                                                          · rintro w' ⟨s0, s1, s2, s3, s4⟩
                                                            go_simp
                                                            with_reducible rfl
                                                          rotate_left
                                                          · simp only [Act.put, List.setIfInBounds_toArray, List.set_cons_zero, List.set_cons_succ, i64_w, i32_w]
                                                            rfl
                                                          refine pure_ (i := 10) (N := some 49) (v := ?_) (a' := ?_) #[true, true, true, true, true, true, true, true, true, true, true, false, true, false, true, true, true, false, false, false, false, false, false] rfl rfl (any_of HT_.out (by kernel_rfl)) (fun _ _ _ h => h) (Or.inl ⟨by rfl, ?_⟩) ?_ ?_
                                                          rotate_left
                                                          · intro w'
                                                            go_simp
                                                            with_reducible rfl
                                                          rotate_left
                                                          · simp only [Act.put, List.setIfInBounds_toArray, List.set_cons_zero, List.set_cons_succ, i64_w, i32_w]
                                                            rfl
                                                          refine pure_ (i := 11) (N := some 50) (v := ?_) (a' := ?_) #[true, true, true, true, true, true, true, true, true, true, true, true, true, false, true, true, true, false, false, false, false, false, false] rfl rfl (any_of HT_.out (by kernel_rfl)) (fun _ _ _ h => h) (Or.inl ⟨by rfl, ?_⟩) ?_ ?_
                                                          rotate_left
                                                          · intro w'
                                                            go_simp
                                                            with_reducible rfl
                                                          rotate_left
                                                          · simp only [Act.put, List.setIfInBounds_toArray, List.set_cons_zero, List.set_cons_succ, i64_w, i32_w]
                                                            rfl
                                                          refine pure_ (i := 13) (N := some 52) (v := ?_) (a' := ?_) #[true, true, true, true, true, true, true, true, true, true, true, true, true, true, true, true, true, false, false, false, false, false, false] rfl rfl (any_of HT_.out (by kernel_rfl)) (fun _ _ _ h => h) (Or.inl ⟨by rfl, ?_⟩) ?_ ?_
                                                          rotate_left
                                                          · intro w'
                                                            go_simp
                                                            with_reducible rfl
                                                          rotate_left
                                                          · simp only [Act.put, List.setIfInBounds_toArray, List.set_cons_zero, List.set_cons_succ, i64_w, i32_w]
                                                            rfl
                                                          refine one_ (i := 17) (N := some 56) #[true, true, true, true, true, true, true, true, true, true, true, true, true, true, true, true, true, true, false, false, false, false, false] rfl rfl (one_of HT_.out (by kernel_rfl)) (by decide) (fun K hK => ?_)
                                                          refine goes_ Tryd.func16 (by kernel_rfl) rfl #[.int .i64 a4, .int .i64 4] (by rfl) rfl rfl (by (try simp only [List.map_toArray, List.map_cons, List.map_nil]); first | done | rfl | (simp only [List.length_drop, List.length_take]; rfl)) ?_
                                                          with_reducible refine (colophonref00_Bring.calls a4 4 t347 _ A26.out).mono ?_
                                                          rintro e w' ⟨rfl, ⟨nd, rfl⟩⟩
                                                          refine ⟨_, rfl, ?_⟩
                                                          refine hK.out _ _ ⟨hHeld.1, hHeld.2.1, hHeld.2.2.1, hHeld.2.2.2.1, hHeld.2.2.2.2⟩ (fun hHeld => ?_)
                                                          clear hK K
                                                          refine norm_ (a' := ?_) ?_ ?_
                                                          rotate_left
                                                          · show Act.put _ (some 56) _ = _
                                                            simp only [Act.put, List.setIfInBounds_toArray, List.set_cons_zero, List.set_cons_succ, i64_w, i32_w]
                                                            rfl
                                                          refine pure_ (i := 18) (N := some 57) (v := ?_) (a' := ?_) #[true, true, true, true, true, true, true, true, true, true, true, true, true, true, true, true, true, true, true, false, false, false, false] rfl rfl (any_of HT_.out (by kernel_rfl)) (fun _ _ _ h => h) (Or.inl ⟨by rfl, ?_⟩) ?_ ?_
                                                          rotate_left
                                                          · intro w'
                                                            go_simp
                                                            with_reducible rfl
                                                          rotate_left
                                                          · simp only [Act.put, List.setIfInBounds_toArray, List.set_cons_zero, List.set_cons_succ, i64_w, i32_w]
                                                            rfl
                                                          refine take_ (i := 19) (N := some 58) (v := ?_) (a' := ?_) #[true, true, true, true, true, true, true, true, true, true, true, true, true, true, true, true, true, true, true, true, false, false, false] rfl rfl (take_ofW HT_.out HW_.out (by kernel_rfl)) (fun _ _ _ h => h) (Or.inl ⟨by rfl, ?_⟩) hHeld ?_ ?_
                                                          rotate_left
                                                          · rintro w' ⟨s0, s1, s2, s3, s4⟩
                                                            go_simp
                                                            with_reducible rfl
                                                          rotate_left
                                                          · simp only [Act.put, List.setIfInBounds_toArray, List.set_cons_zero, List.set_cons_succ, i64_w, i32_w]
                                                            rfl
                                                          refine pure_ (i := 20) (N := some 59) (v := ?_) (a' := ?_) #[true, true, true, true, true, true, true, true, true, true, true, true, true, true, true, true, true, true, true, true, true, false, false] rfl rfl (any_of HT_.out (by kernel_rfl)) (fun _ _ _ h => h) (Or.inl ⟨by rfl, ?_⟩) ?_ ?_
                                                          rotate_left
                                                          · intro w'
                                                            go_simp
                                                            with_reducible rfl
                                                          rotate_left
                                                          · simp only [Act.put, List.setIfInBounds_toArray, List.set_cons_zero, List.set_cons_succ, i64_w, i32_w]
                                                            rfl
                                                          refine pure_ (i := 21) (N := some 60) (v := ?_) (a' := ?_) #[true, true, true, true, true, true, true, true, true, true, true, true, true, true, true, true, true, true, true, true, true, true, false] rfl rfl (any_of HT_.out (by kernel_rfl)) (fun _ _ _ h => h) (Or.inl ⟨by rfl, ?_⟩) ?_ ?_
                                                          rotate_left
                                                          · intro w'
                                                            go_simp
                                                            with_reducible rfl
                                                          rotate_left
                                                          · simp only [Act.put, List.setIfInBounds_toArray, List.set_cons_zero, List.set_cons_succ, i64_w, i32_w]
                                                            rfl
                                                          refine pure_ (i := 22) (N := some 12) (v := ?_) (a' := ?_) #[true, true, true, true, true, true, true, true, true, true, true, true, true, true, true, true, true, true, true, true, true, true, true] rfl rfl (any_of HT_.out (by kernel_rfl)) (fun _ _ _ h => h) (Or.inl ⟨by rfl, ?_⟩) ?_ ?_
                                                          rotate_left
                                                          · intro w'
                                                            go_simp
                                                            with_reducible rfl
                                                          rotate_left
                                                          · simp only [Act.put, List.setIfInBounds_toArray, List.set_cons_zero, List.set_cons_succ, i64_w, i32_w]
                                                            rfl
                                                          refine done_ (done_of HT_.out (by kernel_rfl)) ?_
                                                          try go_wp2_with (first | ((with_reducible refine gate_callee (f := 22) rfl ?_); refine goesL_ (some 62) rfl rfl Tryd.func22 (by kernel_rfl) rfl #[.slice A1 l1.length c1] rfl (by (try simp only [List.map_toArray, List.map_cons, List.map_nil]); first | done | rfl | (simp only [List.length_drop, List.length_take]; rfl)) ?_; (with_reducible refine (colophonlaw06_letters.calls kj9 _ _ l1 t349 _ ?side1 ?side2 A31.out).mono ?_); (case side1 => repeat (first | exact (Kd.C_below HR1.out (by repeat (first | (with_reducible first | exact HB.out | apply below_alloc | apply pw_below_drewN | apply below_drew1) | exact HB.out))) | (with_reducible refine Kd.C_alloc ?_ _) | (with_reducible refine Kd.C_drewN ?_ _) | (with_reducible refine Kd.C_drew ?_))); (case side2 => exact HC1.out); rintro e w53 ⟨rfl, hb⟩; refine ⟨_, rfl, ?_⟩; have n0_ := Aside0.mk (Kd.V_below (by (with_reducible repeat (first | apply Kd.V_alloc | apply Kd.V_drewN | apply Kd.V_drew)); exact HO_8.out) hb); have n1_ := Aside0.mk (Kd.V_below (by (with_reducible repeat (first | apply Kd.V_alloc | apply Kd.V_drewN | apply Kd.V_drew)); exact HO340.out) hb); have n2_ := Aside0.mk (Kd.R_below (by (with_reducible repeat (first | apply Kd.R_alloc | apply Kd.R_drewN | apply Kd.R_drew)); exact HO343.out) hb); have n3_ := Aside0.mk (below_step (by repeat (first | (with_reducible first | exact HB.out | apply below_alloc | apply pw_below_drewN | apply below_drew1) | exact HB.out)) hb); clear HO_8; clear HO340; clear HO343; clear HB; have HO_8 := n0_; have HO340 := n1_; have HO343 := n2_; have HB := n3_; clear n0_ n1_ n2_ n3_; (try clear hb); (try clear hb2); (try clear hk); (try clear hi)) | ((with_reducible refine gate_callee (f := 22) rfl ?_); refine goesL_ (some 66) rfl rfl Tryd.func22 (by kernel_rfl) rfl #[.slice A1 l1.length c1] rfl (by (try simp only [List.map_toArray, List.map_cons, List.map_nil]); first | done | rfl | (simp only [List.length_drop, List.length_take]; rfl)) ?_; (with_reducible refine (colophonlaw06_letters.calls kj9 _ _ l1 t350 _ ?side1 ?side2 A34.out).mono ?_); (case side1 => repeat (first | exact (Kd.C_below HR1.out HB.out) | (with_reducible refine Kd.C_alloc ?_ _) | (with_reducible refine Kd.C_drewN ?_ _) | (with_reducible refine Kd.C_drew ?_))); (case side2 => exact HC1.out); rintro e w54 ⟨rfl, hb⟩; refine ⟨_, rfl, ?_⟩; have n0_ := Aside0.mk (Kd.V_below (by (with_reducible repeat (first | apply Kd.V_alloc | apply Kd.V_drewN | apply Kd.V_drew)); exact HO_8.out) hb); have n1_ := Aside0.mk (Kd.V_below (by (with_reducible repeat (first | apply Kd.V_alloc | apply Kd.V_drewN | apply Kd.V_drew)); exact HO340.out) hb); have n2_ := Aside0.mk (Kd.R_below (by (with_reducible repeat (first | apply Kd.R_alloc | apply Kd.R_drewN | apply Kd.R_drew)); exact HO343.out) hb); have n3_ := Aside0.mk (below_step (by repeat (first | (with_reducible first | exact HB.out | apply below_alloc | apply pw_below_drewN | apply below_drew1) | exact HB.out)) hb); clear HO_8; clear HO340; clear HO343; clear HB; have HO_8 := n0_; have HO340 := n1_; have HO343 := n2_; have HB := n3_; clear n0_ n1_ n2_ n3_; (try clear hb); (try clear hb2); (try clear hk); (try clear hi)) | ((with_reducible refine gate_dst (N := 85) rfl ?_); (try (refine gate_guard (by rfl) ?_; dsimp only)); refine Kd.R_lit Kd.string _ 9 ?hg (N := 85) ?hd (xs := ([((((((t344 ++ (⟨#[58]⟩ : ByteArray)) ++ (rdOf ByteArray.empty y341 t345)) ++ (⟨#[48, 48]⟩ : ByteArray)) ++ (strOfNums y336)) ++ (rdOf ByteArray.empty y341 t347)) ++ (⟨#[13, 10]⟩ : ByteArray)) ++ (⟨#[13, 10]⟩ : ByteArray), ((((((⟨#[120, 45]⟩ : ByteArray) ++ t349) ++ (⟨#[58, 32]⟩ : ByteArray)) ++ t350) ++ (⟨#[13, 10]⟩ : ByteArray)) ++ ((((((t344 ++ (⟨#[58]⟩ : ByteArray)) ++ (rdOf ByteArray.empty y341 t345)) ++ (⟨#[48, 48]⟩ : ByteArray)) ++ (strOfNums y336)) ++ (rdOf ByteArray.empty y341 t347)) ++ (⟨#[13, 10]⟩ : ByteArray))) ++ (⟨#[13, 10]⟩ : ByteArray), (((((((t344 ++ (⟨#[58]⟩ : ByteArray)) ++ (rdOf ByteArray.empty y341 t345)) ++ (⟨#[48, 48]⟩ : ByteArray)) ++ (strOfNums y336)) ++ (rdOf ByteArray.empty y341 t347)) ++ (⟨#[13, 10]⟩ : ByteArray)) ++ (((((⟨#[120, 45]⟩ : ByteArray) ++ t349) ++ (⟨#[58, 32]⟩ : ByteArray)) ++ t350) ++ (⟨#[13, 10]⟩ : ByteArray))) ++ (⟨#[13, 10]⟩ : ByteArray), ((((((((t344 ++ (⟨#[58]⟩ : ByteArray)) ++ (rdOf ByteArray.empty y341 t345)) ++ (⟨#[48, 48]⟩ : ByteArray)) ++ (strOfNums y336)) ++ (rdOf ByteArray.empty y341 t347)) ++ (⟨#[13, 10]⟩ : ByteArray)) ++ ((((((t344 ++ (⟨#[58]⟩ : ByteArray)) ++ (rdOf ByteArray.empty y341 t345)) ++ (⟨#[48, 48]⟩ : ByteArray)) ++ (strOfNums y336)) ++ (rdOf ByteArray.empty y341 t347)) ++ (⟨#[13, 10]⟩ : ByteArray))) ++ (((((⟨#[120, 45]⟩ : ByteArray) ++ t349) ++ (⟨#[58, 32]⟩ : ByteArray)) ++ t350) ++ (⟨#[13, 10]⟩ : ByteArray))) ++ (⟨#[13, 10]⟩ : ByteArray)] : List ByteArray)) (inner := [.string (((((((t344 ++ (⟨#[58]⟩ : ByteArray)) ++ (rdOf ByteArray.empty y341 t345)) ++ (⟨#[48, 48]⟩ : ByteArray)) ++ (strOfNums y336)) ++ (rdOf ByteArray.empty y341 t347)) ++ (⟨#[13, 10]⟩ : ByteArray)) ++ (⟨#[13, 10]⟩ : ByteArray)), .string (((((((⟨#[120, 45]⟩ : ByteArray) ++ t349) ++ (⟨#[58, 32]⟩ : ByteArray)) ++ t350) ++ (⟨#[13, 10]⟩ : ByteArray)) ++ ((((((t344 ++ (⟨#[58]⟩ : ByteArray)) ++ (rdOf ByteArray.empty y341 t345)) ++ (⟨#[48, 48]⟩ : ByteArray)) ++ (strOfNums y336)) ++ (rdOf ByteArray.empty y341 t347)) ++ (⟨#[13, 10]⟩ : ByteArray))) ++ (⟨#[13, 10]⟩ : ByteArray)), .string ((((((((t344 ++ (⟨#[58]⟩ : ByteArray)) ++ (rdOf ByteArray.empty y341 t345)) ++ (⟨#[48, 48]⟩ : ByteArray)) ++ (strOfNums y336)) ++ (rdOf ByteArray.empty y341 t347)) ++ (⟨#[13, 10]⟩ : ByteArray)) ++ (((((⟨#[120, 45]⟩ : ByteArray) ++ t349) ++ (⟨#[58, 32]⟩ : ByteArray)) ++ t350) ++ (⟨#[13, 10]⟩ : ByteArray))) ++ (⟨#[13, 10]⟩ : ByteArray)), .string (((((((((t344 ++ (⟨#[58]⟩ : ByteArray)) ++ (rdOf ByteArray.empty y341 t345)) ++ (⟨#[48, 48]⟩ : ByteArray)) ++ (strOfNums y336)) ++ (rdOf ByteArray.empty y341 t347)) ++ (⟨#[13, 10]⟩ : ByteArray)) ++ ((((((t344 ++ (⟨#[58]⟩ : ByteArray)) ++ (rdOf ByteArray.empty y341 t345)) ++ (⟨#[48, 48]⟩ : ByteArray)) ++ (strOfNums y336)) ++ (rdOf ByteArray.empty y341 t347)) ++ (⟨#[13, 10]⟩ : ByteArray))) ++ (((((⟨#[120, 45]⟩ : ByteArray) ++ t349) ++ (⟨#[58, 32]⟩ : ByteArray)) ++ t350) ++ (⟨#[13, 10]⟩ : ByteArray))) ++ (⟨#[13, 10]⟩ : ByteArray))]) (ok := fun _ => True) (okp := fun _ => True) ?hr ?hp (fun _ hk => hk) trivial (Below.refl _ _) (Nat.le_refl _) (by simp) ?_; (case hd => rfl); (case hg => rfl); (case hr => first | (go_simp; done) | (go_simp; rfl)); (case hp => exact (Reps.one (show Kd.M Kd.string _ _ _ (((((((t344 ++ (⟨#[58]⟩ : ByteArray)) ++ (rdOf ByteArray.empty y341 t345)) ++ (⟨#[48, 48]⟩ : ByteArray)) ++ (strOfNums y336)) ++ (rdOf ByteArray.empty y341 t347)) ++ (⟨#[13, 10]⟩ : ByteArray)) ++ (⟨#[13, 10]⟩ : ByteArray)) [.string (((((((t344 ++ (⟨#[58]⟩ : ByteArray)) ++ (rdOf ByteArray.empty y341 t345)) ++ (⟨#[48, 48]⟩ : ByteArray)) ++ (strOfNums y336)) ++ (rdOf ByteArray.empty y341 t347)) ++ (⟨#[13, 10]⟩ : ByteArray)) ++ (⟨#[13, 10]⟩ : ByteArray))] from rfl) (Reps.one (show Kd.M Kd.string _ _ _ (((((((⟨#[120, 45]⟩ : ByteArray) ++ t349) ++ (⟨#[58, 32]⟩ : ByteArray)) ++ t350) ++ (⟨#[13, 10]⟩ : ByteArray)) ++ ((((((t344 ++ (⟨#[58]⟩ : ByteArray)) ++ (rdOf ByteArray.empty y341 t345)) ++ (⟨#[48, 48]⟩ : ByteArray)) ++ (strOfNums y336)) ++ (rdOf ByteArray.empty y341 t347)) ++ (⟨#[13, 10]⟩ : ByteArray))) ++ (⟨#[13, 10]⟩ : ByteArray)) [.string (((((((⟨#[120, 45]⟩ : ByteArray) ++ t349) ++ (⟨#[58, 32]⟩ : ByteArray)) ++ t350) ++ (⟨#[13, 10]⟩ : ByteArray)) ++ ((((((t344 ++ (⟨#[58]⟩ : ByteArray)) ++ (rdOf ByteArray.empty y341 t345)) ++ (⟨#[48, 48]⟩ : ByteArray)) ++ (strOfNums y336)) ++ (rdOf ByteArray.empty y341 t347)) ++ (⟨#[13, 10]⟩ : ByteArray))) ++ (⟨#[13, 10]⟩ : ByteArray))] from rfl) (Reps.one (show Kd.M Kd.string _ _ _ ((((((((t344 ++ (⟨#[58]⟩ : ByteArray)) ++ (rdOf ByteArray.empty y341 t345)) ++ (⟨#[48, 48]⟩ : ByteArray)) ++ (strOfNums y336)) ++ (rdOf ByteArray.empty y341 t347)) ++ (⟨#[13, 10]⟩ : ByteArray)) ++ (((((⟨#[120, 45]⟩ : ByteArray) ++ t349) ++ (⟨#[58, 32]⟩ : ByteArray)) ++ t350) ++ (⟨#[13, 10]⟩ : ByteArray))) ++ (⟨#[13, 10]⟩ : ByteArray)) [.string ((((((((t344 ++ (⟨#[58]⟩ : ByteArray)) ++ (rdOf ByteArray.empty y341 t345)) ++ (⟨#[48, 48]⟩ : ByteArray)) ++ (strOfNums y336)) ++ (rdOf ByteArray.empty y341 t347)) ++ (⟨#[13, 10]⟩ : ByteArray)) ++ (((((⟨#[120, 45]⟩ : ByteArray) ++ t349) ++ (⟨#[58, 32]⟩ : ByteArray)) ++ t350) ++ (⟨#[13, 10]⟩ : ByteArray))) ++ (⟨#[13, 10]⟩ : ByteArray))] from rfl) (Reps.one (show Kd.M Kd.string _ _ _ (((((((((t344 ++ (⟨#[58]⟩ : ByteArray)) ++ (rdOf ByteArray.empty y341 t345)) ++ (⟨#[48, 48]⟩ : ByteArray)) ++ (strOfNums y336)) ++ (rdOf ByteArray.empty y341 t347)) ++ (⟨#[13, 10]⟩ : ByteArray)) ++ ((((((t344 ++ (⟨#[58]⟩ : ByteArray)) ++ (rdOf ByteArray.empty y341 t345)) ++ (⟨#[48, 48]⟩ : ByteArray)) ++ (strOfNums y336)) ++ (rdOf ByteArray.empty y341 t347)) ++ (⟨#[13, 10]⟩ : ByteArray))) ++ (((((⟨#[120, 45]⟩ : ByteArray) ++ t349) ++ (⟨#[58, 32]⟩ : ByteArray)) ++ t350) ++ (⟨#[13, 10]⟩ : ByteArray))) ++ (⟨#[13, 10]⟩ : ByteArray)) [.string (((((((((t344 ++ (⟨#[58]⟩ : ByteArray)) ++ (rdOf ByteArray.empty y341 t345)) ++ (⟨#[48, 48]⟩ : ByteArray)) ++ (strOfNums y336)) ++ (rdOf ByteArray.empty y341 t347)) ++ (⟨#[13, 10]⟩ : ByteArray)) ++ ((((((t344 ++ (⟨#[58]⟩ : ByteArray)) ++ (rdOf ByteArray.empty y341 t345)) ++ (⟨#[48, 48]⟩ : ByteArray)) ++ (strOfNums y336)) ++ (rdOf ByteArray.empty y341 t347)) ++ (⟨#[13, 10]⟩ : ByteArray))) ++ (((((⟨#[120, 45]⟩ : ByteArray) ++ t349) ++ (⟨#[58, 32]⟩ : ByteArray)) ++ t350) ++ (⟨#[13, 10]⟩ : ByteArray))) ++ (⟨#[13, 10]⟩ : ByteArray))] from rfl) (Reps.none _ _)))))); intro v352 w55 ho56 hb hg_ hnew_; clear hg_ hnew_; (first | rw [← Ny351.out] at ho56 | (simp only [Int.reduceToNat] at ho56; rw [← Ny351.out] at ho56)); have n0_ := Aside0.mk (Kd.V_elder' (by (with_reducible repeat (first | apply Kd.V_alloc | apply Kd.V_drewN | apply Kd.V_drew)); exact HO_8.out) (Kd.R_base ho56) hb); have n1_ := Aside0.mk (Kd.V_elder' (by (with_reducible repeat (first | apply Kd.V_alloc | apply Kd.V_drewN | apply Kd.V_drew)); exact HO340.out) (Kd.R_base ho56) hb); have n2_ := Aside0.mk (Kd.R_elder' (by (with_reducible repeat (first | apply Kd.R_alloc | apply Kd.R_drewN | apply Kd.R_drew)); exact HO343.out) (Kd.R_base ho56) hb); have n3_ := Aside0.mk (Kd.R_lower (Kd.R_new' ho56 (Kd.R_lt (by (with_reducible repeat (first | apply Kd.R_alloc | apply Kd.R_drewN | apply Kd.R_drew)); exact HO343.out))) (below_size (by repeat (first | (with_reducible first | exact HB.out | apply below_alloc | apply pw_below_drewN | apply below_drew1) | exact HB.out)))); have n4_ := Aside0.mk (below_step (by repeat (first | (with_reducible first | exact HB.out | apply below_alloc | apply pw_below_drewN | apply below_drew1) | exact HB.out)) hb); clear HO_8; clear HO340; clear HO343; clear HB; have HO_8 := n0_; have HO340 := n1_; have HO343 := n2_; have HO353 := n3_; have HB := n4_; clear n0_ n1_ n2_ n3_ n4_; clear hb ho56))
                                                          go_loopg [15] kj9 (fun kq v15 w' => ∃ (x15_2 : Int), v15 = .int .i64 x15_2 ∧ Aside0 (colophonlaw06_HeadCases.l0 kq t331 y351 x15_2 = some r) ∧ Aside0 (kq ≤ kj9) ∧ Aside0 (Kd.R Kd.string 9 w' w.heap.size (fun _ => True) v352 y351) ∧ Aside0 (Below w.heap.size w w'))
                                                          case atStart => exact ⟨(0), (by first | rfl | (simp; done) | (simp [*]; done)), H', ⟨Nat.le_refl _⟩, ⟨by (with_reducible repeat (first | apply Kd.R_alloc | apply Kd.R_drewN | apply Kd.R_drew)); exact Kd.R_mono HO353.out (fun _ hk => trivial)⟩, ⟨by repeat (first | (with_reducible first | exact HB.out | apply below_alloc | apply pw_below_drewN | apply below_drew1) | exact HB.out)⟩⟩
                                                          case round =>
                                                            clear H'
                                                            try clear c1
                                                            try clear c2
                                                            try clear p2
                                                            try clear c3
                                                            try clear p3
                                                            try clear q3
                                                            try clear hx3
                                                            try clear c4
                                                            try clear q4
                                                            try clear hcv4
                                                            try clear p6
                                                            try clear c7
                                                            try clear c8
                                                            try clear c13
                                                            try clear c13b0
                                                            try clear c13b1
                                                            try clear c15
                                                            try clear c16
                                                            try clear c16b0
                                                            try clear c16b1
                                                            try clear c17
                                                            try clear c17b0
                                                            try clear c17b1
                                                            try clear c19
                                                            try clear c19b0
                                                            try clear c19b1
                                                            try clear c19b2
                                                            try clear c21
                                                            try clear c21b0
                                                            try clear c22
                                                            try clear c22b0
                                                            try clear c23
                                                            try clear c23b0
                                                            try clear c23b1
                                                            try clear c23b2
                                                            try clear c24
                                                            try clear c24b0
                                                            try clear c24b1
                                                            try clear c24b2
                                                            try clear c25
                                                            try clear c25b0
                                                            try clear c25b1
                                                            try clear c25b2
                                                            try clear c27
                                                            try clear c27b0
                                                            try clear c28
                                                            try clear c28b0
                                                            try clear c29
                                                            try clear c29b0
                                                            try clear c29b1
                                                            try clear c29b2
                                                            try clear c30
                                                            try clear c30b0
                                                            try clear c30b1
                                                            try clear c30b2
                                                            try clear c32
                                                            try clear c32b0
                                                            try clear c32b1
                                                            try clear c32b2
                                                            try clear c33
                                                            try clear c33b0
                                                            try clear c33b1
                                                            try clear c33b2
                                                            try clear p34
                                                            try clear q34
                                                            try clear hx34
                                                            try clear c35
                                                            try clear c35b0
                                                            try clear c35b1
                                                            try clear c35b2
                                                            try clear c36
                                                            try clear c36b0
                                                            try clear c36b1
                                                            try clear c36b2
                                                            try clear c37
                                                            try clear c37b0
                                                            try clear c37b1
                                                            try clear c37b2
                                                            try clear c38
                                                            try clear c38b0
                                                            try clear c38b1
                                                            try clear c38b2
                                                            try clear c39
                                                            try clear c39b0
                                                            try clear c39b1
                                                            try clear c39b2
                                                            try clear c40
                                                            try clear c40b0
                                                            try clear c40b1
                                                            try clear c40b2
                                                            try clear c41
                                                            try clear c41b0
                                                            try clear c41b1
                                                            try clear c41b2
                                                            try clear c42
                                                            try clear c42b0
                                                            try clear c42b1
                                                            try clear c42b2
                                                            try clear c43
                                                            try clear c43b0
                                                            try clear c43b1
                                                            try clear c43b2
                                                            try clear c44
                                                            try clear c44b0
                                                            try clear c44b1
                                                            try clear c44b2
                                                            try clear c46
                                                            try clear q46
                                                            try clear hcv47
                                                            try clear hx346_0
                                                            try clear hx348_0
                                                            try clear p2
                                                            try clear p346
                                                            try clear p348
                                                            try clear q346
                                                            try clear q348
                                                            try clear q46
                                                            obtain ⟨x15_2, rfl, HA, HK2, HO_14, HB⟩ := hrel
                                                            cases gk with
                                                            | zero => exact absurd HA.out (by simp [colophonlaw06_HeadCases.l0])
                                                            | succ k2 =>
                                                              have H := HA.out
                                                              clear HA
                                                              simp only [colophonlaw06_HeadCases.l0] at H
                                                              by_cases c57 : x15_2 < (y351.length : Int)
                                                              · rw [if_pos c57] at H
                                                                have c57b0 : decide (x15_2 < (y351.length : Int)) = true := decide_eq_true c57
                                                                clear c57
                                                                by_cases c58 : 0 ≤ x15_2
                                                                · rw [if_pos c58] at H
                                                                  have c58b0 : decide (0 ≤ x15_2) = true := decide_eq_true c58
                                                                  clear c58
                                                                  replace H := Option.bind_eq_some_iff.mp H
                                                                  obtain ⟨t356, A590, H⟩ := H
                                                                  replace H : (if t356 = true then (colophonlaw06_HeadCases.l0 k2 t331 y351 (wrap64 (x15_2 + 1))) else (some false)) = some r := H
                                                                  have A59 := Aside0.mk A590
                                                                  clear A590
                                                                  by_cases c60 : t356 = true
                                                                  · subst c60
                                                                    have H1 : (colophonlaw06_HeadCases.l0 k2 t331 y351 (wrap64 (x15_2 + 1))) = some r := by rw [if_pos rfl] at H; exact H
                                                                    clear H
                                                                    have H := H1
                                                                    clear H1
                                                                    have H' := Aside0.mk H
                                                                    clear H
                                                                    obtain ⟨Ao61, co61, eo61⟩ := Kd.R_slice HO_14.out
                                                                    subst eo61
                                                                    try go_wp2
                                                                    have n0_ := Aside0.mk (Kd.R_drew HO_14.out)
                                                                    have n1_ := Aside0.mk (below_drew1 HB.out)
                                                                    clear HO_14
                                                                    clear HB
                                                                    have HO_14 := n0_
                                                                    have HB := n1_
                                                                    clear n0_ n1_
                                                                    have p354 : 0 ≤ (x15_2 : Int) := of_decide_eq_true (by first | (with_reducible assumption) | assumption)
                                                                    have q354 : x15_2 < (y351.length : Int) := of_decide_eq_true (by first | (with_reducible assumption) | assumption)
                                                                    obtain ⟨ad354, e354, hx354_0⟩ := Kd.at_string (Kd.R_reads' HO_14.out).2.2 x15_2 p354 q354
                                                                    cases e354
                                                                    replace p354 := eq_true p354
                                                                    replace q354 := eq_true q354
                                                                    have p355 : 0 ≤ (x15_2 : Int) := of_decide_eq_true (by first | (with_reducible assumption) | assumption)
                                                                    have q355 : x15_2 < (y351.length : Int) := of_decide_eq_true (by first | (with_reducible assumption) | assumption)
                                                                    obtain ⟨ad355, e355, hx355_0⟩ := Kd.at_string (Kd.R_reads' HO_14.out).2.2 x15_2 p355 q355
                                                                    obtain rfl : ad354 = ad355 := (by injection e355)
                                                                    replace p355 := eq_true p355
                                                                    replace q355 := eq_true q355
                                                                    refine start_ (n := 12) (S := fun w' => w'.cell? (ad354.add (x15_2).toNat) = some (.string (rdOf ByteArray.empty y351 x15_2)) ∧ w'.cell? (ad354.add (x15_2).toNat) = some (.string (rdOf ByteArray.empty y351 x15_2))) (ds := []) #[false, false, false, false, false, false, false, false, false, false, false, false] (by kernel_rfl) rfl rfl ⟨hx354_0, hx355_0⟩ (fun hHeld => ?_); refine with_tabW colophonlaw06_HeadCases.tab15 colophonlaw06_HeadCases.bits15 (fun HT_ HW_ => ?_)
                                                                    generalize wr.drew = w62 at HO_14 HB hx354_0 hx355_0 hHeld ⊢
                                                                    refine pure_ (i := 0) (N := some 92) (v := ?_) (a' := ?_) #[true, false, false, false, false, false, false, false, false, false, false, false] rfl rfl (any_of HT_.out (by kernel_rfl)) (fun _ _ _ h => h) (Or.inl ⟨by rfl, ?_⟩) ?_ ?_
                                                                    rotate_left
                                                                    · intro w'
                                                                      go_simp
                                                                      with_reducible rfl
                                                                    rotate_left
                                                                    · simp only [Act.put, List.setIfInBounds_toArray, List.set_cons_zero, List.set_cons_succ, i64_w, i32_w]
                                                                      rfl
                                                                    refine pure_ (i := 1) (N := some 93) (v := ?_) (a' := ?_) #[true, true, false, false, false, false, false, false, false, false, false, false] rfl rfl (any_of HT_.out (by kernel_rfl)) (fun _ _ _ h => h) (Or.inl ⟨by rfl, ?_⟩) ?_ ?_
                                                                    rotate_left
                                                                    · intro w'
                                                                      go_simp
                                                                      with_reducible rfl
                                                                    rotate_left
                                                                    · simp only [Act.put, List.setIfInBounds_toArray, List.set_cons_zero, List.set_cons_succ, i64_w, i32_w]
                                                                      rfl
                                                                    refine pure_ (i := 2) (N := some 94) (v := ?_) (a' := ?_) #[true, true, true, false, false, false, false, false, false, false, false, false] rfl rfl (any_of HT_.out (by kernel_rfl)) (fun _ _ _ h => h) (Or.inl ⟨by rfl, ?_⟩) ?_ ?_
                                                                    rotate_left
                                                                    · intro w'
                                                                      go_simp
                                                                      with_reducible rfl
                                                                    rotate_left
                                                                    · simp only [Act.put, List.setIfInBounds_toArray, List.set_cons_zero, List.set_cons_succ, i64_w, i32_w]
                                                                      rfl
                                                                    refine pure_ (i := 4) (N := some 96) (v := ?_) (a' := ?_) #[true, true, true, false, true, false, false, false, false, false, false, false] rfl rfl (any_of HT_.out (by kernel_rfl)) (fun _ _ _ h => h) (Or.inl ⟨by rfl, ?_⟩) ?_ ?_
                                                                    rotate_left
                                                                    · intro w'
                                                                      go_simp
                                                                      with_reducible rfl
                                                                    rotate_left
                                                                    · simp only [Act.put, List.setIfInBounds_toArray, List.set_cons_zero, List.set_cons_succ, i64_w, i32_w]
                                                                      rfl
                                                                    refine pure_ (i := 5) (N := some 97) (v := ?_) (a' := ?_) #[true, true, true, false, true, true, false, false, false, false, false, false] rfl rfl (any_of HT_.out (by kernel_rfl)) (fun _ _ _ h => h) (Or.inl ⟨by rfl, ?_⟩) ?_ ?_
                                                                    rotate_left
                                                                    · intro w'
                                                                      go_simp
                                                                      with_reducible rfl
                                                                    rotate_left
                                                                    · simp only [Act.put, List.setIfInBounds_toArray, List.set_cons_zero, List.set_cons_succ, i64_w, i32_w]
                                                                      rfl
                                                                    refine pure_ (i := 6) (N := some 98) (v := ?_) (a' := ?_) #[true, true, true, false, true, true, true, false, false, false, false, false] rfl rfl (any_of HT_.out (by kernel_rfl)) (fun _ _ _ h => h) (Or.inl ⟨by rfl, ?_⟩) ?_ ?_
                                                                    rotate_left
                                                                    · intro w'
                                                                      go_simp
                                                                      with_reducible rfl
                                                                    rotate_left
                                                                    · simp only [Act.put, List.setIfInBounds_toArray, List.set_cons_zero, List.set_cons_succ, i64_w, i32_w]
                                                                      rfl
                                                                    refine pure_ (i := 7) (N := some 99) (v := ?_) (a' := ?_) #[true, true, true, false, true, true, true, true, false, false, false, false] rfl rfl (any_of HT_.out (by kernel_rfl)) (fun _ _ _ h => h) (Or.inl ⟨by rfl, ?_⟩) ?_ ?_
                                                                    rotate_left
                                                                    · intro w'
                                                                      go_simp
                                                                      with_reducible rfl
                                                                    rotate_left
                                                                    · simp only [Act.put, List.setIfInBounds_toArray, List.set_cons_zero, List.set_cons_succ, i64_w, i32_w]
                                                                      rfl
                                                                    refine take_ (i := 3) (N := some 95) (v := ?_) (a' := ?_) #[true, true, true, true, true, true, true, true, false, false, false, false] rfl rfl (take_ofW HT_.out HW_.out (by kernel_rfl)) (fun _ _ _ h => h) (Or.inl ⟨by rfl, ?_⟩) hHeld ?_ ?_
                                                                    rotate_left
                                                                    · rintro w' ⟨s0, s1⟩
                                                                      go_simp
                                                                      with_reducible rfl
                                                                    rotate_left
                                                                    · simp only [Act.put, List.setIfInBounds_toArray, List.set_cons_zero, List.set_cons_succ, i64_w, i32_w]
                                                                      rfl
                                                                    refine take_ (i := 8) (N := some 100) (v := ?_) (a' := ?_) #[true, true, true, true, true, true, true, true, true, false, false, false] rfl rfl (take_ofW HT_.out HW_.out (by kernel_rfl)) (fun _ _ _ h => h) (Or.inl ⟨by rfl, ?_⟩) hHeld ?_ ?_
                                                                    rotate_left
                                                                    · rintro w' ⟨s0, s1⟩
                                                                      go_simp
                                                                      with_reducible rfl
                                                                    rotate_left
                                                                    · simp only [Act.put, List.setIfInBounds_toArray, List.set_cons_zero, List.set_cons_succ, i64_w, i32_w]
                                                                      rfl
                                                                    refine pure_ (i := 9) (N := some 101) (v := ?_) (a' := ?_) #[true, true, true, true, true, true, true, true, true, true, false, false] rfl rfl (any_of HT_.out (by kernel_rfl)) (fun _ _ _ h => h) (Or.inl ⟨by rfl, ?_⟩) ?_ ?_
                                                                    rotate_left
                                                                    · intro w'
                                                                      go_simp
                                                                      with_reducible rfl
                                                                    rotate_left
                                                                    · simp only [Act.put, List.setIfInBounds_toArray, List.set_cons_zero, List.set_cons_succ, i64_w, i32_w]
                                                                      rfl
                                                                    refine one_ (i := 10) (N := some 102) #[true, true, true, true, true, true, true, true, true, true, true, false] rfl rfl (one_of HT_.out (by kernel_rfl)) (by decide) (fun K hK => ?_)
                                                                    refine goes_ Tryd.func17 (by kernel_rfl) rfl #[.string (rdOf ByteArray.empty y351 x15_2), .int .i64 t331, .int .i64 ((rdOf ByteArray.empty y351 x15_2).size : Int)] (by rfl) rfl rfl (by (try simp only [List.map_toArray, List.map_cons, List.map_nil]); first | done | rfl | (simp only [List.length_drop, List.length_take]; rfl)) ?_
                                                                    with_reducible refine (colophonlaw06_says.calls k2 (rdOf ByteArray.empty y351 x15_2) t331 ((rdOf ByteArray.empty y351 x15_2).size : Int) true _ ?side1 A59.out).mono ?_
                                                                    (case side1 => exact TAB.below HT.out.tab (by repeat (first | (with_reducible first | exact HB.out | apply below_alloc | apply pw_below_drewN | apply below_drew1) | exact HB.out)))
                                                                    rintro e w63 ⟨rfl, hb⟩
                                                                    have HS0_ := (hb.cell (World.block_lt_of_cell? _ _ (hHeld.1))).trans (hHeld.1)
                                                                    have HS1_ := (hb.cell (World.block_lt_of_cell? _ _ (hHeld.2))).trans (hHeld.2)
                                                                    refine ⟨_, rfl, ?_⟩
                                                                    have n0_ := Aside0.mk (Kd.R_below (by (with_reducible repeat (first | apply Kd.R_alloc | apply Kd.R_drewN | apply Kd.R_drew)); exact HO_14.out) hb)
                                                                    have n1_ := Aside0.mk (below_step (by repeat (first | (with_reducible first | exact HB.out | apply below_alloc | apply pw_below_drewN | apply below_drew1) | exact HB.out)) hb)
                                                                    clear HO_14
                                                                    clear HB
                                                                    have HO_14 := n0_
                                                                    have HB := n1_
                                                                    clear n0_ n1_
                                                                    (try clear hb)
                                                                    (try clear hb2)
                                                                    (try clear hk)
                                                                    (try clear hi)
                                                                    refine hK.out _ _ ⟨HS0_, HS1_⟩ (fun hHeld => ?_)
                                                                    clear hK K
                                                                    refine norm_ (a' := ?_) ?_ ?_
                                                                    rotate_left
                                                                    · show Act.put _ (some 102) _ = _
                                                                      simp only [Act.put, List.setIfInBounds_toArray, List.set_cons_zero, List.set_cons_succ, i64_w, i32_w]
                                                                      rfl
                                                                    refine pure_ (i := 11) (N := some 103) (v := ?_) (a' := ?_) #[true, true, true, true, true, true, true, true, true, true, true, true] rfl rfl (any_of HT_.out (by kernel_rfl)) (fun _ _ _ h => h) (Or.inl ⟨by rfl, ?_⟩) ?_ ?_
                                                                    rotate_left
                                                                    · intro w'
                                                                      go_simp
                                                                      with_reducible rfl
                                                                    rotate_left
                                                                    · simp only [Act.put, List.setIfInBounds_toArray, List.set_cons_zero, List.set_cons_succ, i64_w, i32_w]
                                                                      rfl
                                                                    refine done_ (done_of HT_.out (by kernel_rfl)) ?_
                                                                    try go_wp2
                                                                    go_roundg k2
                                                                    case measure => have := HJ9.out; have := HK2.out; omega
                                                                    case rel => exact ⟨(wrap64 (x15_2 + 1)), (by first | rfl | (simp; done) | (simp [*]; done)), H', ⟨by have := HJ9.out; have := HK2.out; omega⟩, ⟨by (with_reducible repeat (first | apply Kd.R_alloc | apply Kd.R_drewN | apply Kd.R_drew)); exact HO_14.out⟩, ⟨by repeat (first | (with_reducible first | exact HB.out | apply below_alloc | apply pw_below_drewN | apply below_drew1) | exact HB.out)⟩⟩
                                                                  · replace c60 := Bool.eq_false_iff.mpr c60
                                                                    subst c60
                                                                    have H1 : (some false) = some r := by rw [if_neg (show ¬ (false = true) by decide)] at H; exact H
                                                                    clear H
                                                                    have H := H1
                                                                    clear H1
                                                                    obtain rfl := Option.some.inj H
                                                                    obtain ⟨Ao64, co64, eo64⟩ := Kd.R_slice HO_14.out
                                                                    subst eo64
                                                                    try go_wp2
                                                                    have n0_ := Aside0.mk (Kd.R_drew HO_14.out)
                                                                    have n1_ := Aside0.mk (below_drew1 HB.out)
                                                                    clear HO_14
                                                                    clear HB
                                                                    have HO_14 := n0_
                                                                    have HB := n1_
                                                                    clear n0_ n1_
                                                                    have p354 : 0 ≤ (x15_2 : Int) := of_decide_eq_true (by first | (with_reducible assumption) | assumption)
                                                                    have q354 : x15_2 < (y351.length : Int) := of_decide_eq_true (by first | (with_reducible assumption) | assumption)
                                                                    obtain ⟨ad354, e354, hx354_0⟩ := Kd.at_string (Kd.R_reads' HO_14.out).2.2 x15_2 p354 q354
                                                                    cases e354
                                                                    replace p354 := eq_true p354
                                                                    replace q354 := eq_true q354
                                                                    have p355 : 0 ≤ (x15_2 : Int) := of_decide_eq_true (by first | (with_reducible assumption) | assumption)
                                                                    have q355 : x15_2 < (y351.length : Int) := of_decide_eq_true (by first | (with_reducible assumption) | assumption)
                                                                    obtain ⟨ad355, e355, hx355_0⟩ := Kd.at_string (Kd.R_reads' HO_14.out).2.2 x15_2 p355 q355
                                                                    obtain rfl : ad354 = ad355 := (by injection e355)
                                                                    replace p355 := eq_true p355
                                                                    replace q355 := eq_true q355
                                                                    refine start_ (n := 12) (S := fun w' => w'.cell? (ad354.add (x15_2).toNat) = some (.string (rdOf ByteArray.empty y351 x15_2)) ∧ w'.cell? (ad354.add (x15_2).toNat) = some (.string (rdOf ByteArray.empty y351 x15_2))) (ds := []) #[false, false, false, false, false, false, false, false, false, false, false, false] (by kernel_rfl) rfl rfl ⟨hx354_0, hx355_0⟩ (fun hHeld => ?_); refine with_tabW colophonlaw06_HeadCases.tab15 colophonlaw06_HeadCases.bits15 (fun HT_ HW_ => ?_)
                                                                    generalize wr.drew = w65 at HO_14 HB hx354_0 hx355_0 hHeld ⊢
                                                                    refine pure_ (i := 0) (N := some 92) (v := ?_) (a' := ?_) #[true, false, false, false, false, false, false, false, false, false, false, false] rfl rfl (any_of HT_.out (by kernel_rfl)) (fun _ _ _ h => h) (Or.inl ⟨by rfl, ?_⟩) ?_ ?_
                                                                    rotate_left
                                                                    · intro w'
                                                                      go_simp
                                                                      with_reducible rfl
                                                                    rotate_left
                                                                    · simp only [Act.put, List.setIfInBounds_toArray, List.set_cons_zero, List.set_cons_succ, i64_w, i32_w]
                                                                      rfl
                                                                    refine pure_ (i := 1) (N := some 93) (v := ?_) (a' := ?_) #[true, true, false, false, false, false, false, false, false, false, false, false] rfl rfl (any_of HT_.out (by kernel_rfl)) (fun _ _ _ h => h) (Or.inl ⟨by rfl, ?_⟩) ?_ ?_
                                                                    rotate_left
                                                                    · intro w'
                                                                      go_simp
                                                                      with_reducible rfl
                                                                    rotate_left
                                                                    · simp only [Act.put, List.setIfInBounds_toArray, List.set_cons_zero, List.set_cons_succ, i64_w, i32_w]
                                                                      rfl
                                                                    refine pure_ (i := 2) (N := some 94) (v := ?_) (a' := ?_) #[true, true, true, false, false, false, false, false, false, false, false, false] rfl rfl (any_of HT_.out (by kernel_rfl)) (fun _ _ _ h => h) (Or.inl ⟨by rfl, ?_⟩) ?_ ?_
                                                                    rotate_left
                                                                    · intro w'
                                                                      go_simp
                                                                      with_reducible rfl
                                                                    rotate_left
                                                                    · simp only [Act.put, List.setIfInBounds_toArray, List.set_cons_zero, List.set_cons_succ, i64_w, i32_w]
                                                                      rfl
                                                                    refine pure_ (i := 4) (N := some 96) (v := ?_) (a' := ?_) #[true, true, true, false, true, false, false, false, false, false, false, false] rfl rfl (any_of HT_.out (by kernel_rfl)) (fun _ _ _ h => h) (Or.inl ⟨by rfl, ?_⟩) ?_ ?_
                                                                    rotate_left
                                                                    · intro w'
                                                                      go_simp
                                                                      with_reducible rfl
                                                                    rotate_left
                                                                    · simp only [Act.put, List.setIfInBounds_toArray, List.set_cons_zero, List.set_cons_succ, i64_w, i32_w]
                                                                      rfl
                                                                    refine pure_ (i := 5) (N := some 97) (v := ?_) (a' := ?_) #[true, true, true, false, true, true, false, false, false, false, false, false] rfl rfl (any_of HT_.out (by kernel_rfl)) (fun _ _ _ h => h) (Or.inl ⟨by rfl, ?_⟩) ?_ ?_
                                                                    rotate_left
                                                                    · intro w'
                                                                      go_simp
                                                                      with_reducible rfl
                                                                    rotate_left
                                                                    · simp only [Act.put, List.setIfInBounds_toArray, List.set_cons_zero, List.set_cons_succ, i64_w, i32_w]
                                                                      rfl
                                                                    refine pure_ (i := 6) (N := some 98) (v := ?_) (a' := ?_) #[true, true, true, false, true, true, true, false, false, false, false, false] rfl rfl (any_of HT_.out (by kernel_rfl)) (fun _ _ _ h => h) (Or.inl ⟨by rfl, ?_⟩) ?_ ?_
                                                                    rotate_left
                                                                    · intro w'
                                                                      go_simp
                                                                      with_reducible rfl
                                                                    rotate_left
                                                                    · simp only [Act.put, List.setIfInBounds_toArray, List.set_cons_zero, List.set_cons_succ, i64_w, i32_w]
                                                                      rfl
                                                                    refine pure_ (i := 7) (N := some 99) (v := ?_) (a' := ?_) #[true, true, true, false, true, true, true, true, false, false, false, false] rfl rfl (any_of HT_.out (by kernel_rfl)) (fun _ _ _ h => h) (Or.inl ⟨by rfl, ?_⟩) ?_ ?_
                                                                    rotate_left
                                                                    · intro w'
                                                                      go_simp
                                                                      with_reducible rfl
                                                                    rotate_left
                                                                    · simp only [Act.put, List.setIfInBounds_toArray, List.set_cons_zero, List.set_cons_succ, i64_w, i32_w]
                                                                      rfl
                                                                    refine take_ (i := 3) (N := some 95) (v := ?_) (a' := ?_) #[true, true, true, true, true, true, true, true, false, false, false, false] rfl rfl (take_ofW HT_.out HW_.out (by kernel_rfl)) (fun _ _ _ h => h) (Or.inl ⟨by rfl, ?_⟩) hHeld ?_ ?_
                                                                    rotate_left
                                                                    · rintro w' ⟨s0, s1⟩
                                                                      go_simp
                                                                      with_reducible rfl
                                                                    rotate_left
                                                                    · simp only [Act.put, List.setIfInBounds_toArray, List.set_cons_zero, List.set_cons_succ, i64_w, i32_w]
                                                                      rfl
                                                                    refine take_ (i := 8) (N := some 100) (v := ?_) (a' := ?_) #[true, true, true, true, true, true, true, true, true, false, false, false] rfl rfl (take_ofW HT_.out HW_.out (by kernel_rfl)) (fun _ _ _ h => h) (Or.inl ⟨by rfl, ?_⟩) hHeld ?_ ?_
                                                                    rotate_left
                                                                    · rintro w' ⟨s0, s1⟩
                                                                      go_simp
                                                                      with_reducible rfl
                                                                    rotate_left
                                                                    · simp only [Act.put, List.setIfInBounds_toArray, List.set_cons_zero, List.set_cons_succ, i64_w, i32_w]
                                                                      rfl
                                                                    refine pure_ (i := 9) (N := some 101) (v := ?_) (a' := ?_) #[true, true, true, true, true, true, true, true, true, true, false, false] rfl rfl (any_of HT_.out (by kernel_rfl)) (fun _ _ _ h => h) (Or.inl ⟨by rfl, ?_⟩) ?_ ?_
                                                                    rotate_left
                                                                    · intro w'
                                                                      go_simp
                                                                      with_reducible rfl
                                                                    rotate_left
                                                                    · simp only [Act.put, List.setIfInBounds_toArray, List.set_cons_zero, List.set_cons_succ, i64_w, i32_w]
                                                                      rfl
                                                                    refine one_ (i := 10) (N := some 102) #[true, true, true, true, true, true, true, true, true, true, true, false] rfl rfl (one_of HT_.out (by kernel_rfl)) (by decide) (fun K hK => ?_)
                                                                    refine goes_ Tryd.func17 (by kernel_rfl) rfl #[.string (rdOf ByteArray.empty y351 x15_2), .int .i64 t331, .int .i64 ((rdOf ByteArray.empty y351 x15_2).size : Int)] (by rfl) rfl rfl (by (try simp only [List.map_toArray, List.map_cons, List.map_nil]); first | done | rfl | (simp only [List.length_drop, List.length_take]; rfl)) ?_
                                                                    with_reducible refine (colophonlaw06_says.calls k2 (rdOf ByteArray.empty y351 x15_2) t331 ((rdOf ByteArray.empty y351 x15_2).size : Int) false _ ?side1 A59.out).mono ?_
                                                                    (case side1 => exact TAB.below HT.out.tab (by repeat (first | (with_reducible first | exact HB.out | apply below_alloc | apply pw_below_drewN | apply below_drew1) | exact HB.out)))
                                                                    rintro e w66 ⟨rfl, hb⟩
                                                                    have HS0_ := (hb.cell (World.block_lt_of_cell? _ _ (hHeld.1))).trans (hHeld.1)
                                                                    have HS1_ := (hb.cell (World.block_lt_of_cell? _ _ (hHeld.2))).trans (hHeld.2)
                                                                    refine ⟨_, rfl, ?_⟩
                                                                    have n0_ := Aside0.mk (Kd.R_below (by (with_reducible repeat (first | apply Kd.R_alloc | apply Kd.R_drewN | apply Kd.R_drew)); exact HO_14.out) hb)
                                                                    have n1_ := Aside0.mk (below_step (by repeat (first | (with_reducible first | exact HB.out | apply below_alloc | apply pw_below_drewN | apply below_drew1) | exact HB.out)) hb)
                                                                    clear HO_14
                                                                    clear HB
                                                                    have HO_14 := n0_
                                                                    have HB := n1_
                                                                    clear n0_ n1_
                                                                    (try clear hb)
                                                                    (try clear hb2)
                                                                    (try clear hk)
                                                                    (try clear hi)
                                                                    refine hK.out _ _ ⟨HS0_, HS1_⟩ (fun hHeld => ?_)
                                                                    clear hK K
                                                                    refine norm_ (a' := ?_) ?_ ?_
                                                                    rotate_left
                                                                    · show Act.put _ (some 102) _ = _
                                                                      simp only [Act.put, List.setIfInBounds_toArray, List.set_cons_zero, List.set_cons_succ, i64_w, i32_w]
                                                                      rfl
                                                                    refine pure_ (i := 11) (N := some 103) (v := ?_) (a' := ?_) #[true, true, true, true, true, true, true, true, true, true, true, true] rfl rfl (any_of HT_.out (by kernel_rfl)) (fun _ _ _ h => h) (Or.inl ⟨by rfl, ?_⟩) ?_ ?_
                                                                    rotate_left
                                                                    · intro w'
                                                                      go_simp
                                                                      with_reducible rfl
                                                                    rotate_left
                                                                    · simp only [Act.put, List.setIfInBounds_toArray, List.set_cons_zero, List.set_cons_succ, i64_w, i32_w]
                                                                      rfl
                                                                    refine done_ (done_of HT_.out (by kernel_rfl)) ?_
                                                                    try go_wp2
                                                                    go_ret
                                                                    exact ⟨by first | rfl | (simp [errW_none, errW_some] <;> rfl) | (simp [errW_none, errW_some] <;> decide +kernel) | (simp [*, errW_none, errW_some] <;> rfl), below_step HB0.out (by repeat (first | (with_reducible first | exact HB.out | apply below_alloc | apply pw_below_drewN | apply below_drew1) | exact HB.out))⟩
                                                                · rw [if_neg c58] at H
                                                                  exact absurd H (by simp)
                                                              · rw [if_neg c57] at H
                                                                have c57b0 : decide (x15_2 < (y351.length : Int)) = false := decide_eq_false c57
                                                                clear c57
                                                                replace H := Option.bind_eq_some_iff.mp H
                                                                obtain ⟨t357, A670, H⟩ := H
                                                                replace H : (some t357) = some r := H
                                                                have A67 := Aside0.mk A670
                                                                clear A670
                                                                obtain rfl := Option.some.inj H
                                                                obtain ⟨Ao68, co68, eo68⟩ := Kd.R_slice HO_14.out
                                                                subst eo68
                                                                go_wp2_with (first | ((with_reducible refine gate_callee (f := 15) rfl ?_); refine goesL_ (some 104) rfl rfl Tryd.func15 (by kernel_rfl) rfl #[] rfl (by (try simp only [List.map_toArray, List.map_cons, List.map_nil]); first | done | rfl | (simp only [List.length_drop, List.length_take]; rfl)) ?_; (with_reducible refine (colophonlaw06_awake.calls k2  t357 _ ?side1 A67.out).mono ?_); (case side1 => exact TAB.below HT.out.tab (by repeat (first | (with_reducible first | exact HB.out | apply below_alloc | apply pw_below_drewN | apply below_drew1) | exact HB.out))); rintro e w69 ⟨rfl, hb⟩; refine ⟨_, rfl, ?_⟩; have n0_ := Aside0.mk (Kd.R_below (by (with_reducible repeat (first | apply Kd.R_alloc | apply Kd.R_drewN | apply Kd.R_drew)); exact HO_14.out) hb); have n1_ := Aside0.mk (below_step (by repeat (first | (with_reducible first | exact HB.out | apply below_alloc | apply pw_below_drewN | apply below_drew1) | exact HB.out)) hb); clear HO_14; clear HB; have HO_14 := n0_; have HB := n1_; clear n0_ n1_; (try clear hb); (try clear hb2); (try clear hk); (try clear hi)))
                                                                go_ret
                                                                exact ⟨by first | rfl | (simp [errW_none, errW_some] <;> rfl) | (simp [errW_none, errW_some] <;> decide +kernel) | (simp [*, errW_none, errW_some] <;> rfl), below_step HB0.out (by repeat (first | (with_reducible first | exact HB.out | apply below_alloc | apply pw_below_drewN | apply below_drew1) | exact HB.out))⟩
                                                        · rw [if_neg c44] at H
                                                          exact absurd H (by simp)
                                                      · rw [if_neg c43] at H
                                                        exact absurd H (by simp)
                                                    · rw [if_neg c42] at H
                                                      exact absurd H (by simp)
                                                  · rw [if_neg c41] at H
                                                    exact absurd H (by simp)
                                                · rw [if_neg c40] at H
                                                  exact absurd H (by simp)
                                              · rw [if_neg c39] at H
                                                exact absurd H (by simp)
                                            · rw [if_neg c38] at H
                                              exact absurd H (by simp)
                                          · rw [if_neg c37] at H
                                            exact absurd H (by simp)
                                        · rw [if_neg c36] at H
                                          exact absurd H (by simp)
                                      · rw [if_neg c35] at H
                                        exact absurd H (by simp)
                                    · rw [if_neg c33] at H
                                      exact absurd H (by simp)
                                  · rw [if_neg c32] at H
                                    exact absurd H (by simp)
                                · rw [if_neg c30] at H
                                  exact absurd H (by simp)
                              · rw [if_neg c29] at H
                                exact absurd H (by simp)
                            · rw [if_neg c28] at H
                              exact absurd H (by simp)
                          · rw [if_neg c27] at H
                            exact absurd H (by simp)
                        · rw [if_neg c25] at H
                          exact absurd H (by simp)
                      · rw [if_neg c24] at H
                        exact absurd H (by simp)
                    · rw [if_neg c23] at H
                      exact absurd H (by simp)
                  · rw [if_neg c22] at H
                    exact absurd H (by simp)
                · rw [if_neg c21] at H
                  exact absurd H (by simp)
              · rw [if_neg c19] at H
                exact absurd H (by simp)
            · rw [if_neg c17] at H
              exact absurd H (by simp)
          · rw [if_neg c16] at H
            exact absurd H (by simp)
  · replace c7 := Bool.eq_false_iff.mpr c7
    subst c7
    have H1 : (some false) = some r := by rw [if_neg (show ¬ (false = true) by decide)] at H; exact H
    clear H
    have H := H1
    clear H1
    obtain rfl := Option.some.inj H
    go_wp2_with (first | ((with_reducible refine gate_callee (f := 15) rfl ?_); refine goesL_ (some 16) rfl rfl Tryd.func15 (by kernel_rfl) rfl #[] rfl (by (try simp only [List.map_toArray, List.map_cons, List.map_nil]); first | done | rfl | (simp only [List.length_drop, List.length_take]; rfl)) ?_; (with_reducible refine (colophonlaw06_awake.calls k  false _ ?side1 A6.out).mono ?_); (case side1 => exact TAB.below HT.out.tab (by repeat (first | (with_reducible first | exact HB.out | apply below_alloc | apply pw_below_drewN | apply below_drew1) | exact HB.out))); rintro e w70 ⟨rfl, hb⟩; refine ⟨_, rfl, ?_⟩; have n0_ := Aside0.mk (below_step (by repeat (first | (with_reducible first | exact HB.out | apply below_alloc | apply pw_below_drewN | apply below_drew1) | exact HB.out)) hb); clear HB; have HB := n0_; clear n0_; (try clear hb); (try clear hb2); (try clear hk); (try clear hi)))
    go_ret
    exact ⟨by first | rfl | (simp [errW_none, errW_some] <;> rfl) | (simp [errW_none, errW_some] <;> decide +kernel) | (simp [*, errW_none, errW_some] <;> rfl), below_step HB0.out (by repeat (first | (with_reducible first | exact HB.out | apply below_alloc | apply pw_below_drewN | apply below_drew1) | exact HB.out))⟩

/-- THE ONE PURE STATEMENT of colophonlaw06_HeadCases: yours. -/
def colophonlaw06_HeadCases.Pure : Prop := ∀ (a0 : Int) (l1 : List Int) (a2 : Int) (a3 : Int) (a4 : Int), (Lit.int .i64 a0).wf = true → l1.length ≤ maxLen → l1.length * 1 ≤ 140737488351232 → (∀ x ∈ l1, (Lit.int .u8 x).wf = true) → (Lit.int .i64 a2).wf = true → (Lit.int .i64 a3).wf = true → (Lit.int .i64 a4).wf = true → ∃ k, colophonlaw06_HeadCases.f k a0 l1 a2 a3 a4 = some true
end Go.Proofs.YtekmdbicobkffaaDoor.P
