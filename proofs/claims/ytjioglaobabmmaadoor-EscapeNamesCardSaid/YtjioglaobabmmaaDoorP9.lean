-- Written by xprint.py (a program of this work) over the kit's printer. Not trusted: Lean checks it.
import Derived.Test.YtjioglaobabmmaaDoorP0
import Derived.Test.YtjioglaobabmmaaDoorP4
import Derived.Test.YtjioglaobabmmaaDoorP6
import Derived.Test.YtjioglaobabmmaaDoorP8
import Derived.Test.YtjioglaobabmmaaDoorSQuote
namespace Go.Proofs.YtjioglaobabmmaaDoor.P
attribute [-simp] List.length_drop List.length_take ByteArray.size_append
open Go.RowKit Go.Proofs.YtjioglaobabmmaaDoorW.PrintWords Go.Proofs.YtjioglaobabmmaaDoorW.PrintLast Go.Proofs.YtjioglaobabmmaaDoorW.PrintMore
attribute [local go_sem] max2_int min2_int max_two min_two max_three min_three max_four min_four   -- for this text's walks alone
set_option linter.unusedVariables false
set_option linter.unusedSimpArgs false

/-! ### colophonlaw08_EscapePairs: function 8 -/
def colophonlaw08_EscapePairs.j0 : Nat → Int → Int → ByteArray → ByteArray → Bool → Option (Bool)
  | 0, _, _, _, _, _ => none
  | k + 1, x7, x8, x9, x10, x45 => if x45 = true then ((colophonref01_Encode.f (wrap64 ((wrap64 ((wrap64 (65536 + (wrap64 ((wrap64 (x7 - 55296)) * 1024)))) + x8)) - 56320))).bind fun bt300 => ((colophonlaw08_tells.f k x9 (strOfNums bt300.1)).bind fun t304 => (if t304 = true then ((colophonlaw08_awake.f k).bind fun t305 => (some t305)) else (some false)))) else ((colophonlaw08_tells.f k x9 x10).bind fun t306 => (if t306 = true then ((colophonlaw08_awake.f k).bind fun t307 => (some t307)) else (some false)))
def colophonlaw08_EscapePairs.f (k : Nat) (a0 : Int) (a1 : Int) (a2 : Int) : Option (Bool) := (colophonref00_Bring.f a0 65536).bind fun t294 => ((colophonref00_Bring.f a1 65536).bind fun t295 => ((colophonlaw08_hexes.f k t294 a2).bind fun t296 => (if 1 + t296.size ≤ 9223372036854775807 then ((colophonlaw08_hexes.f k t295 (a2 / 16)).bind fun t297 => (if 1 + t296.size + t297.size ≤ 9223372036854775807 then (if 1 + t296.size + t297.size + 1 ≤ 9223372036854775807 then ((colophonlaw08_one.f t294).bind fun t298 => ((colophonlaw08_one.f t295).bind fun t299 => (if t298.size + t299.size ≤ 9223372036854775807 then (if t294 ≥ 55296 then (if t294 ≤ 56319 then (if t295 ≥ 56320 then (colophonlaw08_EscapePairs.j0 k t294 t295 ((((⟨#[34]⟩ : ByteArray) ++ t296) ++ t297) ++ (⟨#[34]⟩ : ByteArray)) (t298 ++ t299) (decide (t295 ≤ 57343))) else (colophonlaw08_EscapePairs.j0 k t294 t295 ((((⟨#[34]⟩ : ByteArray) ++ t296) ++ t297) ++ (⟨#[34]⟩ : ByteArray)) (t298 ++ t299) false)) else (colophonlaw08_EscapePairs.j0 k t294 t295 ((((⟨#[34]⟩ : ByteArray) ++ t296) ++ t297) ++ (⟨#[34]⟩ : ByteArray)) (t298 ++ t299) false)) else (colophonlaw08_EscapePairs.j0 k t294 t295 ((((⟨#[34]⟩ : ByteArray) ++ t296) ++ t297) ++ (⟨#[34]⟩ : ByteArray)) (t298 ++ t299) false)) else (none)))) else (none)) else (none))) else (none))))
theorem colophonlaw08_EscapePairs.mono_l : ∀ k, (∀ y0 y1 y2 y3 y4, LeO (colophonlaw08_EscapePairs.j0 k y0 y1 y2 y3 y4) (colophonlaw08_EscapePairs.j0 (k + 1) y0 y1 y2 y3 y4))
  | 0 => fun _ _ _ _ _ r h => by simp [colophonlaw08_EscapePairs.j0] at h
  | k + 1 => by
    have ih0 := colophonlaw08_EscapePairs.mono_l k
    · intro y0 y1 y2 y3 y4
      unfold colophonlaw08_EscapePairs.j0
      repeat' first
      | (with_reducible exact ih0 _ _ _ _ _)
      | (with_reducible exact colophonlaw08_awake.mono _)
      | (with_reducible exact colophonlaw08_hexes.mono _ _ _)
      | (with_reducible exact colophonlaw08_tells.mono _ _ _)
      | (with_reducible exact LeO.refl _)
      | (with_reducible exact LeO.none _)
      | (with_reducible refine LeO.ite ?_ ?_)
      | (with_reducible refine LeO.bind ?_ (fun _ => ?_))
      | exact ih0 _ _ _ _ _
      | exact colophonlaw08_awake.mono _
      | exact colophonlaw08_hexes.mono _ _ _
      | exact colophonlaw08_tells.mono _ _ _
      | exact LeO.none _
      | refine LeO.ite ?_ ?_
      | refine LeO.bind ?_ (fun _ => ?_)
theorem colophonlaw08_EscapePairs.mono : ∀ a0 a1 a2 k, LeO (colophonlaw08_EscapePairs.f k a0 a1 a2) (colophonlaw08_EscapePairs.f (k + 1) a0 a1 a2) := by
  intro a0 a1 a2 k
  have ih0 := colophonlaw08_EscapePairs.mono_l k
  unfold colophonlaw08_EscapePairs.f
  repeat' first
      | (with_reducible exact ih0 _ _ _ _ _)
      | (with_reducible exact colophonlaw08_awake.mono _)
      | (with_reducible exact colophonlaw08_hexes.mono _ _ _)
      | (with_reducible exact colophonlaw08_tells.mono _ _ _)
      | (with_reducible exact LeO.refl _)
      | (with_reducible exact LeO.none _)
      | (with_reducible refine LeO.ite ?_ ?_)
      | (with_reducible refine LeO.bind ?_ (fun _ => ?_))
      | exact ih0 _ _ _ _ _
      | exact colophonlaw08_awake.mono _
      | exact colophonlaw08_hexes.mono _ _ _
      | exact colophonlaw08_tells.mono _ _ _
      | exact LeO.none _
      | refine LeO.ite ?_ ?_
      | refine LeO.bind ?_ (fun _ => ?_)
set_option maxHeartbeats 8000000 in
set_option maxRecDepth 100000 in
theorem colophonlaw08_EscapePairs.calls (k : Nat) (a0 : Int) (a1 : Int) (a2 : Int) (r : Bool) (w : World) (hT : TAB w) (h : colophonlaw08_EscapePairs.f k a0 a1 a2 = some r) :
    Calls Tryd.prog 8 #[.int .i64 a0, .int .i64 a1, .int .i64 a2] w fun e w' => e = .returned (.bool r) ∧ Below w.heap.size w w' := by
  have HT := Aside0.mk hT
  clear hT
  have HB := Aside0.mk (Below.refl w.heap.size w)
  have H : ((colophonref00_Bring.f a0 65536).bind fun t294 => ((colophonref00_Bring.f a1 65536).bind fun t295 => ((colophonlaw08_hexes.f k t294 a2).bind fun t296 => (if 1 + t296.size ≤ 9223372036854775807 then ((colophonlaw08_hexes.f k t295 (a2 / 16)).bind fun t297 => (if 1 + t296.size + t297.size ≤ 9223372036854775807 then (if 1 + t296.size + t297.size + 1 ≤ 9223372036854775807 then ((colophonlaw08_one.f t294).bind fun t298 => ((colophonlaw08_one.f t295).bind fun t299 => (if t298.size + t299.size ≤ 9223372036854775807 then (if t294 ≥ 55296 then (if t294 ≤ 56319 then (if t295 ≥ 56320 then (colophonlaw08_EscapePairs.j0 k t294 t295 ((((⟨#[34]⟩ : ByteArray) ++ t296) ++ t297) ++ (⟨#[34]⟩ : ByteArray)) (t298 ++ t299) (decide (t295 ≤ 57343))) else (colophonlaw08_EscapePairs.j0 k t294 t295 ((((⟨#[34]⟩ : ByteArray) ++ t296) ++ t297) ++ (⟨#[34]⟩ : ByteArray)) (t298 ++ t299) false)) else (colophonlaw08_EscapePairs.j0 k t294 t295 ((((⟨#[34]⟩ : ByteArray) ++ t296) ++ t297) ++ (⟨#[34]⟩ : ByteArray)) (t298 ++ t299) false)) else (colophonlaw08_EscapePairs.j0 k t294 t295 ((((⟨#[34]⟩ : ByteArray) ++ t296) ++ t297) ++ (⟨#[34]⟩ : ByteArray)) (t298 ++ t299) false)) else (none)))) else (none)) else (none))) else (none))))) = some r := h
  clear h
  replace H := Option.bind_eq_some_iff.mp H
  obtain ⟨t294, A40, H⟩ := H
  replace H : ((colophonref00_Bring.f a1 65536).bind fun t295 => ((colophonlaw08_hexes.f k t294 a2).bind fun t296 => (if 1 + t296.size ≤ 9223372036854775807 then ((colophonlaw08_hexes.f k t295 (a2 / 16)).bind fun t297 => (if 1 + t296.size + t297.size ≤ 9223372036854775807 then (if 1 + t296.size + t297.size + 1 ≤ 9223372036854775807 then ((colophonlaw08_one.f t294).bind fun t298 => ((colophonlaw08_one.f t295).bind fun t299 => (if t298.size + t299.size ≤ 9223372036854775807 then (if t294 ≥ 55296 then (if t294 ≤ 56319 then (if t295 ≥ 56320 then (colophonlaw08_EscapePairs.j0 k t294 t295 ((((⟨#[34]⟩ : ByteArray) ++ t296) ++ t297) ++ (⟨#[34]⟩ : ByteArray)) (t298 ++ t299) (decide (t295 ≤ 57343))) else (colophonlaw08_EscapePairs.j0 k t294 t295 ((((⟨#[34]⟩ : ByteArray) ++ t296) ++ t297) ++ (⟨#[34]⟩ : ByteArray)) (t298 ++ t299) false)) else (colophonlaw08_EscapePairs.j0 k t294 t295 ((((⟨#[34]⟩ : ByteArray) ++ t296) ++ t297) ++ (⟨#[34]⟩ : ByteArray)) (t298 ++ t299) false)) else (colophonlaw08_EscapePairs.j0 k t294 t295 ((((⟨#[34]⟩ : ByteArray) ++ t296) ++ t297) ++ (⟨#[34]⟩ : ByteArray)) (t298 ++ t299) false)) else (none)))) else (none)) else (none))) else (none)))) = some r := H
  have A4 := Aside0.mk A40
  clear A40
  replace H := Option.bind_eq_some_iff.mp H
  obtain ⟨t295, A50, H⟩ := H
  replace H : ((colophonlaw08_hexes.f k t294 a2).bind fun t296 => (if 1 + t296.size ≤ 9223372036854775807 then ((colophonlaw08_hexes.f k t295 (a2 / 16)).bind fun t297 => (if 1 + t296.size + t297.size ≤ 9223372036854775807 then (if 1 + t296.size + t297.size + 1 ≤ 9223372036854775807 then ((colophonlaw08_one.f t294).bind fun t298 => ((colophonlaw08_one.f t295).bind fun t299 => (if t298.size + t299.size ≤ 9223372036854775807 then (if t294 ≥ 55296 then (if t294 ≤ 56319 then (if t295 ≥ 56320 then (colophonlaw08_EscapePairs.j0 k t294 t295 ((((⟨#[34]⟩ : ByteArray) ++ t296) ++ t297) ++ (⟨#[34]⟩ : ByteArray)) (t298 ++ t299) (decide (t295 ≤ 57343))) else (colophonlaw08_EscapePairs.j0 k t294 t295 ((((⟨#[34]⟩ : ByteArray) ++ t296) ++ t297) ++ (⟨#[34]⟩ : ByteArray)) (t298 ++ t299) false)) else (colophonlaw08_EscapePairs.j0 k t294 t295 ((((⟨#[34]⟩ : ByteArray) ++ t296) ++ t297) ++ (⟨#[34]⟩ : ByteArray)) (t298 ++ t299) false)) else (colophonlaw08_EscapePairs.j0 k t294 t295 ((((⟨#[34]⟩ : ByteArray) ++ t296) ++ t297) ++ (⟨#[34]⟩ : ByteArray)) (t298 ++ t299) false)) else (none)))) else (none)) else (none))) else (none))) = some r := H
  have A5 := Aside0.mk A50
  clear A50
  replace H := Option.bind_eq_some_iff.mp H
  obtain ⟨t296, A60, H⟩ := H
  replace H : (if 1 + t296.size ≤ 9223372036854775807 then ((colophonlaw08_hexes.f k t295 (a2 / 16)).bind fun t297 => (if 1 + t296.size + t297.size ≤ 9223372036854775807 then (if 1 + t296.size + t297.size + 1 ≤ 9223372036854775807 then ((colophonlaw08_one.f t294).bind fun t298 => ((colophonlaw08_one.f t295).bind fun t299 => (if t298.size + t299.size ≤ 9223372036854775807 then (if t294 ≥ 55296 then (if t294 ≤ 56319 then (if t295 ≥ 56320 then (colophonlaw08_EscapePairs.j0 k t294 t295 ((((⟨#[34]⟩ : ByteArray) ++ t296) ++ t297) ++ (⟨#[34]⟩ : ByteArray)) (t298 ++ t299) (decide (t295 ≤ 57343))) else (colophonlaw08_EscapePairs.j0 k t294 t295 ((((⟨#[34]⟩ : ByteArray) ++ t296) ++ t297) ++ (⟨#[34]⟩ : ByteArray)) (t298 ++ t299) false)) else (colophonlaw08_EscapePairs.j0 k t294 t295 ((((⟨#[34]⟩ : ByteArray) ++ t296) ++ t297) ++ (⟨#[34]⟩ : ByteArray)) (t298 ++ t299) false)) else (colophonlaw08_EscapePairs.j0 k t294 t295 ((((⟨#[34]⟩ : ByteArray) ++ t296) ++ t297) ++ (⟨#[34]⟩ : ByteArray)) (t298 ++ t299) false)) else (none)))) else (none)) else (none))) else (none)) = some r := H
  have A6 := Aside0.mk A60
  clear A60
  by_cases c7 : 1 + t296.size ≤ 9223372036854775807
  · rw [if_pos c7] at H
    have c7b0 := eq_true c7
    have c7b1 : decide (1 + t296.size ≤ 9223372036854775807) = true := decide_eq_true c7
    try have c7b2 : (9223372036854775807 < 1 + t296.size) = False := eq_false (Nat.not_lt.2 c7)
    replace H := Option.bind_eq_some_iff.mp H
    obtain ⟨t297, A80, H⟩ := H
    replace H : (if 1 + t296.size + t297.size ≤ 9223372036854775807 then (if 1 + t296.size + t297.size + 1 ≤ 9223372036854775807 then ((colophonlaw08_one.f t294).bind fun t298 => ((colophonlaw08_one.f t295).bind fun t299 => (if t298.size + t299.size ≤ 9223372036854775807 then (if t294 ≥ 55296 then (if t294 ≤ 56319 then (if t295 ≥ 56320 then (colophonlaw08_EscapePairs.j0 k t294 t295 ((((⟨#[34]⟩ : ByteArray) ++ t296) ++ t297) ++ (⟨#[34]⟩ : ByteArray)) (t298 ++ t299) (decide (t295 ≤ 57343))) else (colophonlaw08_EscapePairs.j0 k t294 t295 ((((⟨#[34]⟩ : ByteArray) ++ t296) ++ t297) ++ (⟨#[34]⟩ : ByteArray)) (t298 ++ t299) false)) else (colophonlaw08_EscapePairs.j0 k t294 t295 ((((⟨#[34]⟩ : ByteArray) ++ t296) ++ t297) ++ (⟨#[34]⟩ : ByteArray)) (t298 ++ t299) false)) else (colophonlaw08_EscapePairs.j0 k t294 t295 ((((⟨#[34]⟩ : ByteArray) ++ t296) ++ t297) ++ (⟨#[34]⟩ : ByteArray)) (t298 ++ t299) false)) else (none)))) else (none)) else (none)) = some r := H
    have A8 := Aside0.mk A80
    clear A80
    by_cases c9 : 1 + t296.size + t297.size ≤ 9223372036854775807
    · rw [if_pos c9] at H
      have c9b0 := eq_true c9
      have c9b1 : decide (1 + t296.size + t297.size ≤ 9223372036854775807) = true := decide_eq_true c9
      try have c9b2 : (9223372036854775807 < 1 + t296.size + t297.size) = False := eq_false (Nat.not_lt.2 c9)
      by_cases c10 : 1 + t296.size + t297.size + 1 ≤ 9223372036854775807
      · rw [if_pos c10] at H
        have c10b0 := eq_true c10
        have c10b1 : decide (1 + t296.size + t297.size + 1 ≤ 9223372036854775807) = true := decide_eq_true c10
        try have c10b2 : (9223372036854775807 < 1 + t296.size + t297.size + 1) = False := eq_false (Nat.not_lt.2 c10)
        replace H := Option.bind_eq_some_iff.mp H
        obtain ⟨t298, A110, H⟩ := H
        replace H : ((colophonlaw08_one.f t295).bind fun t299 => (if t298.size + t299.size ≤ 9223372036854775807 then (if t294 ≥ 55296 then (if t294 ≤ 56319 then (if t295 ≥ 56320 then (colophonlaw08_EscapePairs.j0 k t294 t295 ((((⟨#[34]⟩ : ByteArray) ++ t296) ++ t297) ++ (⟨#[34]⟩ : ByteArray)) (t298 ++ t299) (decide (t295 ≤ 57343))) else (colophonlaw08_EscapePairs.j0 k t294 t295 ((((⟨#[34]⟩ : ByteArray) ++ t296) ++ t297) ++ (⟨#[34]⟩ : ByteArray)) (t298 ++ t299) false)) else (colophonlaw08_EscapePairs.j0 k t294 t295 ((((⟨#[34]⟩ : ByteArray) ++ t296) ++ t297) ++ (⟨#[34]⟩ : ByteArray)) (t298 ++ t299) false)) else (colophonlaw08_EscapePairs.j0 k t294 t295 ((((⟨#[34]⟩ : ByteArray) ++ t296) ++ t297) ++ (⟨#[34]⟩ : ByteArray)) (t298 ++ t299) false)) else (none))) = some r := H
        have A11 := Aside0.mk A110
        clear A110
        replace H := Option.bind_eq_some_iff.mp H
        obtain ⟨t299, A120, H⟩ := H
        replace H : (if t298.size + t299.size ≤ 9223372036854775807 then (if t294 ≥ 55296 then (if t294 ≤ 56319 then (if t295 ≥ 56320 then (colophonlaw08_EscapePairs.j0 k t294 t295 ((((⟨#[34]⟩ : ByteArray) ++ t296) ++ t297) ++ (⟨#[34]⟩ : ByteArray)) (t298 ++ t299) (decide (t295 ≤ 57343))) else (colophonlaw08_EscapePairs.j0 k t294 t295 ((((⟨#[34]⟩ : ByteArray) ++ t296) ++ t297) ++ (⟨#[34]⟩ : ByteArray)) (t298 ++ t299) false)) else (colophonlaw08_EscapePairs.j0 k t294 t295 ((((⟨#[34]⟩ : ByteArray) ++ t296) ++ t297) ++ (⟨#[34]⟩ : ByteArray)) (t298 ++ t299) false)) else (colophonlaw08_EscapePairs.j0 k t294 t295 ((((⟨#[34]⟩ : ByteArray) ++ t296) ++ t297) ++ (⟨#[34]⟩ : ByteArray)) (t298 ++ t299) false)) else (none)) = some r := H
        have A12 := Aside0.mk A120
        clear A120
        by_cases c13 : t298.size + t299.size ≤ 9223372036854775807
        · rw [if_pos c13] at H
          have c13b0 := eq_true c13
          have c13b1 : decide (t298.size + t299.size ≤ 9223372036854775807) = true := decide_eq_true c13
          try have c13b2 : (9223372036854775807 < t298.size + t299.size) = False := eq_false (Nat.not_lt.2 c13)
          have HC14 := Aside0.mk H
          clear H
          go_enter Tryd.func8, Tryd.ntmps8
          go_upto_region 4 with (first | ((with_reducible refine gate_callee (f := 18) rfl ?_); refine goesL_ (some 14) rfl rfl Tryd.func18 (by kernel_rfl) rfl #[.int .i64 a0, .int .i64 65536] rfl (by (try simp only [List.map_toArray, List.map_cons, List.map_nil]); first | done | rfl | (simp only [List.length_drop, List.length_take]; rfl)) ?_; (with_reducible refine (colophonref00_Bring.calls a0 65536 t294 _ A4.out).mono ?_); rintro e w' ⟨rfl, ⟨nd, rfl⟩⟩; refine ⟨_, rfl, ?_⟩) | ((with_reducible refine gate_callee (f := 18) rfl ?_); refine goesL_ (some 16) rfl rfl Tryd.func18 (by kernel_rfl) rfl #[.int .i64 a1, .int .i64 65536] rfl (by (try simp only [List.map_toArray, List.map_cons, List.map_nil]); first | done | rfl | (simp only [List.length_drop, List.length_take]; rfl)) ?_; (with_reducible refine (colophonref00_Bring.calls a1 65536 t295 _ A5.out).mono ?_); rintro e w' ⟨rfl, ⟨nd, rfl⟩⟩; refine ⟨_, rfl, ?_⟩) | ((with_reducible refine gate_callee (f := 21) rfl ?_); refine goesL_ (some 19) rfl rfl Tryd.func21 (by kernel_rfl) rfl #[.int .i64 t294, .int .i64 a2] rfl (by (try simp only [List.map_toArray, List.map_cons, List.map_nil]); first | done | rfl | (simp only [List.length_drop, List.length_take]; rfl)) ?_; (with_reducible refine (colophonlaw08_hexes.calls k t294 a2 t296 _ A6.out).mono ?_); rintro e w15 ⟨rfl, hb⟩; refine ⟨_, rfl, ?_⟩; have n0_ := Aside0.mk (below_step (by repeat (first | (with_reducible first | exact HB.out | apply below_alloc | apply pw_below_drewN | apply below_drew1) | exact HB.out)) hb); clear HB; have HB := n0_; clear n0_; (try clear hb); (try clear hb2); (try clear hk); (try clear hi)) | ((with_reducible refine gate_callee (f := 21) rfl ?_); refine goesL_ (some 24) rfl rfl Tryd.func21 (by kernel_rfl) rfl #[.int .i64 t295, .int .i64 (a2 / 16)] rfl (by (try simp only [List.map_toArray, List.map_cons, List.map_nil]); first | done | rfl | (simp only [List.length_drop, List.length_take]; rfl)) ?_; (with_reducible refine (colophonlaw08_hexes.calls k t295 (a2 / 16) t297 _ A8.out).mono ?_); rintro e w16 ⟨rfl, hb⟩; refine ⟨_, rfl, ?_⟩; have n0_ := Aside0.mk (below_step (by repeat (first | (with_reducible first | exact HB.out | apply below_alloc | apply pw_below_drewN | apply below_drew1) | exact HB.out)) hb); clear HB; have HB := n0_; clear n0_; (try clear hb); (try clear hb2); (try clear hk); (try clear hi)) | ((with_reducible refine gate_callee (f := 22) rfl ?_); refine goesL_ (some 28) rfl rfl Tryd.func22 (by kernel_rfl) rfl #[.int .i64 t294] rfl (by (try simp only [List.map_toArray, List.map_cons, List.map_nil]); first | done | rfl | (simp only [List.length_drop, List.length_take]; rfl)) ?_; (with_reducible refine (colophonlaw08_one.calls t294 t298 _ A11.out).mono ?_); rintro e w17 ⟨rfl, hb⟩; refine ⟨_, rfl, ?_⟩; have n0_ := Aside0.mk (below_step (by repeat (first | (with_reducible first | exact HB.out | apply below_alloc | apply pw_below_drewN | apply below_drew1) | exact HB.out)) hb); clear HB; have HB := n0_; clear n0_; (try clear hb); (try clear hb2); (try clear hk); (try clear hi)) | ((with_reducible refine gate_callee (f := 22) rfl ?_); refine goesL_ (some 30) rfl rfl Tryd.func22 (by kernel_rfl) rfl #[.int .i64 t295] rfl (by (try simp only [List.map_toArray, List.map_cons, List.map_nil]); first | done | rfl | (simp only [List.length_drop, List.length_take]; rfl)) ?_; (with_reducible refine (colophonlaw08_one.calls t295 t299 _ A12.out).mono ?_); rintro e w18 ⟨rfl, hb⟩; refine ⟨_, rfl, ?_⟩; have n0_ := Aside0.mk (below_step (by repeat (first | (with_reducible first | exact HB.out | apply below_alloc | apply pw_below_drewN | apply below_drew1) | exact HB.out)) hb); clear HB; have HB := n0_; clear n0_; (try clear hb); (try clear hb2); (try clear hk); (try clear hi)))
          (try simp only [Act.put, List.setIfInBounds_toArray, List.set_cons_zero, List.set_cons_succ])
          go_cut [45] (fun v45 wc => ∃ (kq : Nat) (x45_13 : Bool), v45 = .bool x45_13 ∧ Aside0 (colophonlaw08_EscapePairs.j0 kq t294 t295 ((((⟨#[34]⟩ : ByteArray) ++ t296) ++ t297) ++ (⟨#[34]⟩ : ByteArray)) (t298 ++ t299) x45_13 = some r) ∧ Aside0 (kq ≤ k) ∧ Aside0 (Below w.heap.size w wc))
          case first =>
            have H := HC14.out
            clear HC14
            by_cases c19 : t294 ≥ 55296
            · rw [if_pos c19] at H
              have c19b0 : decide (55296 ≤ t294) = true := decide_eq_true c19
              clear c19
              (first | rw [c19b0] | (simp only [i64_w, i32_w]; rw [c19b0]) | skip)
              by_cases c20 : t294 ≤ 56319
              · rw [if_pos c20] at H
                have c20b0 : decide (t294 ≤ 56319) = true := decide_eq_true c20
                clear c20
                by_cases c21 : t295 ≥ 56320
                · rw [if_pos c21] at H
                  have c21b0 : decide (56320 ≤ t295) = true := decide_eq_true c21
                  clear c21
                  have H' := Aside0.mk H
                  clear H
                  go_wp2
                  go_meet
                  case rel => exact ⟨_, (decide (t295 ≤ 57343)), (by first | rfl | (simp; done) | (simp [*]; done)), H', ⟨by first | omega | exact Nat.le_refl _⟩, ⟨by repeat (first | (with_reducible first | exact HB.out | apply below_alloc | apply pw_below_drewN | apply below_drew1) | exact HB.out)⟩⟩
                · rw [if_neg c21] at H
                  have c21b0 : decide (56320 ≤ t295) = false := decide_eq_false c21
                  clear c21
                  have H' := Aside0.mk H
                  clear H
                  go_wp2
                  go_meet
                  case rel => exact ⟨_, (false), (by first | rfl | (simp; done) | (simp [*]; done)), H', ⟨by first | omega | exact Nat.le_refl _⟩, ⟨by repeat (first | (with_reducible first | exact HB.out | apply below_alloc | apply pw_below_drewN | apply below_drew1) | exact HB.out)⟩⟩
              · rw [if_neg c20] at H
                have c20b0 : decide (t294 ≤ 56319) = false := decide_eq_false c20
                clear c20
                have H' := Aside0.mk H
                clear H
                go_wp2
                go_meet
                case rel => exact ⟨_, (false), (by first | rfl | (simp; done) | (simp [*]; done)), H', ⟨by first | omega | exact Nat.le_refl _⟩, ⟨by repeat (first | (with_reducible first | exact HB.out | apply below_alloc | apply pw_below_drewN | apply below_drew1) | exact HB.out)⟩⟩
            · rw [if_neg c19] at H
              have c19b0 : decide (55296 ≤ t294) = false := decide_eq_false c19
              clear c19
              (first | rw [c19b0] | (simp only [i64_w, i32_w]; rw [c19b0]) | skip)
              have H' := Aside0.mk H
              clear H
              go_wp2
              go_meet
              case rel => exact ⟨_, (false), (by first | rfl | (simp; done) | (simp [*]; done)), H', ⟨by first | omega | exact Nat.le_refl _⟩, ⟨by repeat (first | (with_reducible first | exact HB.out | apply below_alloc | apply pw_below_drewN | apply below_drew1) | exact HB.out)⟩⟩
          case rest =>
            clear HC14
            try clear c1
            try clear c2
            try clear p2
            try clear c7
            try clear c7b0
            try clear c7b1
            try clear c7b2
            try clear c8
            try clear c9
            try clear c9b0
            try clear c9b1
            try clear c9b2
            try clear c10
            try clear c10b0
            try clear c10b1
            try clear c10b2
            try clear c13
            try clear c13b0
            try clear c13b1
            try clear c13b2
            try clear c18
            try clear c19
            try clear c19b0
            try clear c20
            try clear c20b0
            try clear c21
            try clear c21b0
            obtain ⟨kq, x45_13, rfl, HA, HJ13, HB⟩ := hcut
            cases kq with
            | zero => exact absurd HA.out (by simp [colophonlaw08_EscapePairs.j0])
            | succ kj13 =>
              have H := HA.out
              clear HA
              simp only [colophonlaw08_EscapePairs.j0] at H
              by_cases c22 : x45_13 = true
              · subst c22
                have H1 : ((colophonref01_Encode.f (wrap64 ((wrap64 ((wrap64 (65536 + (wrap64 ((wrap64 (t294 - 55296)) * 1024)))) + t295)) - 56320))).bind fun bt300 => ((colophonlaw08_tells.f kj13 ((((⟨#[34]⟩ : ByteArray) ++ t296) ++ t297) ++ (⟨#[34]⟩ : ByteArray)) (strOfNums bt300.1)).bind fun t304 => (if t304 = true then ((colophonlaw08_awake.f kj13).bind fun t305 => (some t305)) else (some false)))) = some r := by rw [if_pos rfl] at H; exact H
                clear H
                have H := H1
                clear H1
                replace H := Option.bind_eq_some_iff.mp H
                obtain ⟨⟨t300, t301⟩, A230, H⟩ := H
                replace H : ((colophonlaw08_tells.f kj13 ((((⟨#[34]⟩ : ByteArray) ++ t296) ++ t297) ++ (⟨#[34]⟩ : ByteArray)) (strOfNums t300)).bind fun t304 => (if t304 = true then ((colophonlaw08_awake.f kj13).bind fun t305 => (some t305)) else (some false))) = some r := H
                have A23 := Aside0.mk A230
                clear A230
                replace H := Option.bind_eq_some_iff.mp H
                obtain ⟨t304, A240, H⟩ := H
                replace H : (if t304 = true then ((colophonlaw08_awake.f kj13).bind fun t305 => (some t305)) else (some false)) = some r := H
                have A24 := Aside0.mk A240
                clear A240
                by_cases c25 : t304 = true
                · subst c25
                  have H1 : ((colophonlaw08_awake.f kj13).bind fun t305 => (some t305)) = some r := by rw [if_pos rfl] at H; exact H
                  clear H
                  have H := H1
                  clear H1
                  replace H := Option.bind_eq_some_iff.mp H
                  obtain ⟨t305, A260, H⟩ := H
                  replace H : (some t305) = some r := H
                  have A26 := Aside0.mk A260
                  clear A260
                  obtain rfl := Option.some.inj H
                  go_wp2_with (first | ((with_reducible refine gate_callee (f := 23) rfl ?_); refine goesL_ (some 54) rfl rfl Tryd.func23 (by kernel_rfl) rfl #[.int .i64 (wrap64 ((wrap64 ((wrap64 (65536 + (wrap64 ((wrap64 (t294 - 55296)) * 1024)))) + t295)) - 56320))] rfl (by (try simp only [List.map_toArray, List.map_cons, List.map_nil]); first | done | rfl | (simp only [List.length_drop, List.length_take]; rfl)) ?_; (with_reducible refine (colophonref01_Encode.calls (wrap64 ((wrap64 ((wrap64 (65536 + (wrap64 ((wrap64 (t294 - 55296)) * 1024)))) + t295)) - 56320)) t300 t301 _ A23.out).mono ?_); rintro e w27 ⟨v302, rfl, ho0, hb⟩; refine ⟨_, rfl, ?_⟩; have n0_ := Aside0.mk (Kd.R_lower ho0 (below_size (by repeat (first | (with_reducible first | exact HB.out | apply below_alloc | apply pw_below_drewN | apply below_drew1) | exact HB.out)))); have n1_ := Aside0.mk (below_step (by repeat (first | (with_reducible first | exact HB.out | apply below_alloc | apply pw_below_drewN | apply below_drew1) | exact HB.out)) hb); clear HB; have HO303 := n0_; have HB := n1_; clear n0_ n1_; (try clear hb); (try clear hb2); (try clear hk); (try clear hi); (try clear ho0); have hcv28 := own_string (P := Tryd.prog) Tryd.underlying27 Tryd.underlying5 Tryd.underlying9 (Kd.own_of_R HO303.out)) | ((with_reducible refine gate_callee (f := 20) rfl ?_); refine goesL_ (some 61) rfl rfl Tryd.func20 (by kernel_rfl) rfl #[.string ((((⟨#[34]⟩ : ByteArray) ++ t296) ++ t297) ++ (⟨#[34]⟩ : ByteArray)), .string (strOfNums t300)] rfl (by (try simp only [List.map_toArray, List.map_cons, List.map_nil]); first | done | rfl | (simp only [List.length_drop, List.length_take]; rfl)) ?_; (with_reducible refine (colophonlaw08_tells.calls kj13 ((((⟨#[34]⟩ : ByteArray) ++ t296) ++ t297) ++ (⟨#[34]⟩ : ByteArray)) (strOfNums t300) true _ A24.out).mono ?_); rintro e w29 ⟨rfl, hb⟩; refine ⟨_, rfl, ?_⟩; have n0_ := Aside0.mk (Kd.R_below (by (with_reducible repeat (first | apply Kd.R_alloc | apply Kd.R_drewN | apply Kd.R_drew)); exact HO303.out) hb); have n1_ := Aside0.mk (below_step (by repeat (first | (with_reducible first | exact HB.out | apply below_alloc | apply pw_below_drewN | apply below_drew1) | exact HB.out)) hb); clear HO303; clear HB; have HO303 := n0_; have HB := n1_; clear n0_ n1_; (try clear hb); (try clear hb2); (try clear hk); (try clear hi)) | (go_at_call 12; (with_reducible refine (colophonlaw08_awake.calls kj13  t305 _ ?side1 A26.out).mono ?_); (case side1 => exact TAB.below HT.out (by repeat (first | (with_reducible first | exact HB.out | apply below_alloc | apply pw_below_drewN | apply below_drew1) | exact HB.out))); rintro e w30 ⟨rfl, hb⟩; have n0_ := Aside0.mk (Kd.R_below (by (with_reducible repeat (first | apply Kd.R_alloc | apply Kd.R_drewN | apply Kd.R_drew)); exact HO303.out) hb); have n1_ := Aside0.mk (below_step (by repeat (first | (with_reducible first | exact HB.out | apply below_alloc | apply pw_below_drewN | apply below_drew1) | exact HB.out)) hb); clear HO303; clear HB; have HO303 := n0_; have HB := n1_; clear n0_ n1_; (try clear hb); (try clear hb2); (try clear hk); (try clear hi)))
                  go_ret
                  exact ⟨by first | rfl | (simp [errW_none, errW_some] <;> rfl) | (simp [errW_none, errW_some] <;> decide +kernel) | (simp [*, errW_none, errW_some] <;> rfl), by repeat (first | (with_reducible first | exact HB.out | apply below_alloc | apply pw_below_drewN | apply below_drew1) | exact HB.out)⟩
                · replace c25 := Bool.eq_false_iff.mpr c25
                  subst c25
                  have H1 : (some false) = some r := by rw [if_neg (show ¬ (false = true) by decide)] at H; exact H
                  clear H
                  have H := H1
                  clear H1
                  obtain rfl := Option.some.inj H
                  go_wp2_with (first | ((with_reducible refine gate_callee (f := 23) rfl ?_); refine goesL_ (some 54) rfl rfl Tryd.func23 (by kernel_rfl) rfl #[.int .i64 (wrap64 ((wrap64 ((wrap64 (65536 + (wrap64 ((wrap64 (t294 - 55296)) * 1024)))) + t295)) - 56320))] rfl (by (try simp only [List.map_toArray, List.map_cons, List.map_nil]); first | done | rfl | (simp only [List.length_drop, List.length_take]; rfl)) ?_; (with_reducible refine (colophonref01_Encode.calls (wrap64 ((wrap64 ((wrap64 (65536 + (wrap64 ((wrap64 (t294 - 55296)) * 1024)))) + t295)) - 56320)) t300 t301 _ A23.out).mono ?_); rintro e w31 ⟨v302, rfl, ho0, hb⟩; refine ⟨_, rfl, ?_⟩; have n0_ := Aside0.mk (Kd.R_lower ho0 (below_size (by repeat (first | (with_reducible first | exact HB.out | apply below_alloc | apply pw_below_drewN | apply below_drew1) | exact HB.out)))); have n1_ := Aside0.mk (below_step (by repeat (first | (with_reducible first | exact HB.out | apply below_alloc | apply pw_below_drewN | apply below_drew1) | exact HB.out)) hb); clear HB; have HO303 := n0_; have HB := n1_; clear n0_ n1_; (try clear hb); (try clear hb2); (try clear hk); (try clear hi); (try clear ho0); have hcv32 := own_string (P := Tryd.prog) Tryd.underlying27 Tryd.underlying5 Tryd.underlying9 (Kd.own_of_R HO303.out)) | ((with_reducible refine gate_callee (f := 20) rfl ?_); refine goesL_ (some 61) rfl rfl Tryd.func20 (by kernel_rfl) rfl #[.string ((((⟨#[34]⟩ : ByteArray) ++ t296) ++ t297) ++ (⟨#[34]⟩ : ByteArray)), .string (strOfNums t300)] rfl (by (try simp only [List.map_toArray, List.map_cons, List.map_nil]); first | done | rfl | (simp only [List.length_drop, List.length_take]; rfl)) ?_; (with_reducible refine (colophonlaw08_tells.calls kj13 ((((⟨#[34]⟩ : ByteArray) ++ t296) ++ t297) ++ (⟨#[34]⟩ : ByteArray)) (strOfNums t300) false _ A24.out).mono ?_); rintro e w33 ⟨rfl, hb⟩; refine ⟨_, rfl, ?_⟩; have n0_ := Aside0.mk (Kd.R_below (by (with_reducible repeat (first | apply Kd.R_alloc | apply Kd.R_drewN | apply Kd.R_drew)); exact HO303.out) hb); have n1_ := Aside0.mk (below_step (by repeat (first | (with_reducible first | exact HB.out | apply below_alloc | apply pw_below_drewN | apply below_drew1) | exact HB.out)) hb); clear HO303; clear HB; have HO303 := n0_; have HB := n1_; clear n0_ n1_; (try clear hb); (try clear hb2); (try clear hk); (try clear hi)))
                  go_ret
                  exact ⟨by first | rfl | (simp [errW_none, errW_some] <;> rfl) | (simp [errW_none, errW_some] <;> decide +kernel) | (simp [*, errW_none, errW_some] <;> rfl), by repeat (first | (with_reducible first | exact HB.out | apply below_alloc | apply pw_below_drewN | apply below_drew1) | exact HB.out)⟩
              · replace c22 := Bool.eq_false_iff.mpr c22
                subst c22
                have H1 : ((colophonlaw08_tells.f kj13 ((((⟨#[34]⟩ : ByteArray) ++ t296) ++ t297) ++ (⟨#[34]⟩ : ByteArray)) (t298 ++ t299)).bind fun t306 => (if t306 = true then ((colophonlaw08_awake.f kj13).bind fun t307 => (some t307)) else (some false))) = some r := by rw [if_neg (show ¬ (false = true) by decide)] at H; exact H
                clear H
                have H := H1
                clear H1
                replace H := Option.bind_eq_some_iff.mp H
                obtain ⟨t306, A340, H⟩ := H
                replace H : (if t306 = true then ((colophonlaw08_awake.f kj13).bind fun t307 => (some t307)) else (some false)) = some r := H
                have A34 := Aside0.mk A340
                clear A340
                by_cases c35 : t306 = true
                · subst c35
                  have H1 : ((colophonlaw08_awake.f kj13).bind fun t307 => (some t307)) = some r := by rw [if_pos rfl] at H; exact H
                  clear H
                  have H := H1
                  clear H1
                  replace H := Option.bind_eq_some_iff.mp H
                  obtain ⟨t307, A360, H⟩ := H
                  replace H : (some t307) = some r := H
                  have A36 := Aside0.mk A360
                  clear A360
                  obtain rfl := Option.some.inj H
                  go_wp2_with (first | ((with_reducible refine gate_callee (f := 20) rfl ?_); refine goesL_ (some 61) rfl rfl Tryd.func20 (by kernel_rfl) rfl #[.string ((((⟨#[34]⟩ : ByteArray) ++ t296) ++ t297) ++ (⟨#[34]⟩ : ByteArray)), .string (t298 ++ t299)] rfl (by (try simp only [List.map_toArray, List.map_cons, List.map_nil]); first | done | rfl | (simp only [List.length_drop, List.length_take]; rfl)) ?_; (with_reducible refine (colophonlaw08_tells.calls kj13 ((((⟨#[34]⟩ : ByteArray) ++ t296) ++ t297) ++ (⟨#[34]⟩ : ByteArray)) (t298 ++ t299) true _ A34.out).mono ?_); rintro e w37 ⟨rfl, hb⟩; refine ⟨_, rfl, ?_⟩; have n0_ := Aside0.mk (below_step (by repeat (first | (with_reducible first | exact HB.out | apply below_alloc | apply pw_below_drewN | apply below_drew1) | exact HB.out)) hb); clear HB; have HB := n0_; clear n0_; (try clear hb); (try clear hb2); (try clear hk); (try clear hi)) | (go_at_call 12; (with_reducible refine (colophonlaw08_awake.calls kj13  t307 _ ?side1 A36.out).mono ?_); (case side1 => exact TAB.below HT.out (by repeat (first | (with_reducible first | exact HB.out | apply below_alloc | apply pw_below_drewN | apply below_drew1) | exact HB.out))); rintro e w38 ⟨rfl, hb⟩; have n0_ := Aside0.mk (below_step (by repeat (first | (with_reducible first | exact HB.out | apply below_alloc | apply pw_below_drewN | apply below_drew1) | exact HB.out)) hb); clear HB; have HB := n0_; clear n0_; (try clear hb); (try clear hb2); (try clear hk); (try clear hi)))
                  go_ret
                  exact ⟨by first | rfl | (simp [errW_none, errW_some] <;> rfl) | (simp [errW_none, errW_some] <;> decide +kernel) | (simp [*, errW_none, errW_some] <;> rfl), by repeat (first | (with_reducible first | exact HB.out | apply below_alloc | apply pw_below_drewN | apply below_drew1) | exact HB.out)⟩
                · replace c35 := Bool.eq_false_iff.mpr c35
                  subst c35
                  have H1 : (some false) = some r := by rw [if_neg (show ¬ (false = true) by decide)] at H; exact H
                  clear H
                  have H := H1
                  clear H1
                  obtain rfl := Option.some.inj H
                  go_wp2_with (first | ((with_reducible refine gate_callee (f := 20) rfl ?_); refine goesL_ (some 61) rfl rfl Tryd.func20 (by kernel_rfl) rfl #[.string ((((⟨#[34]⟩ : ByteArray) ++ t296) ++ t297) ++ (⟨#[34]⟩ : ByteArray)), .string (t298 ++ t299)] rfl (by (try simp only [List.map_toArray, List.map_cons, List.map_nil]); first | done | rfl | (simp only [List.length_drop, List.length_take]; rfl)) ?_; (with_reducible refine (colophonlaw08_tells.calls kj13 ((((⟨#[34]⟩ : ByteArray) ++ t296) ++ t297) ++ (⟨#[34]⟩ : ByteArray)) (t298 ++ t299) false _ A34.out).mono ?_); rintro e w39 ⟨rfl, hb⟩; refine ⟨_, rfl, ?_⟩; have n0_ := Aside0.mk (below_step (by repeat (first | (with_reducible first | exact HB.out | apply below_alloc | apply pw_below_drewN | apply below_drew1) | exact HB.out)) hb); clear HB; have HB := n0_; clear n0_; (try clear hb); (try clear hb2); (try clear hk); (try clear hi)))
                  go_ret
                  exact ⟨by first | rfl | (simp [errW_none, errW_some] <;> rfl) | (simp [errW_none, errW_some] <;> decide +kernel) | (simp [*, errW_none, errW_some] <;> rfl), by repeat (first | (with_reducible first | exact HB.out | apply below_alloc | apply pw_below_drewN | apply below_drew1) | exact HB.out)⟩
        · rw [if_neg c13] at H
          exact absurd H (by simp)
      · rw [if_neg c10] at H
        exact absurd H (by simp)
    · rw [if_neg c9] at H
      exact absurd H (by simp)
  · rw [if_neg c7] at H
    exact absurd H (by simp)

/-- THE ONE PURE STATEMENT of colophonlaw08_EscapePairs: yours. -/
def colophonlaw08_EscapePairs.Pure : Prop := ∀ (a0 : Int) (a1 : Int) (a2 : Int), (Lit.int .i64 a0).wf = true → (Lit.int .i64 a1).wf = true → (Lit.int .i64 a2).wf = true → ∃ k, colophonlaw08_EscapePairs.f k a0 a1 a2 = some true
theorem colophonlaw08_EscapePairs.walk (P : colophonlaw08_EscapePairs.Pure) (a0 : Int) (a1 : Int) (a2 : Int) (w : World) (w0 : (Lit.int .i64 a0).wf = true) (w1 : (Lit.int .i64 a1).wf = true) (w2 : (Lit.int .i64 a2).wf = true) (hT : TAB w) :
    Calls Tryd.prog 8 #[.int .i64 a0, .int .i64 a1, .int .i64 a2] w fun e w' => e = .returned (.bool true) ∧ Below w.heap.size w w' := by
  obtain ⟨k, h⟩ := P a0 a1 a2 w0 w1 w2
  refine (colophonlaw08_EscapePairs.calls k a0 a1 a2 true w hT h).mono ?_
  rintro e w' ⟨rfl, hd⟩
  exact ⟨rfl, hd⟩

/-! ### colophonref01_Check: function 19 -/
def colophonref01_Check.l0 : Nat → List Int → Int → Option (Int × Int)
  | 0, _, _ => none
  | k + 1, x0, x4 => if x4 < (x0.length : Int) then ((colophonref01_Decode.f k x0 x4).bind fun bt308 => (if bt308.2.2 = 0 then (colophonref01_Check.l0 k x0 (wrap64 (x4 + bt308.2.1))) else (some (x4, bt308.2.2)))) else (some (x4, 0))
def colophonref01_Check.f (k : Nat) (l0 : List Int) : Option (Int × Int) := colophonref01_Check.l0 k l0 0
theorem colophonref01_Check.mono_l : ∀ k, (∀ y0 y1, LeO (colophonref01_Check.l0 k y0 y1) (colophonref01_Check.l0 (k + 1) y0 y1))
  | 0 => fun _ _ r h => by simp [colophonref01_Check.l0] at h
  | k + 1 => by
    have ih0 := colophonref01_Check.mono_l k
    · intro y0 y1
      unfold colophonref01_Check.l0
      repeat' first
      | (with_reducible exact ih0 _ _)
      | (with_reducible exact colophonref01_Decode.mono _ _ _)
      | (with_reducible exact LeO.refl _)
      | (with_reducible exact LeO.none _)
      | (with_reducible refine LeO.ite ?_ ?_)
      | (with_reducible refine LeO.bind ?_ (fun _ => ?_))
      | exact ih0 _ _
      | exact colophonref01_Decode.mono _ _ _
      | exact LeO.none _
      | refine LeO.ite ?_ ?_
      | refine LeO.bind ?_ (fun _ => ?_)
theorem colophonref01_Check.mono : ∀ a0 k, LeO (colophonref01_Check.f k a0) (colophonref01_Check.f (k + 1) a0) := by
  intro a0 k
  have ih0 := colophonref01_Check.mono_l k
  unfold colophonref01_Check.f
  repeat' first
      | (with_reducible exact ih0 _ _)
      | (with_reducible exact colophonref01_Decode.mono _ _ _)
      | (with_reducible exact LeO.refl _)
      | (with_reducible exact LeO.none _)
      | (with_reducible refine LeO.ite ?_ ?_)
      | (with_reducible refine LeO.bind ?_ (fun _ => ?_))
      | exact ih0 _ _
      | exact colophonref01_Decode.mono _ _ _
      | exact LeO.none _
      | refine LeO.ite ?_ ?_
      | refine LeO.bind ?_ (fun _ => ?_)
set_option maxHeartbeats 8000000 in
set_option maxRecDepth 100000 in
theorem colophonref01_Check.calls (k : Nat) (A0 : Option Addr) (c0 : Nat) (l0 : List Int) (r1 : Int) (r2 : Int) (w : World) (hr0 : Kd.C (Kd.int .u8) w A0 l0.length l0) (hc0 : l0.length ≤ c0) (h : colophonref01_Check.f k l0 = some (r1, r2)) :
    Calls Tryd.prog 19 #[.slice A0 l0.length c0] w fun e w' => e = .returned (.tuple #[.int .i64 r1, .int .i64 r2]) ∧ Below w.heap.size w w' := by
  have HR0 := Aside0.mk hr0
  have HC0 := Aside0.mk hc0
  clear hr0 hc0
  have HB := Aside0.mk (Below.refl w.heap.size w)
  have H : (colophonref01_Check.l0 k l0 0) = some (r1, r2) := h
  clear h
  have H' := Aside0.mk H
  clear H
  go_enter Tryd.func19, Tryd.ntmps19
  go_wp2
  go_loopg [4] k (fun kq v4 w' => ∃ (x4_1 : Int), v4 = .int .i64 x4_1 ∧ Aside0 (colophonref01_Check.l0 kq l0 x4_1 = some (r1, r2)) ∧ Aside0 (kq ≤ k) ∧ Aside0 (Below w.heap.size w w'))
  case atStart => exact ⟨(0), (by first | rfl | (simp; done) | (simp [*]; done)), H', ⟨Nat.le_refl _⟩, ⟨by repeat (first | (with_reducible first | exact HB.out | apply below_alloc | apply pw_below_drewN | apply below_drew1) | exact HB.out)⟩⟩
  case round =>
    clear H'
    try clear c1
    obtain ⟨x4_1, rfl, HA, HK1, HB⟩ := hrel
    cases gk with
    | zero => exact absurd HA.out (by simp [colophonref01_Check.l0])
    | succ k1 =>
      have H := HA.out
      clear HA
      simp only [colophonref01_Check.l0] at H
      by_cases c2 : x4_1 < (l0.length : Int)
      · rw [if_pos c2] at H
        have c2b0 : decide (x4_1 < (l0.length : Int)) = true := decide_eq_true c2
        clear c2
        replace H := Option.bind_eq_some_iff.mp H
        obtain ⟨⟨t308, t309, t310⟩, A30, H⟩ := H
        replace H : (if t310 = 0 then (colophonref01_Check.l0 k1 l0 (wrap64 (x4_1 + t309))) else (some (x4_1, t310))) = some (r1, r2) := H
        have A3 := Aside0.mk A30
        clear A30
        by_cases c4 : t310 = 0
        · rw [if_pos c4] at H
          have c4b0 : (t310 == 0) = true := beq_iff_eq.mpr c4
          have c4b1 : (t310 != 0) = false := bne_eq_false_iff_eq.mpr c4
          clear c4
          have H' := Aside0.mk H
          clear H
          go_wp2_with (first | ((with_reducible refine gate_callee (f := 32) rfl ?_); refine goesL_ (some 15) rfl rfl Tryd.func32 (by kernel_rfl) rfl #[.slice A0 l0.length c0, .int .i64 x4_1] rfl (by (try simp only [List.map_toArray, List.map_cons, List.map_nil]); first | done | rfl | (simp only [List.length_drop, List.length_take]; rfl)) ?_; (with_reducible refine (colophonref01_Decode.calls k1 _ _ l0 x4_1 t308 t309 t310 _ ?side1 ?side2 A3.out).mono ?_); (case side1 => repeat (first | exact (Kd.C_below HR0.out HB.out) | (with_reducible refine Kd.C_alloc ?_ _) | (with_reducible refine Kd.C_drewN ?_ _) | (with_reducible refine Kd.C_drew ?_))); (case side2 => exact HC0.out); rintro e w5 ⟨rfl, hb⟩; refine ⟨_, rfl, ?_⟩; have n0_ := Aside0.mk (below_step (by repeat (first | (with_reducible first | exact HB.out | apply below_alloc | apply pw_below_drewN | apply below_drew1) | exact HB.out)) hb); clear HB; have HB := n0_; clear n0_; (try clear hb); (try clear hb2); (try clear hk); (try clear hi)))
          go_roundg k1
          case measure => have := HK1.out; omega
          case rel => exact ⟨(wrap64 (x4_1 + t309)), (by first | rfl | (simp; done) | (simp [*]; done)), H', ⟨by have := HK1.out; omega⟩, ⟨by repeat (first | (with_reducible first | exact HB.out | apply below_alloc | apply pw_below_drewN | apply below_drew1) | exact HB.out)⟩⟩
        · rw [if_neg c4] at H
          have c4b0 : (t310 == 0) = false := beq_eq_false_iff_ne.mpr c4
          have c4b1 : (t310 != 0) = true := bne_iff_ne.mpr c4
          simp only [Option.some.injEq, Prod.mk.injEq] at H
          obtain ⟨rfl, rfl⟩ := H
          go_wp2_with (first | ((with_reducible refine gate_callee (f := 32) rfl ?_); refine goesL_ (some 15) rfl rfl Tryd.func32 (by kernel_rfl) rfl #[.slice A0 l0.length c0, .int .i64 x4_1] rfl (by (try simp only [List.map_toArray, List.map_cons, List.map_nil]); first | done | rfl | (simp only [List.length_drop, List.length_take]; rfl)) ?_; (with_reducible refine (colophonref01_Decode.calls k1 _ _ l0 x4_1 t308 t309 t310 _ ?side1 ?side2 A3.out).mono ?_); (case side1 => repeat (first | exact (Kd.C_below HR0.out HB.out) | (with_reducible refine Kd.C_alloc ?_ _) | (with_reducible refine Kd.C_drewN ?_ _) | (with_reducible refine Kd.C_drew ?_))); (case side2 => exact HC0.out); rintro e w6 ⟨rfl, hb⟩; refine ⟨_, rfl, ?_⟩; have n0_ := Aside0.mk (below_step (by repeat (first | (with_reducible first | exact HB.out | apply below_alloc | apply pw_below_drewN | apply below_drew1) | exact HB.out)) hb); clear HB; have HB := n0_; clear n0_; (try clear hb); (try clear hb2); (try clear hk); (try clear hi)))
          go_ret2
          exact ⟨by first | rfl | (simp [errW_none, errW_some] <;> rfl) | (simp [errW_none, errW_some] <;> decide +kernel) | (simp [*, errW_none, errW_some] <;> rfl), by repeat (first | (with_reducible first | exact HB.out | apply below_alloc | apply pw_below_drewN | apply below_drew1) | exact HB.out)⟩
      · rw [if_neg c2] at H
        have c2b0 : decide (x4_1 < (l0.length : Int)) = false := decide_eq_false c2
        clear c2
        simp only [Option.some.injEq, Prod.mk.injEq] at H
        obtain ⟨rfl, rfl⟩ := H
        go_wp2
        go_ret2
        exact ⟨by first | rfl | (simp [errW_none, errW_some] <;> rfl) | (simp [errW_none, errW_some] <;> decide +kernel) | (simp [*, errW_none, errW_some] <;> rfl), by repeat (first | (with_reducible first | exact HB.out | apply below_alloc | apply pw_below_drewN | apply below_drew1) | exact HB.out)⟩

/-! ### colophonref08_short: function 33 -/
def colophonref08_short.j0 : Nat → Int → Int → Bool → Option (Int)
  | 0, _, _, _ => none
  | k + 1, x0, x3, x4 => if x4 = true then (some ((x0) % 256)) else (if x3 = 8 then (some 98) else (if x3 = 12 then (some 102) else (if x3 = 10 then (some 110) else (if x3 = 13 then (some 114) else (if x3 = 9 then (some 116) else (some 0))))))
def colophonref08_short.f (k : Nat) (a0 : Int) : Option (Int) := if a0 = 34 then (colophonref08_short.j0 k a0 a0 (a0 == 34)) else (colophonref08_short.j0 k a0 a0 (a0 == 92))
theorem colophonref08_short.mono_l : ∀ k, (∀ y0 y1 y2, LeO (colophonref08_short.j0 k y0 y1 y2) (colophonref08_short.j0 (k + 1) y0 y1 y2))
  | 0 => fun _ _ _ r h => by simp [colophonref08_short.j0] at h
  | k + 1 => by
    have ih0 := colophonref08_short.mono_l k
    · intro y0 y1 y2
      unfold colophonref08_short.j0
      repeat' first
      | (with_reducible exact ih0 _ _ _)
      | (with_reducible exact LeO.refl _)
      | (with_reducible exact LeO.none _)
      | (with_reducible refine LeO.ite ?_ ?_)
      | (with_reducible refine LeO.bind ?_ (fun _ => ?_))
      | exact ih0 _ _ _
      | exact LeO.none _
      | refine LeO.ite ?_ ?_
      | refine LeO.bind ?_ (fun _ => ?_)
theorem colophonref08_short.mono : ∀ a0 k, LeO (colophonref08_short.f k a0) (colophonref08_short.f (k + 1) a0) := by
  intro a0 k
  have ih0 := colophonref08_short.mono_l k
  unfold colophonref08_short.f
  repeat' first
      | (with_reducible exact ih0 _ _ _)
      | (with_reducible exact LeO.refl _)
      | (with_reducible exact LeO.none _)
      | (with_reducible refine LeO.ite ?_ ?_)
      | (with_reducible refine LeO.bind ?_ (fun _ => ?_))
      | exact ih0 _ _ _
      | exact LeO.none _
      | refine LeO.ite ?_ ?_
      | refine LeO.bind ?_ (fun _ => ?_)
set_option maxHeartbeats 8000000 in
set_option maxRecDepth 100000 in
theorem colophonref08_short.calls (k : Nat) (a0 : Int) (r : Int) (w : World) (h : colophonref08_short.f k a0 = some r) :
    Calls Tryd.prog 33 #[.int .i64 a0] w fun e w' => e = .returned (.int .u8 r) ∧ Drawn0 w w' := by
  have H : (if a0 = 34 then (colophonref08_short.j0 k a0 a0 (a0 == 34)) else (colophonref08_short.j0 k a0 a0 (a0 == 92))) = some r := h
  clear h
  have HC2 := Aside0.mk H
  clear H
  go_enter Tryd.func33, Tryd.ntmps33
  go_upto_if 4 with (fail)
  go_cut [4] (fun v4 wc => ∃ (kq : Nat) (x4_1 : Bool), v4 = .bool x4_1 ∧ Aside0 (colophonref08_short.j0 kq a0 a0 x4_1 = some r) ∧ Aside0 (kq ≤ k) ∧ Drawn0 w wc)
  case first =>
    have H := HC2.out
    clear HC2
    by_cases c3 : a0 = 34
    · rw [if_pos c3] at H
      have c3b0 : (a0 == 34) = true := beq_iff_eq.mpr c3
      have c3b1 : (a0 != 34) = false := bne_eq_false_iff_eq.mpr c3
      clear c3
      (first | rw [c3b0] | (simp only [i64_w, i32_w]; rw [c3b0]) | skip)
      have H' := Aside0.mk H
      clear H
      go_wp2
      go_meet
      case rel => exact ⟨_, ((a0 == 34)), (by first | rfl | (simp; done) | (simp [*]; done)), H', ⟨by first | omega | exact Nat.le_refl _⟩, by repeat (first | exact Drawn0.refl _ | apply Drawn0.step)⟩
    · rw [if_neg c3] at H
      have c3b0 : (a0 == 34) = false := beq_eq_false_iff_ne.mpr c3
      have c3b1 : (a0 != 34) = true := bne_iff_ne.mpr c3
      (first | rw [c3b0] | (simp only [i64_w, i32_w]; rw [c3b0]) | skip)
      have H' := Aside0.mk H
      clear H
      go_wp2
      go_meet
      case rel => exact ⟨_, ((a0 == 92)), (by first | rfl | (simp; done) | (simp [*]; done)), H', ⟨by first | omega | exact Nat.le_refl _⟩, by repeat (first | exact Drawn0.refl _ | apply Drawn0.step)⟩
  case rest =>
    clear HC2
    try clear p2
    try clear c3
    try clear c3b0
    try clear c3b1
    obtain ⟨kq, x4_1, rfl, HA, HJ1, ⟨mc1, rfl⟩⟩ := hcut
    cases kq with
    | zero => exact absurd HA.out (by simp [colophonref08_short.j0])
    | succ kj1 =>
      have H := HA.out
      clear HA
      simp only [colophonref08_short.j0] at H
      by_cases c4 : x4_1 = true
      · subst c4
        have H1 : (some ((a0) % 256)) = some r := by rw [if_pos rfl] at H; exact H
        clear H
        have H := H1
        clear H1
        obtain rfl := Option.some.inj H
        go_wp2
        go_ret
        exact ⟨by first | rfl | (simp; done) | (simp [*]; done), by repeat (first | exact Drawn0.refl _ | apply Drawn0.step)⟩
      · replace c4 := Bool.eq_false_iff.mpr c4
        subst c4
        have H1 : (if a0 = 8 then (some 98) else (if a0 = 12 then (some 102) else (if a0 = 10 then (some 110) else (if a0 = 13 then (some 114) else (if a0 = 9 then (some 116) else (some 0)))))) = some r := by rw [if_neg (show ¬ (false = true) by decide)] at H; exact H
        clear H
        have H := H1
        clear H1
        by_cases c5 : a0 = 8
        · rw [if_pos c5] at H
          have c5b0 : (a0 == 8) = true := beq_iff_eq.mpr c5
          have c5b1 : (a0 != 8) = false := bne_eq_false_iff_eq.mpr c5
          clear c5
          obtain rfl := Option.some.inj H
          go_wp2
          go_ret
          exact ⟨by first | rfl | (simp; done) | (simp [*]; done), by repeat (first | exact Drawn0.refl _ | apply Drawn0.step)⟩
        · rw [if_neg c5] at H
          have c5b0 : (a0 == 8) = false := beq_eq_false_iff_ne.mpr c5
          have c5b1 : (a0 != 8) = true := bne_iff_ne.mpr c5
          by_cases c6 : a0 = 12
          · rw [if_pos c6] at H
            have c6b0 : (a0 == 12) = true := beq_iff_eq.mpr c6
            have c6b1 : (a0 != 12) = false := bne_eq_false_iff_eq.mpr c6
            clear c6
            obtain rfl := Option.some.inj H
            go_wp2
            go_ret
            exact ⟨by first | rfl | (simp; done) | (simp [*]; done), by repeat (first | exact Drawn0.refl _ | apply Drawn0.step)⟩
          · rw [if_neg c6] at H
            have c6b0 : (a0 == 12) = false := beq_eq_false_iff_ne.mpr c6
            have c6b1 : (a0 != 12) = true := bne_iff_ne.mpr c6
            by_cases c7 : a0 = 10
            · rw [if_pos c7] at H
              have c7b0 : (a0 == 10) = true := beq_iff_eq.mpr c7
              have c7b1 : (a0 != 10) = false := bne_eq_false_iff_eq.mpr c7
              clear c7
              obtain rfl := Option.some.inj H
              go_wp2
              go_ret
              exact ⟨by first | rfl | (simp; done) | (simp [*]; done), by repeat (first | exact Drawn0.refl _ | apply Drawn0.step)⟩
            · rw [if_neg c7] at H
              have c7b0 : (a0 == 10) = false := beq_eq_false_iff_ne.mpr c7
              have c7b1 : (a0 != 10) = true := bne_iff_ne.mpr c7
              by_cases c8 : a0 = 13
              · rw [if_pos c8] at H
                have c8b0 : (a0 == 13) = true := beq_iff_eq.mpr c8
                have c8b1 : (a0 != 13) = false := bne_eq_false_iff_eq.mpr c8
                clear c8
                obtain rfl := Option.some.inj H
                go_wp2
                go_ret
                exact ⟨by first | rfl | (simp; done) | (simp [*]; done), by repeat (first | exact Drawn0.refl _ | apply Drawn0.step)⟩
              · rw [if_neg c8] at H
                have c8b0 : (a0 == 13) = false := beq_eq_false_iff_ne.mpr c8
                have c8b1 : (a0 != 13) = true := bne_iff_ne.mpr c8
                by_cases c9 : a0 = 9
                · rw [if_pos c9] at H
                  have c9b0 : (a0 == 9) = true := beq_iff_eq.mpr c9
                  have c9b1 : (a0 != 9) = false := bne_eq_false_iff_eq.mpr c9
                  clear c9
                  obtain rfl := Option.some.inj H
                  go_wp2
                  go_ret
                  exact ⟨by first | rfl | (simp; done) | (simp [*]; done), by repeat (first | exact Drawn0.refl _ | apply Drawn0.step)⟩
                · rw [if_neg c9] at H
                  have c9b0 : (a0 == 9) = false := beq_eq_false_iff_ne.mpr c9
                  have c9b1 : (a0 != 9) = true := bne_iff_ne.mpr c9
                  obtain rfl := Option.some.inj H
                  go_wp2
                  go_ret
                  exact ⟨by first | rfl | (simp; done) | (simp [*]; done), by repeat (first | exact Drawn0.refl _ | apply Drawn0.step)⟩

/-! ### colophonref08_digit: function 34 -/
def colophonref08_digit.f (a0 : Int) : Option (Int) := if a0 < 10 then (some ((wrap64 (48 + a0)) % 256)) else (some ((wrap64 (87 + a0)) % 256))
set_option maxHeartbeats 8000000 in
set_option maxRecDepth 100000 in
theorem colophonref08_digit.calls (a0 : Int) (r : Int) (w : World) (h : colophonref08_digit.f a0 = some r) :
    Calls Tryd.prog 34 #[.int .i64 a0] w fun e w' => e = .returned (.int .u8 r) ∧ Drawn0 w w' := by
  have H : (if a0 < 10 then (some ((wrap64 (48 + a0)) % 256)) else (some ((wrap64 (87 + a0)) % 256))) = some r := h
  clear h
  by_cases c2 : a0 < 10
  · rw [if_pos c2] at H
    have c2b0 : decide (a0 < 10) = true := decide_eq_true c2
    clear c2
    obtain rfl := Option.some.inj H
    go_enter Tryd.func34, Tryd.ntmps34
    go_wp2
    go_ret
    exact ⟨by first | rfl | (simp; done) | (simp [*]; done), by repeat (first | exact Drawn0.refl _ | apply Drawn0.step)⟩
  · rw [if_neg c2] at H
    have c2b0 : decide (a0 < 10) = false := decide_eq_false c2
    clear c2
    obtain rfl := Option.some.inj H
    go_enter Tryd.func34, Tryd.ntmps34
    go_wp2
    go_ret
    exact ⟨by first | rfl | (simp; done) | (simp [*]; done), by repeat (first | exact Drawn0.refl _ | apply Drawn0.step)⟩

/-! ### colophonref08_Quote: function 11 -/
def colophonref08_Quote.l0 : Nat → List Int → List Int → Int → Option (ByteArray × Int)
  | 0, _, _, _ => none
  | k + 1, x4, x7, x8 => if x8 < (x4.length : Int) then ((colophonref01_Decode.f k x4 x8).bind fun bt322 => ((colophonref08_short.f k bt322.1).bind fun t325 => (if t325 = 0 then (if bt322.1 < 32 then ((colophonref08_digit.f (wrap64 (Int.tdiv bt322.1 16))).bind fun t326 => ((colophonref08_digit.f (Int.tmod bt322.1 16)).bind fun t327 => ((some (([92, 117, 48, 48, t326, t327] : List Int) : List Int)).bind fun y328 => (if x7.length + y328.length < 140737488355328 then (colophonref08_Quote.l0 k x4 (x7 ++ y328) (wrap64 (x8 + bt322.2.1))) else (none))))) else (if 0 ≤ x8 then (if x8 ≤ (wrap64 (x8 + bt322.2.1)) then (if (wrap64 (x8 + bt322.2.1)) ≤ (x4.length : Int) then ((some ((x4.take ((wrap64 (x8 + bt322.2.1)) : Int).toNat).drop (x8 : Int).toNat : List Int)).bind fun y334 => (if x7.length + y334.length < 140737488355328 then (colophonref08_Quote.l0 k x4 (x7 ++ y334) (wrap64 (x8 + bt322.2.1))) else (none))) else (none)) else (none)) else (none))) else ((some (([92, t325] : List Int) : List Int)).bind fun y342 => (if x7.length + y342.length < 140737488355328 then (colophonref08_Quote.l0 k x4 (x7 ++ y342) (wrap64 (x8 + bt322.2.1))) else (none)))))) else (if x7.length < 140737488355328 then (some (strOfNums (x7 ++ [34]), 0)) else (none))
def colophonref08_Quote.f (k : Nat) (a0 : ByteArray) : Option (ByteArray × Int) := (X_bytes.f a0).bind fun t311 => ((colophonref01_Check.f k t311).bind fun bt314 => (if bt314.2 = 0 then (colophonref08_Quote.l0 k t311 (([34] : List Int)) 0) else (some ((⟨#[]⟩ : ByteArray), 10))))
theorem colophonref08_Quote.mono_l : ∀ k, (∀ y0 y1 y2, LeO (colophonref08_Quote.l0 k y0 y1 y2) (colophonref08_Quote.l0 (k + 1) y0 y1 y2))
  | 0 => fun _ _ _ r h => by simp [colophonref08_Quote.l0] at h
  | k + 1 => by
    have ih0 := colophonref08_Quote.mono_l k
    · intro y0 y1 y2
      unfold colophonref08_Quote.l0
      repeat' first
      | (with_reducible exact ih0 _ _ _)
      | (with_reducible exact colophonref01_Check.mono _ _)
      | (with_reducible exact colophonref01_Decode.mono _ _ _)
      | (with_reducible exact colophonref08_short.mono _ _)
      | (with_reducible exact LeO.refl _)
      | (with_reducible exact LeO.none _)
      | (with_reducible refine LeO.ite ?_ ?_)
      | (with_reducible refine LeO.bind ?_ (fun _ => ?_))
      | exact ih0 _ _ _
      | exact colophonref01_Check.mono _ _
      | exact colophonref01_Decode.mono _ _ _
      | exact colophonref08_short.mono _ _
      | exact LeO.none _
      | refine LeO.ite ?_ ?_
      | refine LeO.bind ?_ (fun _ => ?_)
theorem colophonref08_Quote.mono : ∀ a0 k, LeO (colophonref08_Quote.f k a0) (colophonref08_Quote.f (k + 1) a0) := by
  intro a0 k
  have ih0 := colophonref08_Quote.mono_l k
  unfold colophonref08_Quote.f
  repeat' first
      | (with_reducible exact ih0 _ _ _)
      | (with_reducible exact colophonref01_Check.mono _ _)
      | (with_reducible exact colophonref01_Decode.mono _ _ _)
      | (with_reducible exact colophonref08_short.mono _ _)
      | (with_reducible exact LeO.refl _)
      | (with_reducible exact LeO.none _)
      | (with_reducible refine LeO.ite ?_ ?_)
      | (with_reducible refine LeO.bind ?_ (fun _ => ?_))
      | exact ih0 _ _ _
      | exact colophonref01_Check.mono _ _
      | exact colophonref01_Decode.mono _ _ _
      | exact colophonref08_short.mono _ _
      | exact LeO.none _
      | refine LeO.ite ?_ ?_
      | refine LeO.bind ?_ (fun _ => ?_)
set_option maxHeartbeats 8000000 in
set_option maxRecDepth 100000 in
theorem colophonref08_Quote.calls (k : Nat) (a0 : ByteArray) (r1 : ByteArray) (r2 : Int) (w : World) (h : colophonref08_Quote.f k a0 = some (r1, r2)) :
    Calls Tryd.prog 11 #[.string a0] w fun e w' => e = .returned (.tuple #[.string r1, .int .i64 r2]) ∧ Below w.heap.size w w' := by
  have HB := Aside0.mk (Below.refl w.heap.size w)
  have H : ((X_bytes.f a0).bind fun t311 => ((colophonref01_Check.f k t311).bind fun bt314 => (if bt314.2 = 0 then (colophonref08_Quote.l0 k t311 (([34] : List Int)) 0) else (some ((⟨#[]⟩ : ByteArray), 10))))) = some (r1, r2) := h
  clear h
  replace H := Option.bind_eq_some_iff.mp H
  obtain ⟨t311, A20, H⟩ := H
  replace H : ((colophonref01_Check.f k t311).bind fun bt314 => (if bt314.2 = 0 then (colophonref08_Quote.l0 k t311 (([34] : List Int)) 0) else (some ((⟨#[]⟩ : ByteArray), 10)))) = some (r1, r2) := H
  have A2 := Aside0.mk A20
  clear A20
  replace H := Option.bind_eq_some_iff.mp H
  obtain ⟨⟨t314, t315⟩, A30, H⟩ := H
  replace H : (if t315 = 0 then (colophonref08_Quote.l0 k t311 (([34] : List Int)) 0) else (some ((⟨#[]⟩ : ByteArray), 10))) = some (r1, r2) := H
  have A3 := Aside0.mk A30
  clear A30
  by_cases c4 : t315 = 0
  · rw [if_pos c4] at H
    have c4b0 : (t315 == 0) = true := beq_iff_eq.mpr c4
    have c4b1 : (t315 != 0) = false := bne_eq_false_iff_eq.mpr c4
    clear c4
    obtain ⟨y316, hy316⟩ : ∃ y_ : List Int, y_ = (([34] : List Int)) := ⟨_, rfl⟩
    replace H : (colophonref08_Quote.l0 k t311 y316 0) = some (r1, r2) := by first | (rw [hy316]; with_reducible exact H) | (have H2_ := (Option.bind_some _ _).symm.trans H; rw [hy316]; with_reducible exact H2_) | (have H2_ := (Option.bind_some _ _).symm.trans H; with_reducible exact H2_) | with_reducible exact H | (rw [hy316]; exact H) | exact H
    have Ny316 := Aside0.mk hy316
    clear hy316
    have H' := Aside0.mk H
    clear H
    go_enter Tryd.func11, Tryd.ntmps11
    go_wp2_with (first | ((with_reducible refine gate_dst (N := 14) rfl ?_); refine conv_run rfl (.tmp 13) 9 27 5 rfl Tryd.underlying9 Tryd.underlying27 Tryd.underlying5 a0 rfl A2.out ?_; intro v312 w5 ho0 hb; have n0_ := Aside0.mk (Kd.V_lower (Kd.V_mono (ok' := fun k_ => True) ho0 (fun k_ hk_ => trivial)) (below_size (by repeat (first | (with_reducible first | exact HB.out | apply below_alloc | apply pw_below_drewN | apply below_drew1) | exact HB.out)))); have n1_ := Aside0.mk (below_step (by repeat (first | (with_reducible first | exact HB.out | apply below_alloc | apply pw_below_drewN | apply below_drew1) | exact HB.out)) hb); clear HB; have HO313 := n0_; have HB := n1_; clear n0_ n1_; (try clear hb); (try clear hb2); (try clear hk); (try clear hi); (try clear ho0); obtain ⟨Ao6, co6, eo6⟩ := Kd.V_slice HO313.out; subst eo6) | ((with_reducible refine gate_callee (f := 19) rfl ?_); refine goesL_ (some 17) rfl rfl Tryd.func19 (by kernel_rfl) rfl #[.slice Ao6 t311.length co6] rfl (by (try simp only [List.map_toArray, List.map_cons, List.map_nil]); first | done | rfl | (simp only [List.length_drop, List.length_take]; rfl)) ?_; (with_reducible refine (colophonref01_Check.calls k _ _ t311 t314 t315 _ ?side1 ?side2 A3.out).mono ?_); (case side1 => repeat (first | exact (Kd.V_reads' HO313.out).2.2 | (with_reducible refine Kd.C_alloc ?_ _) | (with_reducible refine Kd.C_drewN ?_ _) | (with_reducible refine Kd.C_drew ?_))); (case side2 => exact (Kd.V_reads' HO313.out).2.1); rintro e w7 ⟨rfl, hb⟩; refine ⟨_, rfl, ?_⟩; have n0_ := Aside0.mk (Kd.V_below (by (with_reducible repeat (first | apply Kd.V_alloc | apply Kd.V_drewN | apply Kd.V_drew)); exact HO313.out) hb); have n1_ := Aside0.mk (below_step (by repeat (first | (with_reducible first | exact HB.out | apply below_alloc | apply pw_below_drewN | apply below_drew1) | exact HB.out)) hb); clear HO313; clear HB; have HO313 := n0_; have HB := n1_; clear n0_ n1_; (try clear hb); (try clear hb2); (try clear hk); (try clear hi)) | ((with_reducible refine gate_dst (N := 22) rfl ?_); refine Kd.R_lit (Kd.int .u8) _ 5 ?hg (N := 22) ?hd (xs := ([34] : List Int)) (inner := [.int .u8 34]) (ok := fun _ => True) (okp := fun _ => True) ?hr ?hp (fun _ hk => hk) trivial (Below.refl _ _) (Nat.le_refl _) (by simp) ?_; (case hd => rfl); (case hg => rfl); (case hr => first | (go_simp; done) | (go_simp; rfl)); (case hp => exact (Reps.one (show Kd.M (Kd.int .u8) _ _ _ 34 [.int .u8 34] from rfl) (Reps.none _ _))); intro v317 w8 ho9 hb hg_ hnew_; clear hg_ hnew_; (first | rw [← Ny316.out] at ho9 | (simp only [Int.reduceToNat] at ho9; rw [← Ny316.out] at ho9)); have n0_ := Aside0.mk (Kd.V_elder' (by (with_reducible repeat (first | apply Kd.V_alloc | apply Kd.V_drewN | apply Kd.V_drew)); exact HO313.out) (Kd.R_base ho9) hb); have n1_ := Aside0.mk (Kd.R_lower ho9 (below_size (by repeat (first | (with_reducible first | exact HB.out | apply below_alloc | apply pw_below_drewN | apply below_drew1) | exact HB.out)))); have n2_ := Aside0.mk (below_step (by repeat (first | (with_reducible first | exact HB.out | apply below_alloc | apply pw_below_drewN | apply below_drew1) | exact HB.out)) hb); clear HO313; clear HB; have HO313 := n0_; have HO318 := n1_; have HB := n2_; clear n0_ n1_ n2_; clear hb ho9))
    go_loopg [7, 8] k (fun kq v7 v8 w' => ∃ (x7_1 : List Int) (x8_1 : Int), v8 = .int .i64 x8_1 ∧ Aside0 (colophonref08_Quote.l0 kq t311 x7_1 x8_1 = some (r1, r2)) ∧ Aside0 (kq ≤ k) ∧ Aside0 (Kd.V (Kd.int .u8) 5 w' w.heap.size (fun k_ => some k_ ≠ (v7 : Value).ownBlock) (.slice Ao6 t311.length co6) t311) ∧ Aside0 (Kd.R (Kd.int .u8) 5 w' w.heap.size (fun _ => True) v7 x7_1) ∧ Aside0 (Below w.heap.size w w'))
    case atStart => exact ⟨(y316), (0), (by first | rfl | (simp; done) | (simp [*]; done)), H', ⟨Nat.le_refl _⟩, ⟨by (with_reducible repeat (first | apply Kd.V_alloc | apply Kd.V_drewN | apply Kd.V_drew)); exact Kd.V_mono HO313.out (fun _ hk => hk.2)⟩, ⟨by (with_reducible repeat (first | apply Kd.R_alloc | apply Kd.R_drewN | apply Kd.R_drew)); exact HO318.out⟩, ⟨by repeat (first | (with_reducible first | exact HB.out | apply below_alloc | apply pw_below_drewN | apply below_drew1) | exact HB.out)⟩⟩
    case round =>
      clear H'
      try clear c1
      try clear p2
      try clear c4
      try clear c4b0
      try clear c4b1
      obtain ⟨x7_1, x8_1, rfl, HA, HK1, HO_4, HO_7, HB⟩ := hrel
      cases gk with
      | zero => exact absurd HA.out (by simp [colophonref08_Quote.l0])
      | succ k1 =>
        have H := HA.out
        clear HA
        simp only [colophonref08_Quote.l0] at H
        by_cases c10 : x8_1 < (t311.length : Int)
        · rw [if_pos c10] at H
          have c10b0 : decide (x8_1 < (t311.length : Int)) = true := decide_eq_true c10
          clear c10
          replace H := Option.bind_eq_some_iff.mp H
          obtain ⟨⟨t322, t323, t324⟩, A110, H⟩ := H
          replace H : ((colophonref08_short.f k1 t322).bind fun t325 => (if t325 = 0 then (if t322 < 32 then ((colophonref08_digit.f (wrap64 (Int.tdiv t322 16))).bind fun t326 => ((colophonref08_digit.f (Int.tmod t322 16)).bind fun t327 => ((some (([92, 117, 48, 48, t326, t327] : List Int) : List Int)).bind fun y328 => (if x7_1.length + y328.length < 140737488355328 then (colophonref08_Quote.l0 k1 t311 (x7_1 ++ y328) (wrap64 (x8_1 + t323))) else (none))))) else (if 0 ≤ x8_1 then (if x8_1 ≤ (wrap64 (x8_1 + t323)) then (if (wrap64 (x8_1 + t323)) ≤ (t311.length : Int) then ((some ((t311.take ((wrap64 (x8_1 + t323)) : Int).toNat).drop (x8_1 : Int).toNat : List Int)).bind fun y334 => (if x7_1.length + y334.length < 140737488355328 then (colophonref08_Quote.l0 k1 t311 (x7_1 ++ y334) (wrap64 (x8_1 + t323))) else (none))) else (none)) else (none)) else (none))) else ((some (([92, t325] : List Int) : List Int)).bind fun y342 => (if x7_1.length + y342.length < 140737488355328 then (colophonref08_Quote.l0 k1 t311 (x7_1 ++ y342) (wrap64 (x8_1 + t323))) else (none))))) = some (r1, r2) := H
          have A11 := Aside0.mk A110
          clear A110
          replace H := Option.bind_eq_some_iff.mp H
          obtain ⟨t325, A120, H⟩ := H
          replace H : (if t325 = 0 then (if t322 < 32 then ((colophonref08_digit.f (wrap64 (Int.tdiv t322 16))).bind fun t326 => ((colophonref08_digit.f (Int.tmod t322 16)).bind fun t327 => ((some (([92, 117, 48, 48, t326, t327] : List Int) : List Int)).bind fun y328 => (if x7_1.length + y328.length < 140737488355328 then (colophonref08_Quote.l0 k1 t311 (x7_1 ++ y328) (wrap64 (x8_1 + t323))) else (none))))) else (if 0 ≤ x8_1 then (if x8_1 ≤ (wrap64 (x8_1 + t323)) then (if (wrap64 (x8_1 + t323)) ≤ (t311.length : Int) then ((some ((t311.take ((wrap64 (x8_1 + t323)) : Int).toNat).drop (x8_1 : Int).toNat : List Int)).bind fun y334 => (if x7_1.length + y334.length < 140737488355328 then (colophonref08_Quote.l0 k1 t311 (x7_1 ++ y334) (wrap64 (x8_1 + t323))) else (none))) else (none)) else (none)) else (none))) else ((some (([92, t325] : List Int) : List Int)).bind fun y342 => (if x7_1.length + y342.length < 140737488355328 then (colophonref08_Quote.l0 k1 t311 (x7_1 ++ y342) (wrap64 (x8_1 + t323))) else (none)))) = some (r1, r2) := H
          have A12 := Aside0.mk A120
          clear A120
          by_cases c13 : t325 = 0
          · rw [if_pos c13] at H
            have c13b0 : (t325 == 0) = true := beq_iff_eq.mpr c13
            have c13b1 : (t325 != 0) = false := bne_eq_false_iff_eq.mpr c13
            clear c13
            by_cases c14 : t322 < 32
            · rw [if_pos c14] at H
              have c14b0 : decide (t322 < 32) = true := decide_eq_true c14
              clear c14
              replace H := Option.bind_eq_some_iff.mp H
              obtain ⟨t326, A150, H⟩ := H
              replace H : ((colophonref08_digit.f (Int.tmod t322 16)).bind fun t327 => ((some (([92, 117, 48, 48, t326, t327] : List Int) : List Int)).bind fun y328 => (if x7_1.length + y328.length < 140737488355328 then (colophonref08_Quote.l0 k1 t311 (x7_1 ++ y328) (wrap64 (x8_1 + t323))) else (none)))) = some (r1, r2) := H
              have A15 := Aside0.mk A150
              clear A150
              replace H := Option.bind_eq_some_iff.mp H
              obtain ⟨t327, A160, H⟩ := H
              replace H : ((some (([92, 117, 48, 48, t326, t327] : List Int) : List Int)).bind fun y328 => (if x7_1.length + y328.length < 140737488355328 then (colophonref08_Quote.l0 k1 t311 (x7_1 ++ y328) (wrap64 (x8_1 + t323))) else (none))) = some (r1, r2) := H
              have A16 := Aside0.mk A160
              clear A160
              obtain ⟨y328, hy328⟩ : ∃ y_ : List Int, y_ = (([92, 117, 48, 48, t326, t327] : List Int)) := ⟨_, rfl⟩
              replace H : (if x7_1.length + y328.length < 140737488355328 then (colophonref08_Quote.l0 k1 t311 (x7_1 ++ y328) (wrap64 (x8_1 + t323))) else (none)) = some (r1, r2) := by first | (rw [hy328]; with_reducible exact H) | (have H2_ := (Option.bind_some _ _).symm.trans H; rw [hy328]; with_reducible exact H2_) | (have H2_ := (Option.bind_some _ _).symm.trans H; with_reducible exact H2_) | with_reducible exact H | (rw [hy328]; exact H) | exact H
              have Ny328 := Aside0.mk hy328
              clear hy328
              by_cases c17 : x7_1.length + y328.length < 140737488355328
              · rw [if_pos c17] at H
                have LMc17 := Aside0.mk c17
                clear c17
                obtain ⟨y331, hy331⟩ : ∃ y_ : List Int, y_ = (x7_1 ++ y328) := ⟨_, rfl⟩
                replace H : (colophonref08_Quote.l0 k1 t311 y331 (wrap64 (x8_1 + t323))) = some (r1, r2) := by first | (rw [hy331]; with_reducible exact H) | (have H2_ := (Option.bind_some _ _).symm.trans H; rw [hy331]; with_reducible exact H2_) | (have H2_ := (Option.bind_some _ _).symm.trans H; with_reducible exact H2_) | with_reducible exact H | (rw [hy331]; exact H) | exact H
                have Ny331 := Aside0.mk hy331
                clear hy331
                have H' := Aside0.mk H
                clear H
                go_wp2_with (first | ((with_reducible refine gate_callee (f := 32) rfl ?_); refine goesL_ (some 30) rfl rfl Tryd.func32 (by kernel_rfl) rfl #[.slice Ao6 t311.length co6, .int .i64 x8_1] rfl (by (try simp only [List.map_toArray, List.map_cons, List.map_nil]); first | done | rfl | (simp only [List.length_drop, List.length_take]; rfl)) ?_; (with_reducible refine (colophonref01_Decode.calls k1 _ _ t311 x8_1 t322 t323 t324 _ ?side1 ?side2 A11.out).mono ?_); (case side1 => repeat (first | exact (Kd.V_reads' HO_4.out).2.2 | (with_reducible refine Kd.C_alloc ?_ _) | (with_reducible refine Kd.C_drewN ?_ _) | (with_reducible refine Kd.C_drew ?_))); (case side2 => exact (Kd.V_reads' HO_4.out).2.1); rintro e w18 ⟨rfl, hb⟩; refine ⟨_, rfl, ?_⟩; have n0_ := Aside0.mk (Kd.V_below (by (with_reducible repeat (first | apply Kd.V_alloc | apply Kd.V_drewN | apply Kd.V_drew)); exact HO_4.out) hb); have n1_ := Aside0.mk (Kd.R_below (by (with_reducible repeat (first | apply Kd.R_alloc | apply Kd.R_drewN | apply Kd.R_drew)); exact HO_7.out) hb); have n2_ := Aside0.mk (below_step (by repeat (first | (with_reducible first | exact HB.out | apply below_alloc | apply pw_below_drewN | apply below_drew1) | exact HB.out)) hb); clear HO_4; clear HO_7; clear HB; have HO_4 := n0_; have HO_7 := n1_; have HB := n2_; clear n0_ n1_ n2_; (try clear hb); (try clear hb2); (try clear hk); (try clear hi)) | ((with_reducible refine gate_callee (f := 33) rfl ?_); refine goesL_ (some 35) rfl rfl Tryd.func33 (by kernel_rfl) rfl #[.int .i64 t322] rfl (by (try simp only [List.map_toArray, List.map_cons, List.map_nil]); first | done | rfl | (simp only [List.length_drop, List.length_take]; rfl)) ?_; (with_reducible refine (colophonref08_short.calls k1 t322 t325 _ A12.out).mono ?_); rintro e w' ⟨rfl, ⟨nd, rfl⟩⟩; refine ⟨_, rfl, ?_⟩) | ((with_reducible refine gate_callee (f := 34) rfl ?_); refine goesL_ (some 47) rfl rfl Tryd.func34 (by kernel_rfl) rfl #[.int .i64 (wrap64 (Int.tdiv t322 16))] rfl (by (try simp only [List.map_toArray, List.map_cons, List.map_nil]); first | done | rfl | (simp only [List.length_drop, List.length_take]; rfl)) ?_; (with_reducible refine (colophonref08_digit.calls (wrap64 (Int.tdiv t322 16)) t326 _ A15.out).mono ?_); rintro e w' ⟨rfl, ⟨nd, rfl⟩⟩; refine ⟨_, rfl, ?_⟩) | ((with_reducible refine gate_callee (f := 34) rfl ?_); refine goesL_ (some 50) rfl rfl Tryd.func34 (by kernel_rfl) rfl #[.int .i64 (Int.tmod t322 16)] rfl (by (try simp only [List.map_toArray, List.map_cons, List.map_nil]); first | done | rfl | (simp only [List.length_drop, List.length_take]; rfl)) ?_; (with_reducible refine (colophonref08_digit.calls (Int.tmod t322 16) t327 _ A16.out).mono ?_); rintro e w' ⟨rfl, ⟨nd, rfl⟩⟩; refine ⟨_, rfl, ?_⟩) | ((with_reducible refine gate_dst (N := 51) rfl ?_); refine Kd.R_lit (Kd.int .u8) _ 5 ?hg (N := 51) ?hd (xs := ([92, 117, 48, 48, t326, t327] : List Int)) (inner := [.int .u8 92, .int .u8 117, .int .u8 48, .int .u8 48, .int .u8 t326, .int .u8 t327]) (ok := fun _ => True) (okp := fun _ => True) ?hr ?hp (fun _ hk => hk) trivial (Below.refl _ _) (Nat.le_refl _) (by simp) ?_; (case hd => rfl); (case hg => rfl); (case hr => first | (go_simp; done) | (go_simp; rfl)); (case hp => exact (Reps.one (show Kd.M (Kd.int .u8) _ _ _ 92 [.int .u8 92] from rfl) (Reps.one (show Kd.M (Kd.int .u8) _ _ _ 117 [.int .u8 117] from rfl) (Reps.one (show Kd.M (Kd.int .u8) _ _ _ 48 [.int .u8 48] from rfl) (Reps.one (show Kd.M (Kd.int .u8) _ _ _ 48 [.int .u8 48] from rfl) (Reps.one (show Kd.M (Kd.int .u8) _ _ _ t326 [.int .u8 t326] from rfl) (Reps.one (show Kd.M (Kd.int .u8) _ _ _ t327 [.int .u8 t327] from rfl) (Reps.none _ _)))))))); intro v329 w19 ho20 hb hg_ hnew_; clear hg_ hnew_; (first | rw [← Ny328.out] at ho20 | (simp only [Int.reduceToNat] at ho20; rw [← Ny328.out] at ho20)); have n0_ := Aside0.mk (Kd.V_elder' (by (with_reducible repeat (first | apply Kd.V_alloc | apply Kd.V_drewN | apply Kd.V_drew)); exact HO_4.out) (Kd.R_base ho20) hb); have n1_ := Aside0.mk (Kd.R_elder' (by (with_reducible repeat (first | apply Kd.R_alloc | apply Kd.R_drewN | apply Kd.R_drew)); exact HO_7.out) (Kd.R_base ho20) hb); have n2_ := Aside0.mk (Kd.R_lower (Kd.R_new' ho20 (Kd.R_lt (by (with_reducible repeat (first | apply Kd.R_alloc | apply Kd.R_drewN | apply Kd.R_drew)); exact HO_7.out))) (below_size (by repeat (first | (with_reducible first | exact HB.out | apply below_alloc | apply pw_below_drewN | apply below_drew1) | exact HB.out)))); have n3_ := Aside0.mk (below_step (by repeat (first | (with_reducible first | exact HB.out | apply below_alloc | apply pw_below_drewN | apply below_drew1) | exact HB.out)) hb); clear HO_4; clear HO_7; clear HB; have HO_4 := n0_; have HO_7 := n1_; have HO330 := n2_; have HB := n3_; clear n0_ n1_ n2_ n3_; clear hb ho20; obtain ⟨Ao22, co22, eo22⟩ := Kd.R_slice HO330.out; subst eo22) | ((with_reducible refine gate_builtin (b := .append) (xs := #[.tmp 44, .tmp 51]) rfl ?_); at_builtin; refine Kd.R_append_rows (Kd.int .u8) (w0 := w) w.heap.size rfl (.tmp 44) (.tmp 51) 27 5 (.int .u8 0) 1 rfl Tryd.underlying27 info5 rfl (by decide) (by omega) u7 x7_1 y328 _ _ _ (fun k_ => some k_ ≠ (.slice Ao22 y328.length co22 : Value).ownBlock) (fun _ => False) rfl rfl ?aO ?aR (fun _ _ h => h) (fun _ h => h.elim) ?aF ?aB ?aS ?aL ?_; (case aR => repeat (first | exact (Kd.R_reads' HO330.out).2.2 | (with_reducible refine Kd.C_alloc ?_ _) | (with_reducible refine Kd.C_drewN ?_ _) | (with_reducible refine Kd.C_drew ?_))); (case aB => exact (by repeat (first | (with_reducible first | exact HB.out | apply below_alloc | apply pw_below_drewN | apply below_drew1) | exact HB.out))); (case aF => exact (fun k_ hk => Kd.fresh' (Kd.R_lt (by (with_reducible repeat (first | apply Kd.R_alloc | apply Kd.R_drewN | apply Kd.R_drew)); exact HO330.out)) k_ hk)); (case aO => exact (by (with_reducible repeat (first | apply Kd.R_alloc | apply Kd.R_drewN | apply Kd.R_drew)); exact Kd.R_mono HO_7.out (fun _ hk => hk.2))); (case aS => exact (below_size (by repeat (first | (with_reducible first | exact HB.out | apply below_alloc | apply pw_below_drewN | apply below_drew1) | exact HB.out)))); (case aL => have := LMc17.out; omega); intro v332 w21 ho hb hg hat; rw [← Ny331.out] at ho; have n0_ := Aside0.mk (Kd.V_afterv (ok := (fun k_ => some k_ ≠ (.slice Ao22 y328.length co22 : Value).ownBlock)) (by (with_reducible repeat (first | apply Kd.V_alloc | apply Kd.V_drewN | apply Kd.V_drew)); exact Kd.V_mono HO_4.out (fun _ hk => ⟨hk.2, hk.1⟩)) hg hat); have n1_ := Aside0.mk (Kd.R_after (ok := (fun _ => True)) (by (with_reducible repeat (first | apply Kd.R_alloc | apply Kd.R_drewN | apply Kd.R_drew)); exact HO330.out) hg hat); have n2_ := Aside0.mk (hb); have n3_ := Aside0.mk (ho); clear HO_4; clear HO330; clear HB; clear HO_7; have HO_4 := n0_; have HO330 := n1_; have HB := n2_; have HO333 := n3_; clear n0_ n1_ n2_ n3_; clear ho hb hg hat))
                go_roundg k1
                case measure => have := HK1.out; omega
                case rel => exact ⟨(y331), (wrap64 (x8_1 + t323)), (by first | rfl | (simp; done) | (simp [*]; done)), H', ⟨by have := HK1.out; omega⟩, ⟨by (with_reducible repeat (first | apply Kd.V_alloc | apply Kd.V_drewN | apply Kd.V_drew)); exact Kd.V_mono HO_4.out (fun _ hk => hk.2)⟩, ⟨by (with_reducible repeat (first | apply Kd.R_alloc | apply Kd.R_drewN | apply Kd.R_drew)); exact Kd.R_mono HO333.out (fun _ hk => trivial)⟩, ⟨by repeat (first | (with_reducible first | exact HB.out | apply below_alloc | apply pw_below_drewN | apply below_drew1) | exact HB.out)⟩⟩
              · rw [if_neg c17] at H
                exact absurd H (by simp)
            · rw [if_neg c14] at H
              have c14b0 : decide (t322 < 32) = false := decide_eq_false c14
              clear c14
              by_cases c23 : 0 ≤ x8_1
              · rw [if_pos c23] at H
                have c23b0 := eq_true c23
                have c23b1 : decide (0 ≤ x8_1) = true := decide_eq_true c23
                clear c23
                by_cases c24 : x8_1 ≤ (wrap64 (x8_1 + t323))
                · rw [if_pos c24] at H
                  have c24b0 := eq_true c24
                  have c24b1 : decide (x8_1 ≤ (wrap64 (x8_1 + t323))) = true := decide_eq_true c24
                  by_cases c25 : (wrap64 (x8_1 + t323)) ≤ (t311.length : Int)
                  · rw [if_pos c25] at H
                    have c25b0 := eq_true c25
                    have c25b1 : decide ((wrap64 (x8_1 + t323)) ≤ (t311.length : Int)) = true := decide_eq_true c25
                    obtain ⟨y334, hy334⟩ : ∃ y_ : List Int, y_ = ((t311.take ((wrap64 (x8_1 + t323)) : Int).toNat).drop (x8_1 : Int).toNat) := ⟨_, rfl⟩
                    replace H : (if x7_1.length + y334.length < 140737488355328 then (colophonref08_Quote.l0 k1 t311 (x7_1 ++ y334) (wrap64 (x8_1 + t323))) else (none)) = some (r1, r2) := by first | (rw [hy334]; with_reducible exact H) | (have H2_ := (Option.bind_some _ _).symm.trans H; rw [hy334]; with_reducible exact H2_) | (have H2_ := (Option.bind_some _ _).symm.trans H; with_reducible exact H2_) | with_reducible exact H | (rw [hy334]; exact H) | exact H
                    have Ny334 := Aside0.mk hy334
                    clear hy334
                    by_cases c26 : x7_1.length + y334.length < 140737488355328
                    · rw [if_pos c26] at H
                      have LMc26 := Aside0.mk c26
                      clear c26
                      obtain ⟨y339, hy339⟩ : ∃ y_ : List Int, y_ = (x7_1 ++ y334) := ⟨_, rfl⟩
                      replace H : (colophonref08_Quote.l0 k1 t311 y339 (wrap64 (x8_1 + t323))) = some (r1, r2) := by first | (rw [hy339]; with_reducible exact H) | (have H2_ := (Option.bind_some _ _).symm.trans H; rw [hy339]; with_reducible exact H2_) | (have H2_ := (Option.bind_some _ _).symm.trans H; with_reducible exact H2_) | with_reducible exact H | (rw [hy339]; exact H) | exact H
                      have Ny339 := Aside0.mk hy339
                      clear hy339
                      have H' := Aside0.mk H
                      clear H
                      go_wp2_with (first | ((with_reducible refine gate_callee (f := 32) rfl ?_); refine goesL_ (some 30) rfl rfl Tryd.func32 (by kernel_rfl) rfl #[.slice Ao6 t311.length co6, .int .i64 x8_1] rfl (by (try simp only [List.map_toArray, List.map_cons, List.map_nil]); first | done | rfl | (simp only [List.length_drop, List.length_take]; rfl)) ?_; (with_reducible refine (colophonref01_Decode.calls k1 _ _ t311 x8_1 t322 t323 t324 _ ?side1 ?side2 A11.out).mono ?_); (case side1 => repeat (first | exact (Kd.V_reads' HO_4.out).2.2 | (with_reducible refine Kd.C_alloc ?_ _) | (with_reducible refine Kd.C_drewN ?_ _) | (with_reducible refine Kd.C_drew ?_))); (case side2 => exact (Kd.V_reads' HO_4.out).2.1); rintro e w27 ⟨rfl, hb⟩; refine ⟨_, rfl, ?_⟩; have n0_ := Aside0.mk (Kd.V_below (by (with_reducible repeat (first | apply Kd.V_alloc | apply Kd.V_drewN | apply Kd.V_drew)); exact HO_4.out) hb); have n1_ := Aside0.mk (Kd.R_below (by (with_reducible repeat (first | apply Kd.R_alloc | apply Kd.R_drewN | apply Kd.R_drew)); exact HO_7.out) hb); have n2_ := Aside0.mk (below_step (by repeat (first | (with_reducible first | exact HB.out | apply below_alloc | apply pw_below_drewN | apply below_drew1) | exact HB.out)) hb); clear HO_4; clear HO_7; clear HB; have HO_4 := n0_; have HO_7 := n1_; have HB := n2_; clear n0_ n1_ n2_; (try clear hb); (try clear hb2); (try clear hk); (try clear hi)) | ((with_reducible refine gate_callee (f := 33) rfl ?_); refine goesL_ (some 35) rfl rfl Tryd.func33 (by kernel_rfl) rfl #[.int .i64 t322] rfl (by (try simp only [List.map_toArray, List.map_cons, List.map_nil]); first | done | rfl | (simp only [List.length_drop, List.length_take]; rfl)) ?_; (with_reducible refine (colophonref08_short.calls k1 t322 t325 _ A12.out).mono ?_); rintro e w' ⟨rfl, ⟨nd, rfl⟩⟩; refine ⟨_, rfl, ?_⟩; have q28 : ((wrap64 (x8_1 + t323)) : Int) ≤ ((t311.length : Int) : Int) := of_decide_eq_true (by first | (with_reducible assumption) | assumption); obtain ⟨i028, hi028, _, hsz28, _⟩ := info_parts info5; have hroom28 : t311.length ≤ co6 := (Kd.V_reads' HO_4.out).2.1; have hC28 : Kd.F (Kd.int .u8) _ _ Ao6 t311.length t311 := (Kd.V_at (base := w.heap.size) HO_4.out).2.2; have ql28 : (x8_1 : Int) ≤ ((wrap64 (x8_1 + t323)) : Int) := of_decide_eq_true (by first | (with_reducible assumption) | assumption); have q028 : (0 : Int) ≤ (x8_1 : Int) := of_decide_eq_true (by first | (with_reducible assumption) | assumption); have hcut28 := cut_mid (P := Tryd.prog) 27 5 .i64 .i64 Tryd.underlying27 hi028 1 hsz28 Ao6 t311.length co6 x8_1 (wrap64 (x8_1 + t323)) q028 ql28 q28 hroom28; have hr28 := Kd.F_mid (lo := (x8_1 : Int).toNat) (hi := ((wrap64 (x8_1 + t323)) : Int).toNat) (c := co6) hC28 (by omega) (by omega) hroom28; obtain ⟨A28, hA28⟩ : ∃ A1, A1 = (if co6 = (x8_1 : Int).toNat then Ao6 else (Ao6 : Option Addr).map (·.add ((x8_1 : Int).toNat * 1))) := ⟨_, rfl⟩; obtain ⟨c28, hc28⟩ : ∃ c1, c1 = co6 - (x8_1 : Int).toNat := ⟨_, rfl⟩; have hy28 : y334.length = ((wrap64 (x8_1 + t323)) : Int).toNat - (x8_1 : Int).toNat := (by rw [Ny334.out, List.length_drop, List.length_take] <;> omega); rw [show ((t311).take ((wrap64 (x8_1 + t323)) : Int).toNat).drop (x8_1 : Int).toNat = y334 from Ny334.out.symm] at hr28; replace hr28 : Kd.F (Kd.int .u8) _ _ A28 y334.length y334 := (by rw [hA28]; exact hr28); rw [← hy28, ← hA28, ← hc28] at hcut28; have HO338 := Aside0.mk (show Kd.V (Kd.int .u8) 5 _ w.heap.size _ (.slice A28 y334.length c28) y334 from Kd.V_mk (by rw [hy28, hc28]; exact Nat.sub_le_sub_right (Nat.le_trans (by omega) hroom28) _) hr28); have HC338 := Aside0.mk (show y334.length ≤ c28 from by rw [hy28, hc28]; exact Nat.sub_le_sub_right (Nat.le_trans (by omega) hroom28) _); clear hr28 hC28 hroom28 hi028 hsz28 hc28; have KY28 := Aside0.mk hy28; have KA28 := Aside0.mk hA28; clear hy28 hA28; replace q28 := eq_true q28) | ((with_reducible refine gate_builtin (b := .append) (xs := #[.tmp 53, .tmp 59]) rfl ?_); at_builtin; refine Kd.R_append_rows (Kd.int .u8) (w0 := w) w.heap.size rfl (.tmp 53) (.tmp 59) 27 5 (.int .u8 0) 1 rfl Tryd.underlying27 info5 rfl (by decide) (by omega) u7 x7_1 y334 _ _ _ (fun _ => True) (fun _ => False) rfl rfl ?aO ?aR (fun _ _ h => h) (fun _ h => h.elim) ?aF ?aB ?aS ?aL ?_; (case aR => repeat (first | exact (Kd.V_reads' HO338.out).2.2 | (with_reducible refine Kd.C_alloc ?_ _) | (with_reducible refine Kd.C_drewN ?_ _) | (with_reducible refine Kd.C_drew ?_))); (case aB => exact (by repeat (first | (with_reducible first | exact HB.out | apply below_alloc | apply pw_below_drewN | apply below_drew1) | exact HB.out))); (case aF => exact (fun _ _ => trivial)); (case aO => exact (by (with_reducible repeat (first | apply Kd.R_alloc | apply Kd.R_drewN | apply Kd.R_drew)); exact HO_7.out)); (case aS => exact (below_size (by repeat (first | (with_reducible first | exact HB.out | apply below_alloc | apply pw_below_drewN | apply below_drew1) | exact HB.out)))); (case aL => have := LMc26.out; omega); intro v340 w29 ho hb hg hat; rw [← Ny339.out] at ho; have n0_ := Aside0.mk (Kd.V_afterv (ok := (fun _ => True)) (by (with_reducible repeat (first | apply Kd.V_alloc | apply Kd.V_drewN | apply Kd.V_drew)); exact Kd.V_mono HO_4.out (fun _ hk => ⟨trivial, hk⟩)) hg hat); have n1_ := Aside0.mk (Kd.V_afterv (ok := (fun _ => True)) (by (with_reducible repeat (first | apply Kd.V_alloc | apply Kd.V_drewN | apply Kd.V_drew)); exact Kd.V_mono HO338.out (fun _ hk => ⟨trivial, hk⟩)) hg hat); have n2_ := Aside0.mk (hb); have n3_ := Aside0.mk (ho); clear HO_4; clear HO338; clear HB; clear HO_7; have HO_4 := n0_; have HO338 := n1_; have HB := n2_; have HO341 := n3_; clear n0_ n1_ n2_ n3_; clear ho hb hg hat))
                      go_roundg k1
                      case measure => have := HK1.out; omega
                      case rel => exact ⟨(y339), (wrap64 (x8_1 + t323)), (by first | rfl | (simp; done) | (simp [*]; done)), H', ⟨by have := HK1.out; omega⟩, ⟨by (with_reducible repeat (first | apply Kd.V_alloc | apply Kd.V_drewN | apply Kd.V_drew)); exact Kd.V_mono HO_4.out (fun _ hk => hk.2)⟩, ⟨by (with_reducible repeat (first | apply Kd.R_alloc | apply Kd.R_drewN | apply Kd.R_drew)); exact HO341.out⟩, ⟨by repeat (first | (with_reducible first | exact HB.out | apply below_alloc | apply pw_below_drewN | apply below_drew1) | exact HB.out)⟩⟩
                    · rw [if_neg c26] at H
                      exact absurd H (by simp)
                  · rw [if_neg c25] at H
                    exact absurd H (by simp)
                · rw [if_neg c24] at H
                  exact absurd H (by simp)
              · rw [if_neg c23] at H
                exact absurd H (by simp)
          · rw [if_neg c13] at H
            have c13b0 : (t325 == 0) = false := beq_eq_false_iff_ne.mpr c13
            have c13b1 : (t325 != 0) = true := bne_iff_ne.mpr c13
            obtain ⟨y342, hy342⟩ : ∃ y_ : List Int, y_ = (([92, t325] : List Int)) := ⟨_, rfl⟩
            replace H : (if x7_1.length + y342.length < 140737488355328 then (colophonref08_Quote.l0 k1 t311 (x7_1 ++ y342) (wrap64 (x8_1 + t323))) else (none)) = some (r1, r2) := by first | (rw [hy342]; with_reducible exact H) | (have H2_ := (Option.bind_some _ _).symm.trans H; rw [hy342]; with_reducible exact H2_) | (have H2_ := (Option.bind_some _ _).symm.trans H; with_reducible exact H2_) | with_reducible exact H | (rw [hy342]; exact H) | exact H
            have Ny342 := Aside0.mk hy342
            clear hy342
            by_cases c30 : x7_1.length + y342.length < 140737488355328
            · rw [if_pos c30] at H
              have LMc30 := Aside0.mk c30
              clear c30
              obtain ⟨y345, hy345⟩ : ∃ y_ : List Int, y_ = (x7_1 ++ y342) := ⟨_, rfl⟩
              replace H : (colophonref08_Quote.l0 k1 t311 y345 (wrap64 (x8_1 + t323))) = some (r1, r2) := by first | (rw [hy345]; with_reducible exact H) | (have H2_ := (Option.bind_some _ _).symm.trans H; rw [hy345]; with_reducible exact H2_) | (have H2_ := (Option.bind_some _ _).symm.trans H; with_reducible exact H2_) | with_reducible exact H | (rw [hy345]; exact H) | exact H
              have Ny345 := Aside0.mk hy345
              clear hy345
              have H' := Aside0.mk H
              clear H
              go_wp2_with (first | ((with_reducible refine gate_callee (f := 32) rfl ?_); refine goesL_ (some 30) rfl rfl Tryd.func32 (by kernel_rfl) rfl #[.slice Ao6 t311.length co6, .int .i64 x8_1] rfl (by (try simp only [List.map_toArray, List.map_cons, List.map_nil]); first | done | rfl | (simp only [List.length_drop, List.length_take]; rfl)) ?_; (with_reducible refine (colophonref01_Decode.calls k1 _ _ t311 x8_1 t322 t323 t324 _ ?side1 ?side2 A11.out).mono ?_); (case side1 => repeat (first | exact (Kd.V_reads' HO_4.out).2.2 | (with_reducible refine Kd.C_alloc ?_ _) | (with_reducible refine Kd.C_drewN ?_ _) | (with_reducible refine Kd.C_drew ?_))); (case side2 => exact (Kd.V_reads' HO_4.out).2.1); rintro e w31 ⟨rfl, hb⟩; refine ⟨_, rfl, ?_⟩; have n0_ := Aside0.mk (Kd.V_below (by (with_reducible repeat (first | apply Kd.V_alloc | apply Kd.V_drewN | apply Kd.V_drew)); exact HO_4.out) hb); have n1_ := Aside0.mk (Kd.R_below (by (with_reducible repeat (first | apply Kd.R_alloc | apply Kd.R_drewN | apply Kd.R_drew)); exact HO_7.out) hb); have n2_ := Aside0.mk (below_step (by repeat (first | (with_reducible first | exact HB.out | apply below_alloc | apply pw_below_drewN | apply below_drew1) | exact HB.out)) hb); clear HO_4; clear HO_7; clear HB; have HO_4 := n0_; have HO_7 := n1_; have HB := n2_; clear n0_ n1_ n2_; (try clear hb); (try clear hb2); (try clear hk); (try clear hi)) | ((with_reducible refine gate_callee (f := 33) rfl ?_); refine goesL_ (some 35) rfl rfl Tryd.func33 (by kernel_rfl) rfl #[.int .i64 t322] rfl (by (try simp only [List.map_toArray, List.map_cons, List.map_nil]); first | done | rfl | (simp only [List.length_drop, List.length_take]; rfl)) ?_; (with_reducible refine (colophonref08_short.calls k1 t322 t325 _ A12.out).mono ?_); rintro e w' ⟨rfl, ⟨nd, rfl⟩⟩; refine ⟨_, rfl, ?_⟩) | ((with_reducible refine gate_dst (N := 40) rfl ?_); refine Kd.R_lit (Kd.int .u8) _ 5 ?hg (N := 40) ?hd (xs := ([92, t325] : List Int)) (inner := [.int .u8 92, .int .u8 t325]) (ok := fun _ => True) (okp := fun _ => True) ?hr ?hp (fun _ hk => hk) trivial (Below.refl _ _) (Nat.le_refl _) (by simp) ?_; (case hd => rfl); (case hg => rfl); (case hr => first | (go_simp; done) | (go_simp; rfl)); (case hp => exact (Reps.one (show Kd.M (Kd.int .u8) _ _ _ 92 [.int .u8 92] from rfl) (Reps.one (show Kd.M (Kd.int .u8) _ _ _ t325 [.int .u8 t325] from rfl) (Reps.none _ _)))); intro v343 w32 ho33 hb hg_ hnew_; clear hg_ hnew_; (first | rw [← Ny342.out] at ho33 | (simp only [Int.reduceToNat] at ho33; rw [← Ny342.out] at ho33)); have n0_ := Aside0.mk (Kd.V_elder' (by (with_reducible repeat (first | apply Kd.V_alloc | apply Kd.V_drewN | apply Kd.V_drew)); exact HO_4.out) (Kd.R_base ho33) hb); have n1_ := Aside0.mk (Kd.R_elder' (by (with_reducible repeat (first | apply Kd.R_alloc | apply Kd.R_drewN | apply Kd.R_drew)); exact HO_7.out) (Kd.R_base ho33) hb); have n2_ := Aside0.mk (Kd.R_lower (Kd.R_new' ho33 (Kd.R_lt (by (with_reducible repeat (first | apply Kd.R_alloc | apply Kd.R_drewN | apply Kd.R_drew)); exact HO_7.out))) (below_size (by repeat (first | (with_reducible first | exact HB.out | apply below_alloc | apply pw_below_drewN | apply below_drew1) | exact HB.out)))); have n3_ := Aside0.mk (below_step (by repeat (first | (with_reducible first | exact HB.out | apply below_alloc | apply pw_below_drewN | apply below_drew1) | exact HB.out)) hb); clear HO_4; clear HO_7; clear HB; have HO_4 := n0_; have HO_7 := n1_; have HO344 := n2_; have HB := n3_; clear n0_ n1_ n2_ n3_; clear hb ho33; obtain ⟨Ao35, co35, eo35⟩ := Kd.R_slice HO344.out; subst eo35) | ((with_reducible refine gate_builtin (b := .append) (xs := #[.tmp 38, .tmp 40]) rfl ?_); at_builtin; refine Kd.R_append_rows (Kd.int .u8) (w0 := w) w.heap.size rfl (.tmp 38) (.tmp 40) 27 5 (.int .u8 0) 1 rfl Tryd.underlying27 info5 rfl (by decide) (by omega) u7 x7_1 y342 _ _ _ (fun k_ => some k_ ≠ (.slice Ao35 y342.length co35 : Value).ownBlock) (fun _ => False) rfl rfl ?aO ?aR (fun _ _ h => h) (fun _ h => h.elim) ?aF ?aB ?aS ?aL ?_; (case aR => repeat (first | exact (Kd.R_reads' HO344.out).2.2 | (with_reducible refine Kd.C_alloc ?_ _) | (with_reducible refine Kd.C_drewN ?_ _) | (with_reducible refine Kd.C_drew ?_))); (case aB => exact (by repeat (first | (with_reducible first | exact HB.out | apply below_alloc | apply pw_below_drewN | apply below_drew1) | exact HB.out))); (case aF => exact (fun k_ hk => Kd.fresh' (Kd.R_lt (by (with_reducible repeat (first | apply Kd.R_alloc | apply Kd.R_drewN | apply Kd.R_drew)); exact HO344.out)) k_ hk)); (case aO => exact (by (with_reducible repeat (first | apply Kd.R_alloc | apply Kd.R_drewN | apply Kd.R_drew)); exact Kd.R_mono HO_7.out (fun _ hk => hk.2))); (case aS => exact (below_size (by repeat (first | (with_reducible first | exact HB.out | apply below_alloc | apply pw_below_drewN | apply below_drew1) | exact HB.out)))); (case aL => have := LMc30.out; omega); intro v346 w34 ho hb hg hat; rw [← Ny345.out] at ho; have n0_ := Aside0.mk (Kd.V_afterv (ok := (fun k_ => some k_ ≠ (.slice Ao35 y342.length co35 : Value).ownBlock)) (by (with_reducible repeat (first | apply Kd.V_alloc | apply Kd.V_drewN | apply Kd.V_drew)); exact Kd.V_mono HO_4.out (fun _ hk => ⟨hk.2, hk.1⟩)) hg hat); have n1_ := Aside0.mk (Kd.R_after (ok := (fun _ => True)) (by (with_reducible repeat (first | apply Kd.R_alloc | apply Kd.R_drewN | apply Kd.R_drew)); exact HO344.out) hg hat); have n2_ := Aside0.mk (hb); have n3_ := Aside0.mk (ho); clear HO_4; clear HO344; clear HB; clear HO_7; have HO_4 := n0_; have HO344 := n1_; have HB := n2_; have HO347 := n3_; clear n0_ n1_ n2_ n3_; clear ho hb hg hat))
              go_roundg k1
              case measure => have := HK1.out; omega
              case rel => exact ⟨(y345), (wrap64 (x8_1 + t323)), (by first | rfl | (simp; done) | (simp [*]; done)), H', ⟨by have := HK1.out; omega⟩, ⟨by (with_reducible repeat (first | apply Kd.V_alloc | apply Kd.V_drewN | apply Kd.V_drew)); exact Kd.V_mono HO_4.out (fun _ hk => hk.2)⟩, ⟨by (with_reducible repeat (first | apply Kd.R_alloc | apply Kd.R_drewN | apply Kd.R_drew)); exact Kd.R_mono HO347.out (fun _ hk => trivial)⟩, ⟨by repeat (first | (with_reducible first | exact HB.out | apply below_alloc | apply pw_below_drewN | apply below_drew1) | exact HB.out)⟩⟩
            · rw [if_neg c30] at H
              exact absurd H (by simp)
        · rw [if_neg c10] at H
          have c10b0 : decide (x8_1 < (t311.length : Int)) = false := decide_eq_false c10
          clear c10
          by_cases c36 : x7_1.length < 140737488355328
          · rw [if_pos c36] at H
            have LMc36 := Aside0.mk c36
            clear c36
            obtain ⟨y319, hy319⟩ : ∃ y_ : List Int, y_ = (x7_1 ++ [34]) := ⟨_, rfl⟩
            replace H : (some (strOfNums y319, 0)) = some (r1, r2) := by first | (rw [hy319]; with_reducible exact H) | (have H2_ := (Option.bind_some _ _).symm.trans H; rw [hy319]; with_reducible exact H2_) | (have H2_ := (Option.bind_some _ _).symm.trans H; with_reducible exact H2_) | with_reducible exact H | (rw [hy319]; exact H) | exact H
            have Ny319 := Aside0.mk hy319
            clear hy319
            simp only [Option.some.injEq, Prod.mk.injEq] at H
            obtain ⟨rfl, rfl⟩ := H
            go_wp2_with (first | ((with_reducible refine gate_builtin (b := .append) (xs := #[.tmp 64, .tmp 65]) rfl ?_); at_builtin; refine Kd.R_append (Kd.int .u8) (w0 := w) w.heap.size rfl (.tmp 64) (.tmp 65) 27 5 (.int .u8 0) 1 rfl Tryd.underlying27 info5 rfl (by decide) (by omega) u7 x7_1 34 [.int .u8 34] (fun _ => True) (fun _ => False) rfl rfl ?aP (fun _ hk => hk.elim) ?aF ?aO ?aB ?aS ?aL ?_; (case aP => exact rfl); (case aB => exact (by repeat (first | (with_reducible first | exact HB.out | apply below_alloc | apply pw_below_drewN | apply below_drew1) | exact HB.out))); (case aF => exact (fun _ _ => trivial)); (case aO => exact (by (with_reducible repeat (first | apply Kd.R_alloc | apply Kd.R_drewN | apply Kd.R_drew)); exact HO_7.out)); (case aS => exact (below_size (by repeat (first | (with_reducible first | exact HB.out | apply below_alloc | apply pw_below_drewN | apply below_drew1) | exact HB.out)))); (case aL => have := LMc36.out; omega); intro v320 w37 ho hb hg hat; rw [← Ny319.out] at ho; have n0_ := Aside0.mk (Kd.V_afterv (ok := (fun _ => True)) (by (with_reducible repeat (first | apply Kd.V_alloc | apply Kd.V_drewN | apply Kd.V_drew)); exact Kd.V_mono HO_4.out (fun _ hk => ⟨trivial, hk⟩)) hg hat); have n1_ := Aside0.mk (hb); have n2_ := Aside0.mk (ho); clear HO_4; clear HB; clear HO_7; have HO_4 := n0_; have HB := n1_; have HO321 := n2_; clear n0_ n1_ n2_; clear ho hb hg hat; have hcv38 := own_string (P := Tryd.prog) Tryd.underlying27 Tryd.underlying5 Tryd.underlying9 (Kd.own_of_R HO321.out)))
            go_ret2
            exact ⟨by first | rfl | (simp [errW_none, errW_some] <;> rfl) | (simp [errW_none, errW_some] <;> decide +kernel) | (simp [*, errW_none, errW_some] <;> rfl), by repeat (first | (with_reducible first | exact HB.out | apply below_alloc | apply pw_below_drewN | apply below_drew1) | exact HB.out)⟩
          · rw [if_neg c36] at H
            exact absurd H (by simp)
  · rw [if_neg c4] at H
    have c4b0 : (t315 == 0) = false := beq_eq_false_iff_ne.mpr c4
    have c4b1 : (t315 != 0) = true := bne_iff_ne.mpr c4
    simp only [Option.some.injEq, Prod.mk.injEq] at H
    obtain ⟨rfl, rfl⟩ := H
    go_enter Tryd.func11, Tryd.ntmps11
    go_wp2_with (first | ((with_reducible refine gate_dst (N := 14) rfl ?_); refine conv_run rfl (.tmp 13) 9 27 5 rfl Tryd.underlying9 Tryd.underlying27 Tryd.underlying5 a0 rfl A2.out ?_; intro v312 w39 ho0 hb; have n0_ := Aside0.mk (Kd.V_lower (Kd.V_mono (ok' := fun k_ => True) ho0 (fun k_ hk_ => trivial)) (below_size (by repeat (first | (with_reducible first | exact HB.out | apply below_alloc | apply pw_below_drewN | apply below_drew1) | exact HB.out)))); have n1_ := Aside0.mk (below_step (by repeat (first | (with_reducible first | exact HB.out | apply below_alloc | apply pw_below_drewN | apply below_drew1) | exact HB.out)) hb); clear HB; have HO313 := n0_; have HB := n1_; clear n0_ n1_; (try clear hb); (try clear hb2); (try clear hk); (try clear hi); (try clear ho0); obtain ⟨Ao40, co40, eo40⟩ := Kd.V_slice HO313.out; subst eo40) | ((with_reducible refine gate_callee (f := 19) rfl ?_); refine goesL_ (some 17) rfl rfl Tryd.func19 (by kernel_rfl) rfl #[.slice Ao40 t311.length co40] rfl (by (try simp only [List.map_toArray, List.map_cons, List.map_nil]); first | done | rfl | (simp only [List.length_drop, List.length_take]; rfl)) ?_; (with_reducible refine (colophonref01_Check.calls k _ _ t311 t314 t315 _ ?side1 ?side2 A3.out).mono ?_); (case side1 => repeat (first | exact (Kd.V_reads' HO313.out).2.2 | (with_reducible refine Kd.C_alloc ?_ _) | (with_reducible refine Kd.C_drewN ?_ _) | (with_reducible refine Kd.C_drew ?_))); (case side2 => exact (Kd.V_reads' HO313.out).2.1); rintro e w41 ⟨rfl, hb⟩; refine ⟨_, rfl, ?_⟩; have n0_ := Aside0.mk (Kd.V_below (by (with_reducible repeat (first | apply Kd.V_alloc | apply Kd.V_drewN | apply Kd.V_drew)); exact HO313.out) hb); have n1_ := Aside0.mk (below_step (by repeat (first | (with_reducible first | exact HB.out | apply below_alloc | apply pw_below_drewN | apply below_drew1) | exact HB.out)) hb); clear HO313; clear HB; have HO313 := n0_; have HB := n1_; clear n0_ n1_; (try clear hb); (try clear hb2); (try clear hk); (try clear hi)))
    go_ret2
    exact ⟨by first | rfl | (simp [errW_none, errW_some] <;> rfl) | (simp [errW_none, errW_some] <;> decide +kernel) | (simp [*, errW_none, errW_some] <;> rfl), by repeat (first | (with_reducible first | exact HB.out | apply below_alloc | apply pw_below_drewN | apply below_drew1) | exact HB.out)⟩

/-! ### colophonlaw08_EscapeQuotes: function 3 -/
def colophonlaw08_EscapeQuotes.f (k : Nat) (a0 : ByteArray) : Option (Bool) := (escape_Quote.f k a0).bind fun bt348 => ((colophonref08_Quote.f k a0).bind fun bt350 => (if bt348.1.toList = bt350.1.toList then (if bt348.2 = bt350.2 then ((colophonlaw08_awake.f k).bind fun t352 => (some t352)) else (some false)) else (some false)))
theorem colophonlaw08_EscapeQuotes.mono : ∀ a0 k, LeO (colophonlaw08_EscapeQuotes.f k a0) (colophonlaw08_EscapeQuotes.f (k + 1) a0) := by
  intro a0 k
  unfold colophonlaw08_EscapeQuotes.f
  repeat' first
      | (with_reducible exact colophonlaw08_awake.mono _)
      | (with_reducible exact colophonref08_Quote.mono _ _)
      | (with_reducible exact escape_Quote.mono _ _)
      | (with_reducible exact LeO.refl _)
      | (with_reducible exact LeO.none _)
      | (with_reducible refine LeO.ite ?_ ?_)
      | (with_reducible refine LeO.bind ?_ (fun _ => ?_))
      | exact colophonlaw08_awake.mono _
      | exact colophonref08_Quote.mono _ _
      | exact escape_Quote.mono _ _
      | exact LeO.none _
      | refine LeO.ite ?_ ?_
      | refine LeO.bind ?_ (fun _ => ?_)
set_option maxHeartbeats 8000000 in
set_option maxRecDepth 100000 in
theorem colophonlaw08_EscapeQuotes.calls (k : Nat) (a0 : ByteArray) (r : Bool) (w : World) (hT : TAB w) (h : colophonlaw08_EscapeQuotes.f k a0 = some r) :
    Calls Tryd.prog 3 #[.string a0] w fun e w' => e = .returned (.bool r) ∧ Below w.heap.size w w' := by
  have HT := Aside0.mk hT
  clear hT
  have HB := Aside0.mk (Below.refl w.heap.size w)
  have H : ((escape_Quote.f k a0).bind fun bt348 => ((colophonref08_Quote.f k a0).bind fun bt350 => (if bt348.1.toList = bt350.1.toList then (if bt348.2 = bt350.2 then ((colophonlaw08_awake.f k).bind fun t352 => (some t352)) else (some false)) else (some false)))) = some r := h
  clear h
  replace H := Option.bind_eq_some_iff.mp H
  obtain ⟨⟨t348, t349⟩, A20, H⟩ := H
  replace H : ((colophonref08_Quote.f k a0).bind fun bt350 => (if t348.toList = bt350.1.toList then (if t349 = bt350.2 then ((colophonlaw08_awake.f k).bind fun t352 => (some t352)) else (some false)) else (some false))) = some r := H
  have A2 := Aside0.mk A20
  clear A20
  replace H := Option.bind_eq_some_iff.mp H
  obtain ⟨⟨t350, t351⟩, A30, H⟩ := H
  replace H : (if t348.toList = t350.toList then (if t349 = t351 then ((colophonlaw08_awake.f k).bind fun t352 => (some t352)) else (some false)) else (some false)) = some r := H
  have A3 := Aside0.mk A30
  clear A30
  by_cases c4 : t348.toList = t350.toList
  · rw [if_pos c4] at H
    have c4b0 : (t348.toList == t350.toList) = true := beq_iff_eq.mpr c4
    have c4b1 : (t348.toList != t350.toList) = false := bne_eq_false_iff_eq.mpr c4
    clear c4
    by_cases c5 : t349 = t351
    · rw [if_pos c5] at H
      have c5b0 : (t349 == t351) = true := beq_iff_eq.mpr c5
      have c5b1 : (t349 != t351) = false := bne_eq_false_iff_eq.mpr c5
      clear c5
      replace H := Option.bind_eq_some_iff.mp H
      obtain ⟨t352, A60, H⟩ := H
      replace H : (some t352) = some r := H
      have A6 := Aside0.mk A60
      clear A60
      obtain rfl := Option.some.inj H
      go_enter Tryd.func3, Tryd.ntmps3
      go_wp2_with (first | ((with_reducible refine gate_callee (f := 10) rfl ?_); refine goesL_ (some 9) rfl rfl Tryd.func10 (by kernel_rfl) rfl #[.string a0] rfl (by (try simp only [List.map_toArray, List.map_cons, List.map_nil]); first | done | rfl | (simp only [List.length_drop, List.length_take]; rfl)) ?_; (with_reducible refine (escape_Quote.calls k a0 t348 t349 _ ?side1 A2.out).mono ?_); (case side1 => exact TAB.below HT.out (by repeat (first | (with_reducible first | exact HB.out | apply below_alloc | apply pw_below_drewN | apply below_drew1) | exact HB.out))); rintro e w7 ⟨rfl, hb⟩; refine ⟨_, rfl, ?_⟩; have n0_ := Aside0.mk (below_step (by repeat (first | (with_reducible first | exact HB.out | apply below_alloc | apply pw_below_drewN | apply below_drew1) | exact HB.out)) hb); clear HB; have HB := n0_; clear n0_; (try clear hb); (try clear hb2); (try clear hk); (try clear hi)) | ((with_reducible refine gate_callee (f := 11) rfl ?_); refine goesL_ (some 14) rfl rfl Tryd.func11 (by kernel_rfl) rfl #[.string a0] rfl (by (try simp only [List.map_toArray, List.map_cons, List.map_nil]); first | done | rfl | (simp only [List.length_drop, List.length_take]; rfl)) ?_; (with_reducible refine (colophonref08_Quote.calls k a0 t350 t351 _ A3.out).mono ?_); rintro e w8 ⟨rfl, hb⟩; refine ⟨_, rfl, ?_⟩; have n0_ := Aside0.mk (below_step (by repeat (first | (with_reducible first | exact HB.out | apply below_alloc | apply pw_below_drewN | apply below_drew1) | exact HB.out)) hb); clear HB; have HB := n0_; clear n0_; (try clear hb); (try clear hb2); (try clear hk); (try clear hi)) | (go_at_call 12; (with_reducible refine (colophonlaw08_awake.calls k  t352 _ ?side1 A6.out).mono ?_); (case side1 => exact TAB.below HT.out (by repeat (first | (with_reducible first | exact HB.out | apply below_alloc | apply pw_below_drewN | apply below_drew1) | exact HB.out))); rintro e w9 ⟨rfl, hb⟩; have n0_ := Aside0.mk (below_step (by repeat (first | (with_reducible first | exact HB.out | apply below_alloc | apply pw_below_drewN | apply below_drew1) | exact HB.out)) hb); clear HB; have HB := n0_; clear n0_; (try clear hb); (try clear hb2); (try clear hk); (try clear hi)))
      go_ret
      exact ⟨by first | rfl | (simp [errW_none, errW_some] <;> rfl) | (simp [errW_none, errW_some] <;> decide +kernel) | (simp [*, errW_none, errW_some] <;> rfl), by repeat (first | (with_reducible first | exact HB.out | apply below_alloc | apply pw_below_drewN | apply below_drew1) | exact HB.out)⟩
    · rw [if_neg c5] at H
      have c5b0 : (t349 == t351) = false := beq_eq_false_iff_ne.mpr c5
      have c5b1 : (t349 != t351) = true := bne_iff_ne.mpr c5
      obtain rfl := Option.some.inj H
      go_enter Tryd.func3, Tryd.ntmps3
      go_wp2_with (first | ((with_reducible refine gate_callee (f := 10) rfl ?_); refine goesL_ (some 9) rfl rfl Tryd.func10 (by kernel_rfl) rfl #[.string a0] rfl (by (try simp only [List.map_toArray, List.map_cons, List.map_nil]); first | done | rfl | (simp only [List.length_drop, List.length_take]; rfl)) ?_; (with_reducible refine (escape_Quote.calls k a0 t348 t349 _ ?side1 A2.out).mono ?_); (case side1 => exact TAB.below HT.out (by repeat (first | (with_reducible first | exact HB.out | apply below_alloc | apply pw_below_drewN | apply below_drew1) | exact HB.out))); rintro e w10 ⟨rfl, hb⟩; refine ⟨_, rfl, ?_⟩; have n0_ := Aside0.mk (below_step (by repeat (first | (with_reducible first | exact HB.out | apply below_alloc | apply pw_below_drewN | apply below_drew1) | exact HB.out)) hb); clear HB; have HB := n0_; clear n0_; (try clear hb); (try clear hb2); (try clear hk); (try clear hi)) | ((with_reducible refine gate_callee (f := 11) rfl ?_); refine goesL_ (some 14) rfl rfl Tryd.func11 (by kernel_rfl) rfl #[.string a0] rfl (by (try simp only [List.map_toArray, List.map_cons, List.map_nil]); first | done | rfl | (simp only [List.length_drop, List.length_take]; rfl)) ?_; (with_reducible refine (colophonref08_Quote.calls k a0 t350 t351 _ A3.out).mono ?_); rintro e w11 ⟨rfl, hb⟩; refine ⟨_, rfl, ?_⟩; have n0_ := Aside0.mk (below_step (by repeat (first | (with_reducible first | exact HB.out | apply below_alloc | apply pw_below_drewN | apply below_drew1) | exact HB.out)) hb); clear HB; have HB := n0_; clear n0_; (try clear hb); (try clear hb2); (try clear hk); (try clear hi)))
      go_ret
      exact ⟨by first | rfl | (simp [errW_none, errW_some] <;> rfl) | (simp [errW_none, errW_some] <;> decide +kernel) | (simp [*, errW_none, errW_some] <;> rfl), by repeat (first | (with_reducible first | exact HB.out | apply below_alloc | apply pw_below_drewN | apply below_drew1) | exact HB.out)⟩
  · rw [if_neg c4] at H
    have c4b0 : (t348.toList == t350.toList) = false := beq_eq_false_iff_ne.mpr c4
    have c4b1 : (t348.toList != t350.toList) = true := bne_iff_ne.mpr c4
    obtain rfl := Option.some.inj H
    go_enter Tryd.func3, Tryd.ntmps3
    go_wp2_with (first | ((with_reducible refine gate_callee (f := 10) rfl ?_); refine goesL_ (some 9) rfl rfl Tryd.func10 (by kernel_rfl) rfl #[.string a0] rfl (by (try simp only [List.map_toArray, List.map_cons, List.map_nil]); first | done | rfl | (simp only [List.length_drop, List.length_take]; rfl)) ?_; (with_reducible refine (escape_Quote.calls k a0 t348 t349 _ ?side1 A2.out).mono ?_); (case side1 => exact TAB.below HT.out (by repeat (first | (with_reducible first | exact HB.out | apply below_alloc | apply pw_below_drewN | apply below_drew1) | exact HB.out))); rintro e w12 ⟨rfl, hb⟩; refine ⟨_, rfl, ?_⟩; have n0_ := Aside0.mk (below_step (by repeat (first | (with_reducible first | exact HB.out | apply below_alloc | apply pw_below_drewN | apply below_drew1) | exact HB.out)) hb); clear HB; have HB := n0_; clear n0_; (try clear hb); (try clear hb2); (try clear hk); (try clear hi)) | ((with_reducible refine gate_callee (f := 11) rfl ?_); refine goesL_ (some 14) rfl rfl Tryd.func11 (by kernel_rfl) rfl #[.string a0] rfl (by (try simp only [List.map_toArray, List.map_cons, List.map_nil]); first | done | rfl | (simp only [List.length_drop, List.length_take]; rfl)) ?_; (with_reducible refine (colophonref08_Quote.calls k a0 t350 t351 _ A3.out).mono ?_); rintro e w13 ⟨rfl, hb⟩; refine ⟨_, rfl, ?_⟩; have n0_ := Aside0.mk (below_step (by repeat (first | (with_reducible first | exact HB.out | apply below_alloc | apply pw_below_drewN | apply below_drew1) | exact HB.out)) hb); clear HB; have HB := n0_; clear n0_; (try clear hb); (try clear hb2); (try clear hk); (try clear hi)))
    go_ret
    exact ⟨by first | rfl | (simp [errW_none, errW_some] <;> rfl) | (simp [errW_none, errW_some] <;> decide +kernel) | (simp [*, errW_none, errW_some] <;> rfl), by repeat (first | (with_reducible first | exact HB.out | apply below_alloc | apply pw_below_drewN | apply below_drew1) | exact HB.out)⟩

/-- THE ONE PURE STATEMENT of colophonlaw08_EscapeQuotes: yours. -/
def colophonlaw08_EscapeQuotes.Pure : Prop := ∀ (a0 : ByteArray), a0.size ≤ 140737488351232 → ∃ k, colophonlaw08_EscapeQuotes.f k a0 = some true
theorem colophonlaw08_EscapeQuotes.walk (P : colophonlaw08_EscapeQuotes.Pure) (a0 : ByteArray) (w : World) (w0 : a0.size ≤ 140737488351232) (hT : TAB w) :
    Calls Tryd.prog 3 #[.string a0] w fun e w' => e = .returned (.bool true) ∧ Below w.heap.size w w' := by
  obtain ⟨k, h⟩ := P a0 w0
  refine (colophonlaw08_EscapeQuotes.calls k a0 true w hT h).mono ?_
  rintro e w' ⟨rfl, hd⟩
  exact ⟨rfl, hd⟩

end Go.Proofs.YtjioglaobabmmaaDoor.P
