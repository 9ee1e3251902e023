-- Written by xprint.py (a program of this work) over the kit's printer. Not trusted: Lean checks it.
import Derived.Test.YtfpjlpgebhgfkaaDoorP0
import Derived.Test.YtfpjlpgebhgfkaaDoorP3
import Derived.Test.YtfpjlpgebhgfkaaDoorP4
namespace Go.Proofs.YtfpjlpgebhgfkaaDoor.P
open Go.RowKit Go.Proofs.YtfpjlpgebhgfkaaDoorW.PrintWords Go.Proofs.YtfpjlpgebhgfkaaDoorW.PrintLast Go.Proofs.YtfpjlpgebhgfkaaDoorW.PrintMore
attribute [local go_sem] max2_int min2_int max_two min_two max_three min_three max_four min_four   -- for this text's walks alone
set_option linter.unusedVariables false
set_option linter.unusedSimpArgs false

/-! ### colophonlaw05_DigitsBack: function 6 -/
mutual
def colophonlaw05_DigitsBack.j0 : Nat → Int → Int → Int → ByteArray → Bool → Option (Bool)
  | 0, _, _, _, _, _ => none
  | k + 1, x1, x2, x7, x8, x26 => if x26 = true then (some false) else (colophonlaw05_DigitsBack.l0 k x2 x7 x8 (wrap64 (x7 + (Go.bits .and .i64 x1 2305843009213693951))) x8 0)
def colophonlaw05_DigitsBack.l0 : Nat → Int → Int → ByteArray → Int → ByteArray → Int → Option (Bool)
  | 0, _, _, _, _, _, _ => none
  | k + 1, x2, x7, x8, x10, x11, x12 => (colophonref00_Bring.f x2 41).bind fun t180 => (if x12 < t180 then (if 1 + x11.size ≤ 9223372036854775807 then (colophonlaw05_DigitsBack.l0 k x2 x7 x8 x10 ((⟨#[48]⟩ : ByteArray) ++ x11) (wrap64 (x12 + 1))) else (none)) else ((colophonlaw05_parses.f k x8 x10 x7).bind fun t181 => (if t181 = true then ((colophonlaw05_parses.f k x11 x10 x7).bind fun t182 => (if t182 = true then (if x7 = 0 then ((colophonlaw05_awake.f k).bind fun t183 => (some t183)) else ((colophonlaw05_fails.f k x8 (wrap64 (x7 - 1)) 5).bind fun t184 => (if t184 = true then ((colophonlaw05_awake.f k).bind fun t185 => (some t185)) else (some false)))) else (some false))) else (some false))))
end
def colophonlaw05_DigitsBack.f (k : Nat) (a0 : Int) (a1 : Int) (a2 : Int) : Option (Bool) := (digits_Text.f (Go.bits .and .i64 a0 4611686018427387903)).bind fun bt178 => (if bt178.2 = 0 then (colophonlaw05_DigitsBack.j0 k a1 a2 (Go.bits .and .i64 a0 4611686018427387903) bt178.1 ((bt178.1.size : Int) == 0)) else (colophonlaw05_DigitsBack.j0 k a1 a2 (Go.bits .and .i64 a0 4611686018427387903) bt178.1 true))
theorem colophonlaw05_DigitsBack.mono_l : ∀ k, (∀ y0 y1 y2 y3 y4, LeO (colophonlaw05_DigitsBack.j0 k y0 y1 y2 y3 y4) (colophonlaw05_DigitsBack.j0 (k + 1) y0 y1 y2 y3 y4)) ∧ (∀ y0 y1 y2 y3 y4 y5, LeO (colophonlaw05_DigitsBack.l0 k y0 y1 y2 y3 y4 y5) (colophonlaw05_DigitsBack.l0 (k + 1) y0 y1 y2 y3 y4 y5))
  | 0 => ⟨fun _ _ _ _ _ r h => by simp [colophonlaw05_DigitsBack.j0] at h, fun _ _ _ _ _ _ r h => by simp [colophonlaw05_DigitsBack.l0] at h⟩
  | k + 1 => by
    obtain ⟨ih0, ih1⟩ := colophonlaw05_DigitsBack.mono_l k
    refine ⟨?_, ?_⟩
    · intro y0 y1 y2 y3 y4
      unfold colophonlaw05_DigitsBack.j0
      repeat' first
      | (with_reducible exact ih0 _ _ _ _ _)
      | (with_reducible exact ih1 _ _ _ _ _ _)
      | (with_reducible exact colophonlaw05_awake.mono _)
      | (with_reducible exact colophonlaw05_fails.mono _ _ _ _)
      | (with_reducible exact colophonlaw05_parses.mono _ _ _ _)
      | (with_reducible exact LeO.refl _)
      | (with_reducible exact LeO.none _)
      | (with_reducible refine LeO.ite ?_ ?_)
      | (with_reducible refine LeO.bind ?_ (fun _ => ?_))
      | exact ih0 _ _ _ _ _
      | exact ih1 _ _ _ _ _ _
      | exact colophonlaw05_awake.mono _
      | exact colophonlaw05_fails.mono _ _ _ _
      | exact colophonlaw05_parses.mono _ _ _ _
      | exact LeO.none _
      | refine LeO.ite ?_ ?_
      | refine LeO.bind ?_ (fun _ => ?_)
    · intro y0 y1 y2 y3 y4 y5
      unfold colophonlaw05_DigitsBack.l0
      repeat' first
      | (with_reducible exact ih0 _ _ _ _ _)
      | (with_reducible exact ih1 _ _ _ _ _ _)
      | (with_reducible exact colophonlaw05_awake.mono _)
      | (with_reducible exact colophonlaw05_fails.mono _ _ _ _)
      | (with_reducible exact colophonlaw05_parses.mono _ _ _ _)
      | (with_reducible exact LeO.refl _)
      | (with_reducible exact LeO.none _)
      | (with_reducible refine LeO.ite ?_ ?_)
      | (with_reducible refine LeO.bind ?_ (fun _ => ?_))
      | exact ih0 _ _ _ _ _
      | exact ih1 _ _ _ _ _ _
      | exact colophonlaw05_awake.mono _
      | exact colophonlaw05_fails.mono _ _ _ _
      | exact colophonlaw05_parses.mono _ _ _ _
      | exact LeO.none _
      | refine LeO.ite ?_ ?_
      | refine LeO.bind ?_ (fun _ => ?_)
theorem colophonlaw05_DigitsBack.mono : ∀ a0 a1 a2 k, LeO (colophonlaw05_DigitsBack.f k a0 a1 a2) (colophonlaw05_DigitsBack.f (k + 1) a0 a1 a2) := by
  intro a0 a1 a2 k
  obtain ⟨ih0, ih1⟩ := colophonlaw05_DigitsBack.mono_l k
  unfold colophonlaw05_DigitsBack.f
  repeat' first
      | (with_reducible exact ih0 _ _ _ _ _)
      | (with_reducible exact ih1 _ _ _ _ _ _)
      | (with_reducible exact colophonlaw05_awake.mono _)
      | (with_reducible exact colophonlaw05_fails.mono _ _ _ _)
      | (with_reducible exact colophonlaw05_parses.mono _ _ _ _)
      | (with_reducible exact LeO.refl _)
      | (with_reducible exact LeO.none _)
      | (with_reducible refine LeO.ite ?_ ?_)
      | (with_reducible refine LeO.bind ?_ (fun _ => ?_))
      | exact ih0 _ _ _ _ _
      | exact ih1 _ _ _ _ _ _
      | exact colophonlaw05_awake.mono _
      | exact colophonlaw05_fails.mono _ _ _ _
      | exact colophonlaw05_parses.mono _ _ _ _
      | exact LeO.none _
      | refine LeO.ite ?_ ?_
      | refine LeO.bind ?_ (fun _ => ?_)
set_option maxHeartbeats 8000000 in
set_option maxRecDepth 100000 in
theorem colophonlaw05_DigitsBack.calls (k : Nat) (a0 : Int) (a1 : Int) (a2 : Int) (r : Bool) (w : World) (hT : TAB w) (h : colophonlaw05_DigitsBack.f k a0 a1 a2 = some r) :
    Calls Tryd.prog 6 #[.int .i64 a0, .int .i64 a1, .int .i64 a2] w fun e w' => e = .returned (.bool r) ∧ Below w.heap.size w w' := by
  have HT := Aside0.mk hT
  clear hT
  have HB := Aside0.mk (Below.refl w.heap.size w)
  have H : ((digits_Text.f (Go.bits .and .i64 a0 4611686018427387903)).bind fun bt178 => (if bt178.2 = 0 then (colophonlaw05_DigitsBack.j0 k a1 a2 (Go.bits .and .i64 a0 4611686018427387903) bt178.1 ((bt178.1.size : Int) == 0)) else (colophonlaw05_DigitsBack.j0 k a1 a2 (Go.bits .and .i64 a0 4611686018427387903) bt178.1 true))) = some r := h
  clear h
  replace H := Option.bind_eq_some_iff.mp H
  obtain ⟨⟨t178, t179⟩, A40, H⟩ := H
  replace H : (if t179 = 0 then (colophonlaw05_DigitsBack.j0 k a1 a2 (Go.bits .and .i64 a0 4611686018427387903) t178 ((t178.size : Int) == 0)) else (colophonlaw05_DigitsBack.j0 k a1 a2 (Go.bits .and .i64 a0 4611686018427387903) t178 true)) = some r := H
  have A4 := Aside0.mk A40
  clear A40
  have HC5 := Aside0.mk H
  clear H
  go_enter Tryd.func6, Tryd.ntmps6
  go_upto_region 3 with (first | ((with_reducible refine gate_callee (f := 18) rfl ?_); refine goesL_ (some 17) rfl rfl Tryd.func18 (by kernel_rfl) rfl #[.int .i64 (Go.bits .and .i64 a0 4611686018427387903)] rfl (by (try simp only [List.map_toArray, List.map_cons, List.map_nil]); first | done | rfl | (simp only [List.length_drop, List.length_take]; rfl)) ?_; (with_reducible refine (digits_Text.calls (Go.bits .and .i64 a0 4611686018427387903) t178 t179 _ ?side1 A4.out).mono ?_); (case side1 => exact TAB.below HT.out (by repeat (first | (with_reducible first | exact HB.out | apply below_alloc | apply pw_below_drewN | apply below_drew1) | exact HB.out))); rintro e w6 ⟨rfl, hb⟩; refine ⟨_, rfl, ?_⟩; have n0_ := Aside0.mk (below_step (by repeat (first | (with_reducible first | exact HB.out | apply below_alloc | apply pw_below_drewN | apply below_drew1) | exact HB.out)) hb); clear HB; have HB := n0_; clear n0_; (try clear hb); (try clear hb2); (try clear hk); (try clear hi)))
  (try simp only [Act.put, List.setIfInBounds_toArray, List.set_cons_zero, List.set_cons_succ])
  go_cut [26] (fun v26 wc => ∃ (kq : Nat) (x26_4 : Bool), v26 = .bool x26_4 ∧ Aside0 (colophonlaw05_DigitsBack.j0 kq a1 a2 (Go.bits .and .i64 a0 4611686018427387903) t178 x26_4 = some r) ∧ Aside0 (kq ≤ k) ∧ Aside0 (Below w.heap.size w wc))
  case first =>
    have H := HC5.out
    clear HC5
    by_cases c7 : t179 = 0
    · rw [if_pos c7] at H
      have c7b0 : (t179 == 0) = true := beq_iff_eq.mpr c7
      have c7b1 : (t179 != 0) = false := bne_eq_false_iff_eq.mpr c7
      clear c7
      (first | rw [c7b0] | (simp only [i64_w, i32_w]; rw [c7b0]) | skip)
      have H' := Aside0.mk H
      clear H
      go_wp2
      go_meet
      case rel => exact ⟨_, (((t178.size : Int) == 0)), (by first | rfl | (simp; done) | (simp [*]; done)), H', ⟨by first | omega | exact Nat.le_refl _⟩, ⟨by repeat (first | (with_reducible first | exact HB.out | apply below_alloc | apply pw_below_drewN | apply below_drew1) | exact HB.out)⟩⟩
    · rw [if_neg c7] at H
      have c7b0 : (t179 == 0) = false := beq_eq_false_iff_ne.mpr c7
      have c7b1 : (t179 != 0) = true := bne_iff_ne.mpr c7
      (first | rw [c7b0] | (simp only [i64_w, i32_w]; rw [c7b0]) | skip)
      have H' := Aside0.mk H
      clear H
      go_wp2
      go_meet
      case rel => exact ⟨_, (true), (by first | rfl | (simp; done) | (simp [*]; done)), H', ⟨by first | omega | exact Nat.le_refl _⟩, ⟨by repeat (first | (with_reducible first | exact HB.out | apply below_alloc | apply pw_below_drewN | apply below_drew1) | exact HB.out)⟩⟩
  case rest =>
    clear HC5
    try clear c1
    try clear p2
    try clear c6
    try clear c7
    try clear c7b0
    try clear c7b1
    obtain ⟨kq, x26_4, rfl, HA, HJ4, HB⟩ := hcut
    cases kq with
    | zero => exact absurd HA.out (by simp [colophonlaw05_DigitsBack.j0])
    | succ kj4 =>
      have H := HA.out
      clear HA
      simp only [colophonlaw05_DigitsBack.j0] at H
      by_cases c8 : x26_4 = true
      · subst c8
        have H1 : (some false) = some r := by rw [if_pos rfl] at H; exact H
        clear H
        have H := H1
        clear H1
        obtain rfl := Option.some.inj H
        go_wp2
        go_ret
        exact ⟨by first | rfl | (simp [errW_none, errW_some] <;> rfl) | (simp [*, errW_none, errW_some] <;> rfl), by repeat (first | (with_reducible first | exact HB.out | apply below_alloc | apply pw_below_drewN | apply below_drew1) | exact HB.out)⟩
      · replace c8 := Bool.eq_false_iff.mpr c8
        subst c8
        have H1 : (colophonlaw05_DigitsBack.l0 kj4 a2 (Go.bits .and .i64 a0 4611686018427387903) t178 (wrap64 ((Go.bits .and .i64 a0 4611686018427387903) + (Go.bits .and .i64 a1 2305843009213693951))) t178 0) = some r := by rw [if_neg (show ¬ (false = true) by decide)] at H; exact H
        clear H
        have H := H1
        clear H1
        have H' := Aside0.mk H
        clear H
        go_wp2
        go_loopg [11, 12] kj4 (fun kq v11 v12 w' => ∃ (x11_2 : ByteArray) (x12_2 : Int), v11 = .string x11_2 ∧ v12 = .int .i64 x12_2 ∧ Aside0 (colophonlaw05_DigitsBack.l0 kq a2 (Go.bits .and .i64 a0 4611686018427387903) t178 (wrap64 ((Go.bits .and .i64 a0 4611686018427387903) + (Go.bits .and .i64 a1 2305843009213693951))) x11_2 x12_2 = some r) ∧ Aside0 (kq ≤ kj4) ∧ Aside0 (Below w.heap.size w w'))
        case atStart => exact ⟨(t178), (0), (by first | rfl | (simp; done) | (simp [*]; done)), (by first | rfl | (simp; done) | (simp [*]; done)), H', ⟨Nat.le_refl _⟩, ⟨by repeat (first | (with_reducible first | exact HB.out | apply below_alloc | apply pw_below_drewN | apply below_drew1) | exact HB.out)⟩⟩
        case round =>
          clear H'
          try clear c1
          try clear p2
          try clear c6
          try clear p6
          try clear c7
          try clear c7b0
          try clear c7b1
          try clear c8
          try clear p2
          obtain ⟨x11_2, x12_2, rfl, rfl, HA, HK2, HB⟩ := hrel
          cases gk with
          | zero => exact absurd HA.out (by simp [colophonlaw05_DigitsBack.l0])
          | succ k2 =>
            have H := HA.out
            clear HA
            simp only [colophonlaw05_DigitsBack.l0] at H
            replace H := Option.bind_eq_some_iff.mp H
            obtain ⟨t180, A90, H⟩ := H
            replace H : (if x12_2 < t180 then (if 1 + x11_2.size ≤ 9223372036854775807 then (colophonlaw05_DigitsBack.l0 k2 a2 (Go.bits .and .i64 a0 4611686018427387903) t178 (wrap64 ((Go.bits .and .i64 a0 4611686018427387903) + (Go.bits .and .i64 a1 2305843009213693951))) ((⟨#[48]⟩ : ByteArray) ++ x11_2) (wrap64 (x12_2 + 1))) else (none)) else ((colophonlaw05_parses.f k2 t178 (wrap64 ((Go.bits .and .i64 a0 4611686018427387903) + (Go.bits .and .i64 a1 2305843009213693951))) (Go.bits .and .i64 a0 4611686018427387903)).bind fun t181 => (if t181 = true then ((colophonlaw05_parses.f k2 x11_2 (wrap64 ((Go.bits .and .i64 a0 4611686018427387903) + (Go.bits .and .i64 a1 2305843009213693951))) (Go.bits .and .i64 a0 4611686018427387903)).bind fun t182 => (if t182 = true then (if (Go.bits .and .i64 a0 4611686018427387903) = 0 then ((colophonlaw05_awake.f k2).bind fun t183 => (some t183)) else ((colophonlaw05_fails.f k2 t178 (wrap64 ((Go.bits .and .i64 a0 4611686018427387903) - 1)) 5).bind fun t184 => (if t184 = true then ((colophonlaw05_awake.f k2).bind fun t185 => (some t185)) else (some false)))) else (some false))) else (some false)))) = some r := H
            have A9 := Aside0.mk A90
            clear A90
            by_cases c10 : x12_2 < t180
            · rw [if_pos c10] at H
              have c10b0 : decide (x12_2 < t180) = true := decide_eq_true c10
              clear c10
              by_cases c11 : 1 + x11_2.size ≤ 9223372036854775807
              · rw [if_pos c11] at H
                have c11b0 := eq_true c11
                have c11b1 : decide (1 + x11_2.size ≤ 9223372036854775807) = true := decide_eq_true c11
                try have c11b2 : (9223372036854775807 < 1 + x11_2.size) = False := eq_false (Nat.not_lt.2 c11)
                have H' := Aside0.mk H
                clear H
                go_wp2_with (first | ((with_reducible refine gate_callee (f := 20) rfl ?_); refine goesL_ (some 34) rfl rfl Tryd.func20 (by kernel_rfl) rfl #[.int .i64 a2, .int .i64 41] rfl (by (try simp only [List.map_toArray, List.map_cons, List.map_nil]); first | done | rfl | (simp only [List.length_drop, List.length_take]; rfl)) ?_; (with_reducible refine (colophonref00_Bring.calls a2 41 t180 _ A9.out).mono ?_); rintro e w' ⟨rfl, ⟨nd, rfl⟩⟩; refine ⟨_, rfl, ?_⟩))
                go_roundg k2
                case measure => have := HJ4.out; have := HK2.out; omega
                case rel => exact ⟨((⟨#[48]⟩ : ByteArray) ++ x11_2), (wrap64 (x12_2 + 1)), (by first | rfl | (simp; done) | (simp [*]; done)), (by first | rfl | (simp; done) | (simp [*]; done)), H', ⟨by have := HJ4.out; have := HK2.out; omega⟩, ⟨by repeat (first | (with_reducible first | exact HB.out | apply below_alloc | apply pw_below_drewN | apply below_drew1) | exact HB.out)⟩⟩
              · rw [if_neg c11] at H
                exact absurd H (by simp)
            · rw [if_neg c10] at H
              have c10b0 : decide (x12_2 < t180) = false := decide_eq_false c10
              clear c10
              replace H := Option.bind_eq_some_iff.mp H
              obtain ⟨t181, A120, H⟩ := H
              replace H : (if t181 = true then ((colophonlaw05_parses.f k2 x11_2 (wrap64 ((Go.bits .and .i64 a0 4611686018427387903) + (Go.bits .and .i64 a1 2305843009213693951))) (Go.bits .and .i64 a0 4611686018427387903)).bind fun t182 => (if t182 = true then (if (Go.bits .and .i64 a0 4611686018427387903) = 0 then ((colophonlaw05_awake.f k2).bind fun t183 => (some t183)) else ((colophonlaw05_fails.f k2 t178 (wrap64 ((Go.bits .and .i64 a0 4611686018427387903) - 1)) 5).bind fun t184 => (if t184 = true then ((colophonlaw05_awake.f k2).bind fun t185 => (some t185)) else (some false)))) else (some false))) else (some false)) = some r := H
              have A12 := Aside0.mk A120
              clear A120
              by_cases c13 : t181 = true
              · subst c13
                have H1 : ((colophonlaw05_parses.f k2 x11_2 (wrap64 ((Go.bits .and .i64 a0 4611686018427387903) + (Go.bits .and .i64 a1 2305843009213693951))) (Go.bits .and .i64 a0 4611686018427387903)).bind fun t182 => (if t182 = true then (if (Go.bits .and .i64 a0 4611686018427387903) = 0 then ((colophonlaw05_awake.f k2).bind fun t183 => (some t183)) else ((colophonlaw05_fails.f k2 t178 (wrap64 ((Go.bits .and .i64 a0 4611686018427387903) - 1)) 5).bind fun t184 => (if t184 = true then ((colophonlaw05_awake.f k2).bind fun t185 => (some t185)) else (some false)))) else (some false))) = some r := by rw [if_pos rfl] at H; exact H
                clear H
                have H := H1
                clear H1
                replace H := Option.bind_eq_some_iff.mp H
                obtain ⟨t182, A140, H⟩ := H
                replace H : (if t182 = true then (if (Go.bits .and .i64 a0 4611686018427387903) = 0 then ((colophonlaw05_awake.f k2).bind fun t183 => (some t183)) else ((colophonlaw05_fails.f k2 t178 (wrap64 ((Go.bits .and .i64 a0 4611686018427387903) - 1)) 5).bind fun t184 => (if t184 = true then ((colophonlaw05_awake.f k2).bind fun t185 => (some t185)) else (some false)))) else (some false)) = some r := H
                have A14 := Aside0.mk A140
                clear A140
                by_cases c15 : t182 = true
                · subst c15
                  have H1 : (if (Go.bits .and .i64 a0 4611686018427387903) = 0 then ((colophonlaw05_awake.f k2).bind fun t183 => (some t183)) else ((colophonlaw05_fails.f k2 t178 (wrap64 ((Go.bits .and .i64 a0 4611686018427387903) - 1)) 5).bind fun t184 => (if t184 = true then ((colophonlaw05_awake.f k2).bind fun t185 => (some t185)) else (some false)))) = some r := by rw [if_pos rfl] at H; exact H
                  clear H
                  have H := H1
                  clear H1
                  by_cases c16 : (Go.bits .and .i64 a0 4611686018427387903) = 0
                  · rw [if_pos c16] at H
                    have c16b0 : ((Go.bits .and .i64 a0 4611686018427387903) == 0) = true := beq_iff_eq.mpr c16
                    have c16b1 : ((Go.bits .and .i64 a0 4611686018427387903) != 0) = false := bne_eq_false_iff_eq.mpr c16
                    clear c16
                    replace H := Option.bind_eq_some_iff.mp H
                    obtain ⟨t183, A170, H⟩ := H
                    replace H : (some t183) = some r := H
                    have A17 := Aside0.mk A170
                    clear A170
                    obtain rfl := Option.some.inj H
                    go_wp2_with (first | ((with_reducible refine gate_callee (f := 20) rfl ?_); refine goesL_ (some 34) rfl rfl Tryd.func20 (by kernel_rfl) rfl #[.int .i64 a2, .int .i64 41] rfl (by (try simp only [List.map_toArray, List.map_cons, List.map_nil]); first | done | rfl | (simp only [List.length_drop, List.length_take]; rfl)) ?_; (with_reducible refine (colophonref00_Bring.calls a2 41 t180 _ A9.out).mono ?_); rintro e w' ⟨rfl, ⟨nd, rfl⟩⟩; refine ⟨_, rfl, ?_⟩) | ((with_reducible refine gate_callee (f := 21) rfl ?_); refine goesL_ (some 43) rfl rfl Tryd.func21 (by kernel_rfl) rfl #[.string t178, .int .i64 (wrap64 ((Go.bits .and .i64 a0 4611686018427387903) + (Go.bits .and .i64 a1 2305843009213693951))), .int .i64 (Go.bits .and .i64 a0 4611686018427387903)] rfl (by (try simp only [List.map_toArray, List.map_cons, List.map_nil]); first | done | rfl | (simp only [List.length_drop, List.length_take]; rfl)) ?_; (with_reducible refine (colophonlaw05_parses.calls k2 t178 (wrap64 ((Go.bits .and .i64 a0 4611686018427387903) + (Go.bits .and .i64 a1 2305843009213693951))) (Go.bits .and .i64 a0 4611686018427387903) true _ A12.out).mono ?_); rintro e w18 ⟨rfl, hb⟩; refine ⟨_, rfl, ?_⟩; have n0_ := Aside0.mk (below_step (by repeat (first | (with_reducible first | exact HB.out | apply below_alloc | apply pw_below_drewN | apply below_drew1) | exact HB.out)) hb); clear HB; have HB := n0_; clear n0_; (try clear hb); (try clear hb2); (try clear hk); (try clear hi)) | (go_at_call 21; (with_reducible refine (colophonlaw05_parses.calls k2 x11_2 (wrap64 ((Go.bits .and .i64 a0 4611686018427387903) + (Go.bits .and .i64 a1 2305843009213693951))) (Go.bits .and .i64 a0 4611686018427387903) true _ A14.out).mono ?_); rintro e w19 ⟨rfl, hb⟩; have n0_ := Aside0.mk (below_step (by repeat (first | (with_reducible first | exact HB.out | apply below_alloc | apply pw_below_drewN | apply below_drew1) | exact HB.out)) hb); clear HB; have HB := n0_; clear n0_; (try clear hb); (try clear hb2); (try clear hk); (try clear hi)) | (go_at_call 15; (with_reducible refine (colophonlaw05_awake.calls k2  t183 _ ?side1 A17.out).mono ?_); (case side1 => exact TAB.below HT.out (by repeat (first | (with_reducible first | exact HB.out | apply below_alloc | apply pw_below_drewN | apply below_drew1) | exact HB.out))); rintro e w20 ⟨rfl, hb⟩; have n0_ := Aside0.mk (below_step (by repeat (first | (with_reducible first | exact HB.out | apply below_alloc | apply pw_below_drewN | apply below_drew1) | exact HB.out)) hb); clear HB; have HB := n0_; clear n0_; (try clear hb); (try clear hb2); (try clear hk); (try clear hi)))
                    go_ret
                    exact ⟨by first | rfl | (simp [errW_none, errW_some] <;> rfl) | (simp [*, errW_none, errW_some] <;> rfl), by repeat (first | (with_reducible first | exact HB.out | apply below_alloc | apply pw_below_drewN | apply below_drew1) | exact HB.out)⟩
                  · rw [if_neg c16] at H
                    have c16b0 : ((Go.bits .and .i64 a0 4611686018427387903) == 0) = false := beq_eq_false_iff_ne.mpr c16
                    have c16b1 : ((Go.bits .and .i64 a0 4611686018427387903) != 0) = true := bne_iff_ne.mpr c16
                    replace H := Option.bind_eq_some_iff.mp H
                    obtain ⟨t184, A210, H⟩ := H
                    replace H : (if t184 = true then ((colophonlaw05_awake.f k2).bind fun t185 => (some t185)) else (some false)) = some r := H
                    have A21 := Aside0.mk A210
                    clear A210
                    by_cases c22 : t184 = true
                    · subst c22
                      have H1 : ((colophonlaw05_awake.f k2).bind fun t185 => (some t185)) = some r := by rw [if_pos rfl] at H; exact H
                      clear H
                      have H := H1
                      clear H1
                      replace H := Option.bind_eq_some_iff.mp H
                      obtain ⟨t185, A230, H⟩ := H
                      replace H : (some t185) = some r := H
                      have A23 := Aside0.mk A230
                      clear A230
                      obtain rfl := Option.some.inj H
                      go_wp2_with (first | ((with_reducible refine gate_callee (f := 20) rfl ?_); refine goesL_ (some 34) rfl rfl Tryd.func20 (by kernel_rfl) rfl #[.int .i64 a2, .int .i64 41] rfl (by (try simp only [List.map_toArray, List.map_cons, List.map_nil]); first | done | rfl | (simp only [List.length_drop, List.length_take]; rfl)) ?_; (with_reducible refine (colophonref00_Bring.calls a2 41 t180 _ A9.out).mono ?_); rintro e w' ⟨rfl, ⟨nd, rfl⟩⟩; refine ⟨_, rfl, ?_⟩) | ((with_reducible refine gate_callee (f := 21) rfl ?_); refine goesL_ (some 43) rfl rfl Tryd.func21 (by kernel_rfl) rfl #[.string t178, .int .i64 (wrap64 ((Go.bits .and .i64 a0 4611686018427387903) + (Go.bits .and .i64 a1 2305843009213693951))), .int .i64 (Go.bits .and .i64 a0 4611686018427387903)] rfl (by (try simp only [List.map_toArray, List.map_cons, List.map_nil]); first | done | rfl | (simp only [List.length_drop, List.length_take]; rfl)) ?_; (with_reducible refine (colophonlaw05_parses.calls k2 t178 (wrap64 ((Go.bits .and .i64 a0 4611686018427387903) + (Go.bits .and .i64 a1 2305843009213693951))) (Go.bits .and .i64 a0 4611686018427387903) true _ A12.out).mono ?_); rintro e w24 ⟨rfl, hb⟩; refine ⟨_, rfl, ?_⟩; have n0_ := Aside0.mk (below_step (by repeat (first | (with_reducible first | exact HB.out | apply below_alloc | apply pw_below_drewN | apply below_drew1) | exact HB.out)) hb); clear HB; have HB := n0_; clear n0_; (try clear hb); (try clear hb2); (try clear hk); (try clear hi)) | (go_at_call 21; (with_reducible refine (colophonlaw05_parses.calls k2 x11_2 (wrap64 ((Go.bits .and .i64 a0 4611686018427387903) + (Go.bits .and .i64 a1 2305843009213693951))) (Go.bits .and .i64 a0 4611686018427387903) true _ A14.out).mono ?_); rintro e w25 ⟨rfl, hb⟩; have n0_ := Aside0.mk (below_step (by repeat (first | (with_reducible first | exact HB.out | apply below_alloc | apply pw_below_drewN | apply below_drew1) | exact HB.out)) hb); clear HB; have HB := n0_; clear n0_; (try clear hb); (try clear hb2); (try clear hk); (try clear hi)) | (go_at_call 22; (with_reducible refine (colophonlaw05_fails.calls k2 t178 (wrap64 ((Go.bits .and .i64 a0 4611686018427387903) - 1)) 5 true _ A21.out).mono ?_); rintro e w26 ⟨rfl, hb⟩; have n0_ := Aside0.mk (below_step (by repeat (first | (with_reducible first | exact HB.out | apply below_alloc | apply pw_below_drewN | apply below_drew1) | exact HB.out)) hb); clear HB; have HB := n0_; clear n0_; (try clear hb); (try clear hb2); (try clear hk); (try clear hi)) | (go_at_call 15; (with_reducible refine (colophonlaw05_awake.calls k2  t185 _ ?side1 A23.out).mono ?_); (case side1 => exact TAB.below HT.out (by repeat (first | (with_reducible first | exact HB.out | apply below_alloc | apply pw_below_drewN | apply below_drew1) | exact HB.out))); rintro e w27 ⟨rfl, hb⟩; have n0_ := Aside0.mk (below_step (by repeat (first | (with_reducible first | exact HB.out | apply below_alloc | apply pw_below_drewN | apply below_drew1) | exact HB.out)) hb); clear HB; have HB := n0_; clear n0_; (try clear hb); (try clear hb2); (try clear hk); (try clear hi)))
                      go_ret
                      exact ⟨by first | rfl | (simp [errW_none, errW_some] <;> rfl) | (simp [*, errW_none, errW_some] <;> rfl), by repeat (first | (with_reducible first | exact HB.out | apply below_alloc | apply pw_below_drewN | apply below_drew1) | exact HB.out)⟩
                    · replace c22 := Bool.eq_false_iff.mpr c22
                      subst c22
                      have H1 : (some false) = some r := by rw [if_neg (show ¬ (false = true) by decide)] at H; exact H
                      clear H
                      have H := H1
                      clear H1
                      obtain rfl := Option.some.inj H
                      go_wp2_with (first | ((with_reducible refine gate_callee (f := 20) rfl ?_); refine goesL_ (some 34) rfl rfl Tryd.func20 (by kernel_rfl) rfl #[.int .i64 a2, .int .i64 41] rfl (by (try simp only [List.map_toArray, List.map_cons, List.map_nil]); first | done | rfl | (simp only [List.length_drop, List.length_take]; rfl)) ?_; (with_reducible refine (colophonref00_Bring.calls a2 41 t180 _ A9.out).mono ?_); rintro e w' ⟨rfl, ⟨nd, rfl⟩⟩; refine ⟨_, rfl, ?_⟩) | ((with_reducible refine gate_callee (f := 21) rfl ?_); refine goesL_ (some 43) rfl rfl Tryd.func21 (by kernel_rfl) rfl #[.string t178, .int .i64 (wrap64 ((Go.bits .and .i64 a0 4611686018427387903) + (Go.bits .and .i64 a1 2305843009213693951))), .int .i64 (Go.bits .and .i64 a0 4611686018427387903)] rfl (by (try simp only [List.map_toArray, List.map_cons, List.map_nil]); first | done | rfl | (simp only [List.length_drop, List.length_take]; rfl)) ?_; (with_reducible refine (colophonlaw05_parses.calls k2 t178 (wrap64 ((Go.bits .and .i64 a0 4611686018427387903) + (Go.bits .and .i64 a1 2305843009213693951))) (Go.bits .and .i64 a0 4611686018427387903) true _ A12.out).mono ?_); rintro e w28 ⟨rfl, hb⟩; refine ⟨_, rfl, ?_⟩; have n0_ := Aside0.mk (below_step (by repeat (first | (with_reducible first | exact HB.out | apply below_alloc | apply pw_below_drewN | apply below_drew1) | exact HB.out)) hb); clear HB; have HB := n0_; clear n0_; (try clear hb); (try clear hb2); (try clear hk); (try clear hi)) | (go_at_call 21; (with_reducible refine (colophonlaw05_parses.calls k2 x11_2 (wrap64 ((Go.bits .and .i64 a0 4611686018427387903) + (Go.bits .and .i64 a1 2305843009213693951))) (Go.bits .and .i64 a0 4611686018427387903) true _ A14.out).mono ?_); rintro e w29 ⟨rfl, hb⟩; have n0_ := Aside0.mk (below_step (by repeat (first | (with_reducible first | exact HB.out | apply below_alloc | apply pw_below_drewN | apply below_drew1) | exact HB.out)) hb); clear HB; have HB := n0_; clear n0_; (try clear hb); (try clear hb2); (try clear hk); (try clear hi)) | (go_at_call 22; (with_reducible refine (colophonlaw05_fails.calls k2 t178 (wrap64 ((Go.bits .and .i64 a0 4611686018427387903) - 1)) 5 false _ A21.out).mono ?_); rintro e w30 ⟨rfl, hb⟩; have n0_ := Aside0.mk (below_step (by repeat (first | (with_reducible first | exact HB.out | apply below_alloc | apply pw_below_drewN | apply below_drew1) | exact HB.out)) hb); clear HB; have HB := n0_; clear n0_; (try clear hb); (try clear hb2); (try clear hk); (try clear hi)))
                      go_ret
                      exact ⟨by first | rfl | (simp [errW_none, errW_some] <;> rfl) | (simp [*, errW_none, errW_some] <;> rfl), by repeat (first | (with_reducible first | exact HB.out | apply below_alloc | apply pw_below_drewN | apply below_drew1) | exact HB.out)⟩
                · replace c15 := Bool.eq_false_iff.mpr c15
                  subst c15
                  have H1 : (some false) = some r := by rw [if_neg (show ¬ (false = true) by decide)] at H; exact H
                  clear H
                  have H := H1
                  clear H1
                  obtain rfl := Option.some.inj H
                  go_wp2_with (first | ((with_reducible refine gate_callee (f := 20) rfl ?_); refine goesL_ (some 34) rfl rfl Tryd.func20 (by kernel_rfl) rfl #[.int .i64 a2, .int .i64 41] rfl (by (try simp only [List.map_toArray, List.map_cons, List.map_nil]); first | done | rfl | (simp only [List.length_drop, List.length_take]; rfl)) ?_; (with_reducible refine (colophonref00_Bring.calls a2 41 t180 _ A9.out).mono ?_); rintro e w' ⟨rfl, ⟨nd, rfl⟩⟩; refine ⟨_, rfl, ?_⟩) | ((with_reducible refine gate_callee (f := 21) rfl ?_); refine goesL_ (some 43) rfl rfl Tryd.func21 (by kernel_rfl) rfl #[.string t178, .int .i64 (wrap64 ((Go.bits .and .i64 a0 4611686018427387903) + (Go.bits .and .i64 a1 2305843009213693951))), .int .i64 (Go.bits .and .i64 a0 4611686018427387903)] rfl (by (try simp only [List.map_toArray, List.map_cons, List.map_nil]); first | done | rfl | (simp only [List.length_drop, List.length_take]; rfl)) ?_; (with_reducible refine (colophonlaw05_parses.calls k2 t178 (wrap64 ((Go.bits .and .i64 a0 4611686018427387903) + (Go.bits .and .i64 a1 2305843009213693951))) (Go.bits .and .i64 a0 4611686018427387903) true _ A12.out).mono ?_); rintro e w31 ⟨rfl, hb⟩; refine ⟨_, rfl, ?_⟩; have n0_ := Aside0.mk (below_step (by repeat (first | (with_reducible first | exact HB.out | apply below_alloc | apply pw_below_drewN | apply below_drew1) | exact HB.out)) hb); clear HB; have HB := n0_; clear n0_; (try clear hb); (try clear hb2); (try clear hk); (try clear hi)) | (go_at_call 21; (with_reducible refine (colophonlaw05_parses.calls k2 x11_2 (wrap64 ((Go.bits .and .i64 a0 4611686018427387903) + (Go.bits .and .i64 a1 2305843009213693951))) (Go.bits .and .i64 a0 4611686018427387903) false _ A14.out).mono ?_); rintro e w32 ⟨rfl, hb⟩; have n0_ := Aside0.mk (below_step (by repeat (first | (with_reducible first | exact HB.out | apply below_alloc | apply pw_below_drewN | apply below_drew1) | exact HB.out)) hb); clear HB; have HB := n0_; clear n0_; (try clear hb); (try clear hb2); (try clear hk); (try clear hi)))
                  go_ret
                  exact ⟨by first | rfl | (simp [errW_none, errW_some] <;> rfl) | (simp [*, errW_none, errW_some] <;> rfl), by repeat (first | (with_reducible first | exact HB.out | apply below_alloc | apply pw_below_drewN | apply below_drew1) | exact HB.out)⟩
              · replace c13 := Bool.eq_false_iff.mpr c13
                subst c13
                have H1 : (some false) = some r := by rw [if_neg (show ¬ (false = true) by decide)] at H; exact H
                clear H
                have H := H1
                clear H1
                obtain rfl := Option.some.inj H
                go_wp2_with (first | ((with_reducible refine gate_callee (f := 20) rfl ?_); refine goesL_ (some 34) rfl rfl Tryd.func20 (by kernel_rfl) rfl #[.int .i64 a2, .int .i64 41] rfl (by (try simp only [List.map_toArray, List.map_cons, List.map_nil]); first | done | rfl | (simp only [List.length_drop, List.length_take]; rfl)) ?_; (with_reducible refine (colophonref00_Bring.calls a2 41 t180 _ A9.out).mono ?_); rintro e w' ⟨rfl, ⟨nd, rfl⟩⟩; refine ⟨_, rfl, ?_⟩) | ((with_reducible refine gate_callee (f := 21) rfl ?_); refine goesL_ (some 43) rfl rfl Tryd.func21 (by kernel_rfl) rfl #[.string t178, .int .i64 (wrap64 ((Go.bits .and .i64 a0 4611686018427387903) + (Go.bits .and .i64 a1 2305843009213693951))), .int .i64 (Go.bits .and .i64 a0 4611686018427387903)] rfl (by (try simp only [List.map_toArray, List.map_cons, List.map_nil]); first | done | rfl | (simp only [List.length_drop, List.length_take]; rfl)) ?_; (with_reducible refine (colophonlaw05_parses.calls k2 t178 (wrap64 ((Go.bits .and .i64 a0 4611686018427387903) + (Go.bits .and .i64 a1 2305843009213693951))) (Go.bits .and .i64 a0 4611686018427387903) false _ A12.out).mono ?_); rintro e w33 ⟨rfl, hb⟩; refine ⟨_, rfl, ?_⟩; have n0_ := Aside0.mk (below_step (by repeat (first | (with_reducible first | exact HB.out | apply below_alloc | apply pw_below_drewN | apply below_drew1) | exact HB.out)) hb); clear HB; have HB := n0_; clear n0_; (try clear hb); (try clear hb2); (try clear hk); (try clear hi)))
                go_ret
                exact ⟨by first | rfl | (simp [errW_none, errW_some] <;> rfl) | (simp [*, errW_none, errW_some] <;> rfl), by repeat (first | (with_reducible first | exact HB.out | apply below_alloc | apply pw_below_drewN | apply below_drew1) | exact HB.out)⟩

/-- THE ONE PURE STATEMENT of colophonlaw05_DigitsBack: yours. -/
def colophonlaw05_DigitsBack.Pure : Prop := ∀ (a0 : Int) (a1 : Int) (a2 : Int), (Lit.int .i64 a0).wf = true → (Lit.int .i64 a1).wf = true → (Lit.int .i64 a2).wf = true → ∃ k, colophonlaw05_DigitsBack.f k a0 a1 a2 = some true
theorem colophonlaw05_DigitsBack.walk (P : colophonlaw05_DigitsBack.Pure) (a0 : Int) (a1 : Int) (a2 : Int) (w : World) (w0 : (Lit.int .i64 a0).wf = true) (w1 : (Lit.int .i64 a1).wf = true) (w2 : (Lit.int .i64 a2).wf = true) (hT : TAB w) :
    Calls Tryd.prog 6 #[.int .i64 a0, .int .i64 a1, .int .i64 a2] w fun e w' => e = .returned (.bool true) ∧ Below w.heap.size w w' := by
  obtain ⟨k, h⟩ := P a0 a1 a2 w0 w1 w2
  refine (colophonlaw05_DigitsBack.calls k a0 a1 a2 true w hT h).mono ?_
  rintro e w' ⟨rfl, hd⟩
  exact ⟨rfl, hd⟩

end Go.Proofs.YtfpjlpgebhgfkaaDoor.P
