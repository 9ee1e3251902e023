-- Written by xprint.py (a program of this work) over the kit's printer. Not trusted: Lean checks it.
import Derived.Test.YtfpjlpgebhgfkaaDoorP0
import Derived.Test.YtfpjlpgebhgfkaaDoorP3
namespace Go.Proofs.YtfpjlpgebhgfkaaDoor.P
open Go.RowKit Go.Proofs.YtfpjlpgebhgfkaaDoorW.PrintWords Go.Proofs.YtfpjlpgebhgfkaaDoorW.PrintLast Go.Proofs.YtfpjlpgebhgfkaaDoorW.PrintMore
attribute [local go_sem] max2_int min2_int max_two min_two max_three min_three max_four min_four   -- for this text's walks alone
set_option linter.unusedVariables false
set_option linter.unusedSimpArgs false

/-! ### colophonlaw05_DigitsAnew: function 7 -/
mutual
def colophonlaw05_DigitsAnew.j1 : Nat → List Int → Option (Bool)
  | 0, _ => none
  | k + 1, x3 => if (x3.length : Int) = 0 then ((colophonlaw05_fails.f k (⟨#[]⟩ : ByteArray) 9 4).bind fun t190 => (if t190 = true then ((colophonlaw05_awake.f k).bind fun t191 => (some t191)) else (some false))) else ((digits_Parse.f k x3 4611686018427387904).bind fun bt192 => ((digits_Text.f bt192.1).bind fun bt194 => (colophonlaw05_DigitsAnew.l1 k x3 bt192.2 bt194.1 bt194.2 0)))
def colophonlaw05_DigitsAnew.l1 : Nat → List Int → Int → ByteArray → Int → Int → Option (Bool)
  | 0, _, _, _, _, _ => none
  | k + 1, x3, x6, x7, x8, x9 => if x9 < (wrap64 ((x3.length : Int) - 1)) then (if 0 ≤ x9 then (if x9 < (x3.length : Int) then (if (rd x3 x9) = 48 then (colophonlaw05_DigitsAnew.l1 k x3 x6 x7 x8 (wrap64 (x9 + 1))) else (if x6 = 0 then (if x8 = 0 then (if x9 ≤ (x3.length : Int) then (if x7.toList = (strOfNums (x3.drop (x9 : Int).toNat)).toList then ((colophonlaw05_awake.f k).bind fun t201 => (some t201)) else (some false)) else (none)) else (some false)) else (some false))) else (none)) else (none)) else (if x6 = 0 then (if x8 = 0 then (if 0 ≤ x9 then (if x9 ≤ (x3.length : Int) then (if x7.toList = (strOfNums (x3.drop (x9 : Int).toNat)).toList then ((colophonlaw05_awake.f k).bind fun t206 => (some t206)) else (some false)) else (none)) else (none)) else (some false)) else (some false))
def colophonlaw05_DigitsAnew.l0 : Nat → List Int → List Int → Int → Option (Bool)
  | 0, _, _, _ => none
  | k + 1, x0, x3, x4 => if x4 < (x0.length : Int) then (if (x3.length : Int) < 18 then (if 0 ≤ x4 then (if x3.length < 140737488355328 then (colophonlaw05_DigitsAnew.l0 k x0 (x3 ++ [(48 + (Int.tmod (rd x0 x4) 10)) % 256]) (wrap64 (x4 + 1))) else (none)) else (none)) else (colophonlaw05_DigitsAnew.j1 k x3)) else (colophonlaw05_DigitsAnew.j1 k x3)
end
def colophonlaw05_DigitsAnew.f (k : Nat) (l0 : List Int) : Option (Bool) := colophonlaw05_DigitsAnew.l0 k l0 ([] : List Int) 0
theorem colophonlaw05_DigitsAnew.mono_l : ∀ k, (∀ y0, LeO (colophonlaw05_DigitsAnew.j1 k y0) (colophonlaw05_DigitsAnew.j1 (k + 1) y0)) ∧ (∀ y0 y1 y2 y3 y4, LeO (colophonlaw05_DigitsAnew.l1 k y0 y1 y2 y3 y4) (colophonlaw05_DigitsAnew.l1 (k + 1) y0 y1 y2 y3 y4)) ∧ (∀ y0 y1 y2, LeO (colophonlaw05_DigitsAnew.l0 k y0 y1 y2) (colophonlaw05_DigitsAnew.l0 (k + 1) y0 y1 y2))
  | 0 => ⟨fun _ r h => by simp [colophonlaw05_DigitsAnew.j1] at h, fun _ _ _ _ _ r h => by simp [colophonlaw05_DigitsAnew.l1] at h, fun _ _ _ r h => by simp [colophonlaw05_DigitsAnew.l0] at h⟩
  | k + 1 => by
    obtain ⟨ih0, ih1, ih2⟩ := colophonlaw05_DigitsAnew.mono_l k
    refine ⟨?_, ?_, ?_⟩
    · intro y0
      unfold colophonlaw05_DigitsAnew.j1
      repeat' first
      | (with_reducible exact ih0 _)
      | (with_reducible exact ih1 _ _ _ _ _)
      | (with_reducible exact ih2 _ _ _)
      | (with_reducible exact colophonlaw05_awake.mono _)
      | (with_reducible exact colophonlaw05_fails.mono _ _ _ _)
      | (with_reducible exact digits_Parse.mono _ _ _)
      | (with_reducible exact LeO.refl _)
      | (with_reducible exact LeO.none _)
      | (with_reducible refine LeO.ite ?_ ?_)
      | (with_reducible refine LeO.bind ?_ (fun _ => ?_))
      | exact ih0 _
      | exact ih1 _ _ _ _ _
      | exact ih2 _ _ _
      | exact colophonlaw05_awake.mono _
      | exact colophonlaw05_fails.mono _ _ _ _
      | exact digits_Parse.mono _ _ _
      | exact LeO.none _
      | refine LeO.ite ?_ ?_
      | refine LeO.bind ?_ (fun _ => ?_)
    · intro y0 y1 y2 y3 y4
      unfold colophonlaw05_DigitsAnew.l1
      repeat' first
      | (with_reducible exact ih0 _)
      | (with_reducible exact ih1 _ _ _ _ _)
      | (with_reducible exact ih2 _ _ _)
      | (with_reducible exact colophonlaw05_awake.mono _)
      | (with_reducible exact colophonlaw05_fails.mono _ _ _ _)
      | (with_reducible exact digits_Parse.mono _ _ _)
      | (with_reducible exact LeO.refl _)
      | (with_reducible exact LeO.none _)
      | (with_reducible refine LeO.ite ?_ ?_)
      | (with_reducible refine LeO.bind ?_ (fun _ => ?_))
      | exact ih0 _
      | exact ih1 _ _ _ _ _
      | exact ih2 _ _ _
      | exact colophonlaw05_awake.mono _
      | exact colophonlaw05_fails.mono _ _ _ _
      | exact digits_Parse.mono _ _ _
      | exact LeO.none _
      | refine LeO.ite ?_ ?_
      | refine LeO.bind ?_ (fun _ => ?_)
    · intro y0 y1 y2
      unfold colophonlaw05_DigitsAnew.l0
      repeat' first
      | (with_reducible exact ih0 _)
      | (with_reducible exact ih1 _ _ _ _ _)
      | (with_reducible exact ih2 _ _ _)
      | (with_reducible exact colophonlaw05_awake.mono _)
      | (with_reducible exact colophonlaw05_fails.mono _ _ _ _)
      | (with_reducible exact digits_Parse.mono _ _ _)
      | (with_reducible exact LeO.refl _)
      | (with_reducible exact LeO.none _)
      | (with_reducible refine LeO.ite ?_ ?_)
      | (with_reducible refine LeO.bind ?_ (fun _ => ?_))
      | exact ih0 _
      | exact ih1 _ _ _ _ _
      | exact ih2 _ _ _
      | exact colophonlaw05_awake.mono _
      | exact colophonlaw05_fails.mono _ _ _ _
      | exact digits_Parse.mono _ _ _
      | exact LeO.none _
      | refine LeO.ite ?_ ?_
      | refine LeO.bind ?_ (fun _ => ?_)
theorem colophonlaw05_DigitsAnew.mono : ∀ a0 k, LeO (colophonlaw05_DigitsAnew.f k a0) (colophonlaw05_DigitsAnew.f (k + 1) a0) := by
  intro a0 k
  obtain ⟨ih0, ih1, ih2⟩ := colophonlaw05_DigitsAnew.mono_l k
  unfold colophonlaw05_DigitsAnew.f
  repeat' first
      | (with_reducible exact ih0 _)
      | (with_reducible exact ih1 _ _ _ _ _)
      | (with_reducible exact ih2 _ _ _)
      | (with_reducible exact colophonlaw05_awake.mono _)
      | (with_reducible exact colophonlaw05_fails.mono _ _ _ _)
      | (with_reducible exact digits_Parse.mono _ _ _)
      | (with_reducible exact LeO.refl _)
      | (with_reducible exact LeO.none _)
      | (with_reducible refine LeO.ite ?_ ?_)
      | (with_reducible refine LeO.bind ?_ (fun _ => ?_))
      | exact ih0 _
      | exact ih1 _ _ _ _ _
      | exact ih2 _ _ _
      | exact colophonlaw05_awake.mono _
      | exact colophonlaw05_fails.mono _ _ _ _
      | exact digits_Parse.mono _ _ _
      | exact LeO.none _
      | refine LeO.ite ?_ ?_
      | refine LeO.bind ?_ (fun _ => ?_)
set_option maxHeartbeats 8000000 in
set_option maxRecDepth 100000 in
theorem colophonlaw05_DigitsAnew.calls (k : Nat) (A0 : Option Addr) (c0 : Nat) (l0 : List Int) (r : Bool) (w : World) (hr0 : Kd.C (Kd.int .u8) w A0 l0.length l0) (hc0 : l0.length ≤ c0) (hT : TAB w) (h : colophonlaw05_DigitsAnew.f k l0 = some r) :
    Calls Tryd.prog 7 #[.slice A0 l0.length c0] w fun e w' => e = .returned (.bool r) ∧ Below w.heap.size w w' := by
  have HR0 := Aside0.mk hr0
  have HC0 := Aside0.mk hc0
  clear hr0 hc0
  have HT := Aside0.mk hT
  clear hT
  have HB := Aside0.mk (Below.refl w.heap.size w)
  have H : (colophonlaw05_DigitsAnew.l0 k l0 ([] : List Int) 0) = some r := h
  clear h
  have HC2 := Aside0.mk H
  clear H
  go_enter Tryd.func7, Tryd.ntmps7
  go_upto_block 0 with (fail)
  go_cut [3] (fun v3 wc => ∃ (kq : Nat) (x3_1 : List Int), Aside0 (colophonlaw05_DigitsAnew.j1 kq x3_1 = some r) ∧ Aside0 (kq ≤ k) ∧ Aside0 (Kd.R (Kd.int .u8) 5 wc w.heap.size (fun _ => True) v3 x3_1) ∧ Aside0 (Below w.heap.size w wc))
  case first =>
    have H := HC2.out
    clear HC2
    have H' := Aside0.mk H
    clear H
    go_wp2
    go_loopg [3, 4] k (fun kq v3 v4 w' => ∃ (x3_1 : List Int) (x4_1 : Int), v4 = .int .i64 x4_1 ∧ Aside0 (colophonlaw05_DigitsAnew.l0 kq l0 x3_1 x4_1 = some r) ∧ Aside0 (kq ≤ k) ∧ Aside0 (Kd.R (Kd.int .u8) 5 w' w.heap.size (fun _ => True) v3 x3_1) ∧ Aside0 (Below w.heap.size w w'))
    case atStart => exact ⟨(([] : List Int)), (0), (by first | rfl | (simp; done) | (simp [*]; done)), H', ⟨Nat.le_refl _⟩, ⟨by first | exact Kd.R_nil _ _ _ _ _ | exact Kd.N_nil _ _ _ _ _ | exact Kd.V_nil _ _ _ _ _ | exact Kd.Q_nil _ _ _ _ _ | exact Kd.S_nil _ _ _ _ _⟩, ⟨by repeat (first | (with_reducible first | exact HB.out | apply below_alloc | apply pw_below_drewN | apply below_drew1) | exact HB.out)⟩⟩
    case round =>
      clear H'
      try clear p2
      obtain ⟨x3_1, x4_1, rfl, HA, HK1, HO_3, HB⟩ := hrel
      cases gk with
      | zero => exact absurd HA.out (by simp [colophonlaw05_DigitsAnew.l0])
      | succ k1 =>
        have H := HA.out
        clear HA
        simp only [colophonlaw05_DigitsAnew.l0] at H
        by_cases c3 : x4_1 < (l0.length : Int)
        · rw [if_pos c3] at H
          have c3b0 : decide (x4_1 < (l0.length : Int)) = true := decide_eq_true c3
          clear c3
          (first | rw [c3b0] | (simp only [i64_w, i32_w]; rw [c3b0]) | skip)
          by_cases c4 : (x3_1.length : Int) < 18
          · rw [if_pos c4] at H
            have c4b0 : decide ((x3_1.length : Int) < 18) = true := decide_eq_true c4
            have c4b1 : decide (x3_1.length < 18) = true := decide_eq_true (by omega)
            clear c4
            by_cases c5 : 0 ≤ x4_1
            · rw [if_pos c5] at H
              have c5b0 : decide (0 ≤ x4_1) = true := decide_eq_true c5
              clear c5
              by_cases c6 : x3_1.length < 140737488355328
              · rw [if_pos c6] at H
                have LMc6 := Aside0.mk c6
                clear c6
                obtain ⟨y187, hy187⟩ : ∃ y_ : List Int, y_ = (x3_1 ++ [(48 + (Int.tmod (rd l0 x4_1) 10)) % 256]) := ⟨_, rfl⟩
                replace H : (colophonlaw05_DigitsAnew.l0 k1 l0 y187 (wrap64 (x4_1 + 1))) = some r := by first | (rw [hy187]; with_reducible exact H) | (have H2_ := (Option.bind_some _ _).symm.trans H; rw [hy187]; with_reducible exact H2_) | (have H2_ := (Option.bind_some _ _).symm.trans H; with_reducible exact H2_) | with_reducible exact H | (rw [hy187]; exact H) | exact H
                have Ny187 := Aside0.mk hy187
                clear hy187
                have H' := Aside0.mk H
                clear H
                obtain ⟨Ao7, co7, eo7⟩ := Kd.R_slice HO_3.out
                subst eo7
                have p186 : 0 ≤ (x4_1 : Int) := of_decide_eq_true (by first | (with_reducible assumption) | assumption)
                have q186 : x4_1 < (l0.length : Int) := of_decide_eq_true (by first | (with_reducible assumption) | assumption)
                obtain ⟨ad186, e186, hx186_0⟩ := Kd.at_int HR0.out x4_1 p186 q186
                cases e186
                replace hx186_0 := (HB.out.cell (World.block_lt_of_cell? w _ hx186_0)).trans hx186_0
                replace p186 := eq_true p186
                replace q186 := eq_true q186
                go_wp2_with (first | ((with_reducible refine gate_builtin (b := .append) (xs := #[.tmp 21, .tmp 28]) rfl ?_); (try (refine gate_guard (by rfl) ?_; dsimp only)); at_builtin; refine Kd.R_append (Kd.int .u8) (w0 := w) w.heap.size rfl (.tmp 21) (.tmp 28) 22 5 (.int .u8 0) 1 rfl Tryd.underlying22 info5 rfl (by decide) (by omega) (.slice Ao7 x3_1.length co7) x3_1 ((48 + (Int.tmod (rd l0 x4_1) 10)) % 256) [.int .u8 ((48 + (Int.tmod (rd l0 x4_1) 10)) % 256)] (fun _ => True) (fun _ => False) rfl rfl ?aP (fun _ hk => hk.elim) ?aF ?aO ?aB ?aS ?aL ?_; (case aP => exact rfl); (case aB => exact (by repeat (first | (with_reducible first | exact HB.out | apply below_alloc | apply pw_below_drewN | apply below_drew1) | exact HB.out))); (case aF => exact (fun _ _ => trivial)); (case aO => exact (by (with_reducible repeat (first | apply Kd.R_alloc | apply Kd.R_drewN | apply Kd.R_drew)); exact HO_3.out)); (case aS => exact (below_size (by repeat (first | (with_reducible first | exact HB.out | apply below_alloc | apply pw_below_drewN | apply below_drew1) | exact HB.out)))); (case aL => have := LMc6.out; omega); intro v188 w8 ho hb hg hat; rw [← Ny187.out] at ho; have n0_ := Aside0.mk (hb); have n1_ := Aside0.mk (ho); clear HB; clear HO_3; have HB := n0_; have HO189 := n1_; clear n0_ n1_; clear ho hb hg hat))
                go_roundg k1
                case measure => have := HK1.out; omega
                case rel => exact ⟨(y187), (wrap64 (x4_1 + 1)), (by first | rfl | (simp; done) | (simp [*]; done)), H', ⟨by have := HK1.out; omega⟩, ⟨by (with_reducible repeat (first | apply Kd.R_alloc | apply Kd.R_drewN | apply Kd.R_drew)); exact HO189.out⟩, ⟨by repeat (first | (with_reducible first | exact HB.out | apply below_alloc | apply pw_below_drewN | apply below_drew1) | exact HB.out)⟩⟩
              · rw [if_neg c6] at H
                exact absurd H (by simp)
            · rw [if_neg c5] at H
              exact absurd H (by simp)
          · rw [if_neg c4] at H
            have c4b0 : decide ((x3_1.length : Int) < 18) = false := decide_eq_false c4
            have c4b1 : decide (x3_1.length < 18) = false := decide_eq_false (by omega)
            clear c4
            have H' := Aside0.mk H
            clear H
            obtain ⟨Ao9, co9, eo9⟩ := Kd.R_slice HO_3.out
            subst eo9
            go_wp2
            go_meet
            case rel => exact ⟨_, (x3_1), H', ⟨by have := HK1.out; first | omega | exact Nat.le_refl _⟩, ⟨by (with_reducible repeat (first | apply Kd.R_alloc | apply Kd.R_drewN | apply Kd.R_drew)); exact HO_3.out⟩, ⟨by repeat (first | (with_reducible first | exact HB.out | apply below_alloc | apply pw_below_drewN | apply below_drew1) | exact HB.out)⟩⟩
        · rw [if_neg c3] at H
          have c3b0 : decide (x4_1 < (l0.length : Int)) = false := decide_eq_false c3
          clear c3
          (first | rw [c3b0] | (simp only [i64_w, i32_w]; rw [c3b0]) | skip)
          have H' := Aside0.mk H
          clear H
          go_wp2
          go_meet
          case rel => exact ⟨_, (x3_1), H', ⟨by have := HK1.out; first | omega | exact Nat.le_refl _⟩, ⟨by (with_reducible repeat (first | apply Kd.R_alloc | apply Kd.R_drewN | apply Kd.R_drew)); exact HO_3.out⟩, ⟨by repeat (first | (with_reducible first | exact HB.out | apply below_alloc | apply pw_below_drewN | apply below_drew1) | exact HB.out)⟩⟩
  case rest =>
    clear HC2
    try clear p1
    try clear q1
    try clear hx1
    try clear p2
    try clear c3
    try clear c3b0
    try clear c4
    try clear c4b0
    try clear c4b1
    try clear c5
    try clear c5b0
    try clear c6
    try clear p6
    try clear c7
    try clear hx186_0
    try clear p186
    try clear p2
    try clear q186
    obtain ⟨kq, x3_1, HA, HJ1, HO_3, HB⟩ := hcut
    cases kq with
    | zero => exact absurd HA.out (by simp [colophonlaw05_DigitsAnew.j1])
    | succ kj1 =>
      have H := HA.out
      clear HA
      simp only [colophonlaw05_DigitsAnew.j1] at H
      by_cases c10 : (x3_1.length : Int) = 0
      · rw [if_pos c10] at H
        have c10b0 : ((x3_1.length : Int) == 0) = true := beq_iff_eq.mpr c10
        have c10b1 : ((x3_1.length : Int) != 0) = false := bne_eq_false_iff_eq.mpr c10
        clear c10
        replace H := Option.bind_eq_some_iff.mp H
        obtain ⟨t190, A110, H⟩ := H
        replace H : (if t190 = true then ((colophonlaw05_awake.f kj1).bind fun t191 => (some t191)) else (some false)) = some r := H
        have A11 := Aside0.mk A110
        clear A110
        by_cases c12 : t190 = true
        · subst c12
          have H1 : ((colophonlaw05_awake.f kj1).bind fun t191 => (some t191)) = some r := by rw [if_pos rfl] at H; exact H
          clear H
          have H := H1
          clear H1
          replace H := Option.bind_eq_some_iff.mp H
          obtain ⟨t191, A130, H⟩ := H
          replace H : (some t191) = some r := H
          have A13 := Aside0.mk A130
          clear A130
          obtain rfl := Option.some.inj H
          obtain ⟨Ao14, co14, eo14⟩ := Kd.R_slice HO_3.out
          subst eo14
          go_wp2_with (first | ((with_reducible refine gate_callee (f := 22) rfl ?_); refine goesL_ (some 33) rfl rfl Tryd.func22 (by kernel_rfl) rfl #[.string (⟨#[]⟩ : ByteArray), .int .i64 9, .int .i64 4] rfl (by (try simp only [List.map_toArray, List.map_cons, List.map_nil]); first | done | rfl | (simp only [List.length_drop, List.length_take]; rfl)) ?_; (with_reducible refine (colophonlaw05_fails.calls kj1 (⟨#[]⟩ : ByteArray) 9 4 true _ A11.out).mono ?_); rintro e w15 ⟨rfl, hb⟩; refine ⟨_, rfl, ?_⟩; have n0_ := Aside0.mk (Kd.R_below (by (with_reducible repeat (first | apply Kd.R_alloc | apply Kd.R_drewN | apply Kd.R_drew)); exact HO_3.out) hb); have n1_ := Aside0.mk (below_step (by repeat (first | (with_reducible first | exact HB.out | apply below_alloc | apply pw_below_drewN | apply below_drew1) | exact HB.out)) hb); clear HO_3; clear HB; have HO_3 := n0_; have HB := n1_; clear n0_ n1_; (try clear hb); (try clear hb2); (try clear hk); (try clear hi)) | (go_at_call 15; (with_reducible refine (colophonlaw05_awake.calls kj1  t191 _ ?side1 A13.out).mono ?_); (case side1 => exact TAB.below HT.out (by repeat (first | (with_reducible first | exact HB.out | apply below_alloc | apply pw_below_drewN | apply below_drew1) | exact HB.out))); rintro e w16 ⟨rfl, hb⟩; have n0_ := Aside0.mk (Kd.R_below (by (with_reducible repeat (first | apply Kd.R_alloc | apply Kd.R_drewN | apply Kd.R_drew)); exact HO_3.out) hb); have n1_ := Aside0.mk (below_step (by repeat (first | (with_reducible first | exact HB.out | apply below_alloc | apply pw_below_drewN | apply below_drew1) | exact HB.out)) hb); clear HO_3; clear HB; have HO_3 := n0_; have HB := n1_; clear n0_ n1_; (try clear hb); (try clear hb2); (try clear hk); (try clear hi)))
          go_ret
          exact ⟨by first | rfl | (simp [errW_none, errW_some] <;> rfl) | (simp [*, errW_none, errW_some] <;> rfl), by repeat (first | (with_reducible first | exact HB.out | apply below_alloc | apply pw_below_drewN | apply below_drew1) | exact HB.out)⟩
        · replace c12 := Bool.eq_false_iff.mpr c12
          subst c12
          have H1 : (some false) = some r := by rw [if_neg (show ¬ (false = true) by decide)] at H; exact H
          clear H
          have H := H1
          clear H1
          obtain rfl := Option.some.inj H
          obtain ⟨Ao17, co17, eo17⟩ := Kd.R_slice HO_3.out
          subst eo17
          go_wp2_with (first | ((with_reducible refine gate_callee (f := 22) rfl ?_); refine goesL_ (some 33) rfl rfl Tryd.func22 (by kernel_rfl) rfl #[.string (⟨#[]⟩ : ByteArray), .int .i64 9, .int .i64 4] rfl (by (try simp only [List.map_toArray, List.map_cons, List.map_nil]); first | done | rfl | (simp only [List.length_drop, List.length_take]; rfl)) ?_; (with_reducible refine (colophonlaw05_fails.calls kj1 (⟨#[]⟩ : ByteArray) 9 4 false _ A11.out).mono ?_); rintro e w18 ⟨rfl, hb⟩; refine ⟨_, rfl, ?_⟩; have n0_ := Aside0.mk (Kd.R_below (by (with_reducible repeat (first | apply Kd.R_alloc | apply Kd.R_drewN | apply Kd.R_drew)); exact HO_3.out) hb); have n1_ := Aside0.mk (below_step (by repeat (first | (with_reducible first | exact HB.out | apply below_alloc | apply pw_below_drewN | apply below_drew1) | exact HB.out)) hb); clear HO_3; clear HB; have HO_3 := n0_; have HB := n1_; clear n0_ n1_; (try clear hb); (try clear hb2); (try clear hk); (try clear hi)))
          go_ret
          exact ⟨by first | rfl | (simp [errW_none, errW_some] <;> rfl) | (simp [*, errW_none, errW_some] <;> rfl), by repeat (first | (with_reducible first | exact HB.out | apply below_alloc | apply pw_below_drewN | apply below_drew1) | exact HB.out)⟩
      · rw [if_neg c10] at H
        have c10b0 : ((x3_1.length : Int) == 0) = false := beq_eq_false_iff_ne.mpr c10
        have c10b1 : ((x3_1.length : Int) != 0) = true := bne_iff_ne.mpr c10
        have c10b2 : ¬ (x3_1 = []) := fun h_ => c10 (by rw [h_]; rfl)
        replace H := Option.bind_eq_some_iff.mp H
        obtain ⟨⟨t192, t193⟩, A190, H⟩ := H
        replace H : ((digits_Text.f t192).bind fun bt194 => (colophonlaw05_DigitsAnew.l1 kj1 x3_1 t193 bt194.1 bt194.2 0)) = some r := H
        have A19 := Aside0.mk A190
        clear A190
        replace H := Option.bind_eq_some_iff.mp H
        obtain ⟨⟨t194, t195⟩, A200, H⟩ := H
        replace H : (colophonlaw05_DigitsAnew.l1 kj1 x3_1 t193 t194 t195 0) = some r := H
        have A20 := Aside0.mk A200
        clear A200
        have H' := Aside0.mk H
        clear H
        obtain ⟨Ao21, co21, eo21⟩ := Kd.R_slice HO_3.out
        subst eo21
        go_wp2_with (first | ((with_reducible refine gate_callee (f := 16) rfl ?_); refine goesL_ (some 39) rfl rfl Tryd.func16 (by kernel_rfl) rfl #[.slice Ao21 x3_1.length co21, .int .i64 4611686018427387904] rfl (by (try simp only [List.map_toArray, List.map_cons, List.map_nil]); first | done | rfl | (simp only [List.length_drop, List.length_take]; rfl)) ?_; (with_reducible refine (digits_Parse.calls kj1 _ _ x3_1 4611686018427387904 t192 t193 _ ?side1 ?side2 A19.out).mono ?_); (case side1 => repeat (first | exact (Kd.R_reads' HO_3.out).2.2 | (with_reducible refine Kd.C_alloc ?_ _) | (with_reducible refine Kd.C_drewN ?_ _) | (with_reducible refine Kd.C_drew ?_))); (case side2 => exact (Kd.R_reads' HO_3.out).2.1); rintro e w' ⟨rfl, ⟨nd, rfl⟩⟩; refine ⟨_, rfl, ?_⟩) | ((with_reducible refine gate_callee (f := 18) rfl ?_); refine goesL_ (some 44) rfl rfl Tryd.func18 (by kernel_rfl) rfl #[.int .i64 t192] rfl (by (try simp only [List.map_toArray, List.map_cons, List.map_nil]); first | done | rfl | (simp only [List.length_drop, List.length_take]; rfl)) ?_; (with_reducible refine (digits_Text.calls t192 t194 t195 _ ?side1 A20.out).mono ?_); (case side1 => exact TAB.below HT.out (by repeat (first | (with_reducible first | exact HB.out | apply below_alloc | apply pw_below_drewN | apply below_drew1) | exact HB.out))); rintro e w22 ⟨rfl, hb⟩; refine ⟨_, rfl, ?_⟩; have n0_ := Aside0.mk (Kd.R_below (by (with_reducible repeat (first | apply Kd.R_alloc | apply Kd.R_drewN | apply Kd.R_drew)); exact HO_3.out) hb); have n1_ := Aside0.mk (below_step (by repeat (first | (with_reducible first | exact HB.out | apply below_alloc | apply pw_below_drewN | apply below_drew1) | exact HB.out)) hb); clear HO_3; clear HB; have HO_3 := n0_; have HB := n1_; clear n0_ n1_; (try clear hb); (try clear hb2); (try clear hk); (try clear hi)))
        go_loopg [9] kj1 (fun kq v9 w' => ∃ (x9_2 : Int), v9 = .int .i64 x9_2 ∧ Aside0 (colophonlaw05_DigitsAnew.l1 kq x3_1 t193 t194 t195 x9_2 = some r) ∧ Aside0 (kq ≤ kj1) ∧ Aside0 (Kd.R (Kd.int .u8) 5 w' w.heap.size (fun _ => True) (.slice Ao21 x3_1.length co21) x3_1) ∧ Aside0 (Below w.heap.size w w'))
        case atStart => exact ⟨(0), (by first | rfl | (simp; done) | (simp [*]; done)), H', ⟨Nat.le_refl _⟩, ⟨by (with_reducible repeat (first | apply Kd.R_alloc | apply Kd.R_drewN | apply Kd.R_drew)); exact HO_3.out⟩, ⟨by repeat (first | (with_reducible first | exact HB.out | apply below_alloc | apply pw_below_drewN | apply below_drew1) | exact HB.out)⟩⟩
        case round =>
          clear H'
          try clear c1
          try clear p1
          try clear q1
          try clear hx1
          try clear c2
          try clear p2
          try clear c3
          try clear c3b0
          try clear c4
          try clear c4b0
          try clear c4b1
          try clear c5
          try clear c5b0
          try clear c6
          try clear p6
          try clear c7
          try clear c10
          try clear c10b0
          try clear c10b1
          try clear c10b2
          try clear c12
          try clear c16
          try clear c18
          try clear p18
          try clear q18
          try clear hx18
          try clear c22
          try clear hx186_0
          try clear p1
          try clear p186
          try clear p2
          try clear p6
          try clear q1
          try clear q186
          obtain ⟨x9_2, rfl, HA, HK2, HO_3, HB⟩ := hrel
          cases gk with
          | zero => exact absurd HA.out (by simp [colophonlaw05_DigitsAnew.l1])
          | succ k2 =>
            have H := HA.out
            clear HA
            simp only [colophonlaw05_DigitsAnew.l1] at H
            by_cases c23 : x9_2 < (wrap64 ((x3_1.length : Int) - 1))
            · rw [if_pos c23] at H
              have c23b0 : decide (x9_2 < (wrap64 ((x3_1.length : Int) - 1))) = true := decide_eq_true c23
              clear c23
              by_cases c24 : 0 ≤ x9_2
              · rw [if_pos c24] at H
                have c24b0 : decide (0 ≤ x9_2) = true := decide_eq_true c24
                clear c24
                by_cases c25 : x9_2 < (x3_1.length : Int)
                · rw [if_pos c25] at H
                  have c25b0 : decide (x9_2 < (x3_1.length : Int)) = true := decide_eq_true c25
                  clear c25
                  by_cases c26 : (rd x3_1 x9_2) = 48
                  · rw [if_pos c26] at H
                    have c26b0 : ((rd x3_1 x9_2) == 48) = true := beq_iff_eq.mpr c26
                    have c26b1 : ((rd x3_1 x9_2) != 48) = false := bne_eq_false_iff_eq.mpr c26
                    clear c26
                    have H' := Aside0.mk H
                    clear H
                    have p196 : 0 ≤ (x9_2 : Int) := of_decide_eq_true (by first | (with_reducible assumption) | assumption)
                    have q196 : x9_2 < (x3_1.length : Int) := of_decide_eq_true (by first | (with_reducible assumption) | assumption)
                    obtain ⟨ad196, e196, hx196_0⟩ := Kd.at_int (Kd.R_reads' HO_3.out).2.2 x9_2 p196 q196
                    cases e196
                    replace p196 := eq_true p196
                    replace q196 := eq_true q196
                    go_wp2
                    go_roundg k2
                    case measure => have := HJ1.out; have := HK2.out; omega
                    case rel => exact ⟨(wrap64 (x9_2 + 1)), (by first | rfl | (simp; done) | (simp [*]; done)), H', ⟨by have := HJ1.out; have := HK2.out; omega⟩, ⟨by (with_reducible repeat (first | apply Kd.R_alloc | apply Kd.R_drewN | apply Kd.R_drew)); exact HO_3.out⟩, ⟨by repeat (first | (with_reducible first | exact HB.out | apply below_alloc | apply pw_below_drewN | apply below_drew1) | exact HB.out)⟩⟩
                  · rw [if_neg c26] at H
                    have c26b0 : ((rd x3_1 x9_2) == 48) = false := beq_eq_false_iff_ne.mpr c26
                    have c26b1 : ((rd x3_1 x9_2) != 48) = true := bne_iff_ne.mpr c26
                    by_cases c27 : t193 = 0
                    · rw [if_pos c27] at H
                      have c27b0 : (t193 == 0) = true := beq_iff_eq.mpr c27
                      have c27b1 : (t193 != 0) = false := bne_eq_false_iff_eq.mpr c27
                      clear c27
                      by_cases c28 : t195 = 0
                      · rw [if_pos c28] at H
                        have c28b0 : (t195 == 0) = true := beq_iff_eq.mpr c28
                        have c28b1 : (t195 != 0) = false := bne_eq_false_iff_eq.mpr c28
                        clear c28
                        have c29b0 := eq_true (of_decide_eq_true (by first | (with_reducible assumption) | assumption) : 0 ≤ x9_2)
                        by_cases c30 : x9_2 ≤ (x3_1.length : Int)
                        · rw [if_pos c30] at H
                          have c30b0 := eq_true c30
                          have c30b1 : decide (x9_2 ≤ (x3_1.length : Int)) = true := decide_eq_true c30
                          clear c30
                          obtain ⟨y197, hy197⟩ : ∃ y_ : List Int, y_ = (x3_1.drop (x9_2 : Int).toNat) := ⟨_, rfl⟩
                          replace H : (if t194.toList = (strOfNums y197).toList then ((colophonlaw05_awake.f k2).bind fun t201 => (some t201)) else (some false)) = some r := by first | (rw [hy197]; with_reducible exact H) | (have H2_ := (Option.bind_some _ _).symm.trans H; rw [hy197]; with_reducible exact H2_) | (have H2_ := (Option.bind_some _ _).symm.trans H; with_reducible exact H2_) | with_reducible exact H | (rw [hy197]; exact H) | exact H
                          have Ny197 := Aside0.mk hy197
                          clear hy197
                          by_cases c31 : t194.toList = (strOfNums y197).toList
                          · rw [if_pos c31] at H
                            have c31b0 : (t194.toList == (strOfNums y197).toList) = true := beq_iff_eq.mpr c31
                            have c31b1 : (t194.toList != (strOfNums y197).toList) = false := bne_eq_false_iff_eq.mpr c31
                            clear c31
                            replace H := Option.bind_eq_some_iff.mp H
                            obtain ⟨t201, A320, H⟩ := H
                            replace H : (some t201) = some r := H
                            have A32 := Aside0.mk A320
                            clear A320
                            obtain rfl := Option.some.inj H
                            have p196 : 0 ≤ (x9_2 : Int) := of_decide_eq_true (by first | (with_reducible assumption) | assumption)
                            have q196 : x9_2 < (x3_1.length : Int) := of_decide_eq_true (by first | (with_reducible assumption) | assumption)
                            obtain ⟨ad196, e196, hx196_0⟩ := Kd.at_int (Kd.R_reads' HO_3.out).2.2 x9_2 p196 q196
                            cases e196
                            replace p196 := eq_true p196
                            replace q196 := eq_true q196
                            have q33 : (x9_2 : Int) ≤ ((x3_1.length : Int) : Int) := of_decide_eq_true (by first | (with_reducible assumption) | assumption)
                            obtain ⟨i033, hi033, _, hsz33, _⟩ := info_parts info5
                            have hroom33 : x3_1.length ≤ co21 := (Kd.R_reads' HO_3.out).2.1
                            have hC33 : Kd.C (Kd.int .u8) _ (some ad196) x3_1.length x3_1 := (Kd.R_reads' HO_3.out).2.2
                            have q033 : (0 : Int) ≤ (x9_2 : Int) := of_decide_eq_true (by first | (with_reducible assumption) | assumption)
                            have hcut33 := cut_from (P := Tryd.prog) 22 5 .i64 Tryd.underlying22 hi033 1 hsz33 (some ad196) x3_1.length co21 x9_2 q033 q33
                            have hr33 := Kd.C_drop (m := (x9_2 : Int).toNat) (c := co21) hC33 (by omega) hroom33
                            obtain ⟨A33, hA33⟩ : ∃ A1, A1 = (if co21 = (x9_2 : Int).toNat then (some ad196) else ((some ad196) : Option Addr).map (·.add ((x9_2 : Int).toNat * 1))) := ⟨_, rfl⟩
                            obtain ⟨c33, hc33⟩ : ∃ c1, c1 = co21 - (x9_2 : Int).toNat := ⟨_, rfl⟩
                            have hy33 : y197.length = x3_1.length - (x9_2 : Int).toNat := (by rw [Ny197.out, List.length_drop] <;> omega)
                            rw [show (x3_1).drop (x9_2 : Int).toNat = y197 from Ny197.out.symm] at hr33
                            replace hr33 : Kd.C (Kd.int .u8) _ A33 y197.length y197 := (by rw [hA33]; exact hr33)
                            rw [← hy33, ← hA33, ← hc33] at hcut33
                            have HR200 := Aside0.mk hr33
                            have HC200 := Aside0.mk (show y197.length ≤ c33 from by rw [hy33, hc33]; exact Nat.sub_le_sub_right hroom33 _)
                            clear hr33 hC33 hroom33 hi033 hsz33 hc33
                            have KY33 := Aside0.mk hy33
                            have KA33 := Aside0.mk hA33
                            clear hy33 hA33
                            have KL33 := Aside0.mk (show (x9_2 : Int).toNat ≤ x3_1.length from by omega)
                            replace q33 := eq_true q33
                            have hcv34 := Kd.C_string (P := Tryd.prog) (A := A33) (c := c33) Tryd.underlying22 Tryd.underlying5 Tryd.underlying9 (by repeat (first | (with_reducible exact HR200.out) | (with_reducible refine Kd.C_alloc ?_ _) | (with_reducible refine Kd.C_drewN ?_ _) | (with_reducible refine Kd.C_drew ?_) | exact HR200.out))
                            go_wp2_with (first | (go_at_call 15; (with_reducible refine (colophonlaw05_awake.calls k2  t201 _ ?side1 A32.out).mono ?_); (case side1 => exact TAB.below HT.out (by repeat (first | (with_reducible first | exact HB.out | apply below_alloc | apply pw_below_drewN | apply below_drew1) | exact HB.out))); rintro e w35 ⟨rfl, hb⟩; have n0_ := Aside0.mk (Kd.R_below (by (with_reducible repeat (first | apply Kd.R_alloc | apply Kd.R_drewN | apply Kd.R_drew)); exact HO_3.out) hb); have n1_ := Aside0.mk (Kd.C_below (by repeat (first | (with_reducible exact HR200.out) | (with_reducible refine Kd.C_alloc ?_ _) | (with_reducible refine Kd.C_drewN ?_ _) | (with_reducible refine Kd.C_drew ?_) | exact HR200.out)) hb); have n2_ := Aside0.mk (below_step (by repeat (first | (with_reducible first | exact HB.out | apply below_alloc | apply pw_below_drewN | apply below_drew1) | exact HB.out)) hb); clear HO_3; clear HR200; clear HB; have HO_3 := n0_; have HR200 := n1_; have HB := n2_; clear n0_ n1_ n2_; (try clear hb); (try clear hb2); (try clear hk); (try clear hi)))
                            go_ret
                            exact ⟨by first | rfl | (simp [errW_none, errW_some] <;> rfl) | (simp [*, errW_none, errW_some] <;> rfl), by repeat (first | (with_reducible first | exact HB.out | apply below_alloc | apply pw_below_drewN | apply below_drew1) | exact HB.out)⟩
                          · rw [if_neg c31] at H
                            have c31b0 : (t194.toList == (strOfNums y197).toList) = false := beq_eq_false_iff_ne.mpr c31
                            have c31b1 : (t194.toList != (strOfNums y197).toList) = true := bne_iff_ne.mpr c31
                            obtain rfl := Option.some.inj H
                            have p196 : 0 ≤ (x9_2 : Int) := of_decide_eq_true (by first | (with_reducible assumption) | assumption)
                            have q196 : x9_2 < (x3_1.length : Int) := of_decide_eq_true (by first | (with_reducible assumption) | assumption)
                            obtain ⟨ad196, e196, hx196_0⟩ := Kd.at_int (Kd.R_reads' HO_3.out).2.2 x9_2 p196 q196
                            cases e196
                            replace p196 := eq_true p196
                            replace q196 := eq_true q196
                            have q36 : (x9_2 : Int) ≤ ((x3_1.length : Int) : Int) := of_decide_eq_true (by first | (with_reducible assumption) | assumption)
                            obtain ⟨i036, hi036, _, hsz36, _⟩ := info_parts info5
                            have hroom36 : x3_1.length ≤ co21 := (Kd.R_reads' HO_3.out).2.1
                            have hC36 : Kd.C (Kd.int .u8) _ (some ad196) x3_1.length x3_1 := (Kd.R_reads' HO_3.out).2.2
                            have q036 : (0 : Int) ≤ (x9_2 : Int) := of_decide_eq_true (by first | (with_reducible assumption) | assumption)
                            have hcut36 := cut_from (P := Tryd.prog) 22 5 .i64 Tryd.underlying22 hi036 1 hsz36 (some ad196) x3_1.length co21 x9_2 q036 q36
                            have hr36 := Kd.C_drop (m := (x9_2 : Int).toNat) (c := co21) hC36 (by omega) hroom36
                            obtain ⟨A36, hA36⟩ : ∃ A1, A1 = (if co21 = (x9_2 : Int).toNat then (some ad196) else ((some ad196) : Option Addr).map (·.add ((x9_2 : Int).toNat * 1))) := ⟨_, rfl⟩
                            obtain ⟨c36, hc36⟩ : ∃ c1, c1 = co21 - (x9_2 : Int).toNat := ⟨_, rfl⟩
                            have hy36 : y197.length = x3_1.length - (x9_2 : Int).toNat := (by rw [Ny197.out, List.length_drop] <;> omega)
                            rw [show (x3_1).drop (x9_2 : Int).toNat = y197 from Ny197.out.symm] at hr36
                            replace hr36 : Kd.C (Kd.int .u8) _ A36 y197.length y197 := (by rw [hA36]; exact hr36)
                            rw [← hy36, ← hA36, ← hc36] at hcut36
                            have HR200 := Aside0.mk hr36
                            have HC200 := Aside0.mk (show y197.length ≤ c36 from by rw [hy36, hc36]; exact Nat.sub_le_sub_right hroom36 _)
                            clear hr36 hC36 hroom36 hi036 hsz36 hc36
                            have KY36 := Aside0.mk hy36
                            have KA36 := Aside0.mk hA36
                            clear hy36 hA36
                            have KL36 := Aside0.mk (show (x9_2 : Int).toNat ≤ x3_1.length from by omega)
                            replace q36 := eq_true q36
                            have hcv37 := Kd.C_string (P := Tryd.prog) (A := A36) (c := c36) Tryd.underlying22 Tryd.underlying5 Tryd.underlying9 (by repeat (first | (with_reducible exact HR200.out) | (with_reducible refine Kd.C_alloc ?_ _) | (with_reducible refine Kd.C_drewN ?_ _) | (with_reducible refine Kd.C_drew ?_) | exact HR200.out))
                            go_wp2
                            go_ret
                            exact ⟨by first | rfl | (simp [errW_none, errW_some] <;> rfl) | (simp [*, errW_none, errW_some] <;> rfl), by repeat (first | (with_reducible first | exact HB.out | apply below_alloc | apply pw_below_drewN | apply below_drew1) | exact HB.out)⟩
                        · rw [if_neg c30] at H
                          exact absurd H (by simp)
                      · rw [if_neg c28] at H
                        have c28b0 : (t195 == 0) = false := beq_eq_false_iff_ne.mpr c28
                        have c28b1 : (t195 != 0) = true := bne_iff_ne.mpr c28
                        obtain rfl := Option.some.inj H
                        have p196 : 0 ≤ (x9_2 : Int) := of_decide_eq_true (by first | (with_reducible assumption) | assumption)
                        have q196 : x9_2 < (x3_1.length : Int) := of_decide_eq_true (by first | (with_reducible assumption) | assumption)
                        obtain ⟨ad196, e196, hx196_0⟩ := Kd.at_int (Kd.R_reads' HO_3.out).2.2 x9_2 p196 q196
                        cases e196
                        replace p196 := eq_true p196
                        replace q196 := eq_true q196
                        go_wp2
                        go_ret
                        exact ⟨by first | rfl | (simp [errW_none, errW_some] <;> rfl) | (simp [*, errW_none, errW_some] <;> rfl), by repeat (first | (with_reducible first | exact HB.out | apply below_alloc | apply pw_below_drewN | apply below_drew1) | exact HB.out)⟩
                    · rw [if_neg c27] at H
                      have c27b0 : (t193 == 0) = false := beq_eq_false_iff_ne.mpr c27
                      have c27b1 : (t193 != 0) = true := bne_iff_ne.mpr c27
                      obtain rfl := Option.some.inj H
                      have p196 : 0 ≤ (x9_2 : Int) := of_decide_eq_true (by first | (with_reducible assumption) | assumption)
                      have q196 : x9_2 < (x3_1.length : Int) := of_decide_eq_true (by first | (with_reducible assumption) | assumption)
                      obtain ⟨ad196, e196, hx196_0⟩ := Kd.at_int (Kd.R_reads' HO_3.out).2.2 x9_2 p196 q196
                      cases e196
                      replace p196 := eq_true p196
                      replace q196 := eq_true q196
                      go_wp2
                      go_ret
                      exact ⟨by first | rfl | (simp [errW_none, errW_some] <;> rfl) | (simp [*, errW_none, errW_some] <;> rfl), by repeat (first | (with_reducible first | exact HB.out | apply below_alloc | apply pw_below_drewN | apply below_drew1) | exact HB.out)⟩
                · rw [if_neg c25] at H
                  exact absurd H (by simp)
              · rw [if_neg c24] at H
                exact absurd H (by simp)
            · rw [if_neg c23] at H
              have c23b0 : decide (x9_2 < (wrap64 ((x3_1.length : Int) - 1))) = false := decide_eq_false c23
              clear c23
              by_cases c38 : t193 = 0
              · rw [if_pos c38] at H
                have c38b0 : (t193 == 0) = true := beq_iff_eq.mpr c38
                have c38b1 : (t193 != 0) = false := bne_eq_false_iff_eq.mpr c38
                clear c38
                by_cases c39 : t195 = 0
                · rw [if_pos c39] at H
                  have c39b0 : (t195 == 0) = true := beq_iff_eq.mpr c39
                  have c39b1 : (t195 != 0) = false := bne_eq_false_iff_eq.mpr c39
                  clear c39
                  by_cases c40 : 0 ≤ x9_2
                  · rw [if_pos c40] at H
                    have c40b0 := eq_true c40
                    have c40b1 : decide (0 ≤ x9_2) = true := decide_eq_true c40
                    clear c40
                    by_cases c41 : x9_2 ≤ (x3_1.length : Int)
                    · rw [if_pos c41] at H
                      have c41b0 := eq_true c41
                      have c41b1 : decide (x9_2 ≤ (x3_1.length : Int)) = true := decide_eq_true c41
                      clear c41
                      obtain ⟨y202, hy202⟩ : ∃ y_ : List Int, y_ = (x3_1.drop (x9_2 : Int).toNat) := ⟨_, rfl⟩
                      replace H : (if t194.toList = (strOfNums y202).toList then ((colophonlaw05_awake.f k2).bind fun t206 => (some t206)) else (some false)) = some r := by first | (rw [hy202]; with_reducible exact H) | (have H2_ := (Option.bind_some _ _).symm.trans H; rw [hy202]; with_reducible exact H2_) | (have H2_ := (Option.bind_some _ _).symm.trans H; with_reducible exact H2_) | with_reducible exact H | (rw [hy202]; exact H) | exact H
                      have Ny202 := Aside0.mk hy202
                      clear hy202
                      by_cases c42 : t194.toList = (strOfNums y202).toList
                      · rw [if_pos c42] at H
                        have c42b0 : (t194.toList == (strOfNums y202).toList) = true := beq_iff_eq.mpr c42
                        have c42b1 : (t194.toList != (strOfNums y202).toList) = false := bne_eq_false_iff_eq.mpr c42
                        clear c42
                        replace H := Option.bind_eq_some_iff.mp H
                        obtain ⟨t206, A430, H⟩ := H
                        replace H : (some t206) = some r := H
                        have A43 := Aside0.mk A430
                        clear A430
                        obtain rfl := Option.some.inj H
                        have q44 : (x9_2 : Int) ≤ ((x3_1.length : Int) : Int) := of_decide_eq_true (by first | (with_reducible assumption) | assumption)
                        obtain ⟨i044, hi044, _, hsz44, _⟩ := info_parts info5
                        have hroom44 : x3_1.length ≤ co21 := (Kd.R_reads' HO_3.out).2.1
                        have hC44 : Kd.C (Kd.int .u8) _ Ao21 x3_1.length x3_1 := (Kd.R_reads' HO_3.out).2.2
                        have q044 : (0 : Int) ≤ (x9_2 : Int) := of_decide_eq_true (by first | (with_reducible assumption) | assumption)
                        have hcut44 := cut_from (P := Tryd.prog) 22 5 .i64 Tryd.underlying22 hi044 1 hsz44 Ao21 x3_1.length co21 x9_2 q044 q44
                        have hr44 := Kd.C_drop (m := (x9_2 : Int).toNat) (c := co21) hC44 (by omega) hroom44
                        obtain ⟨A44, hA44⟩ : ∃ A1, A1 = (if co21 = (x9_2 : Int).toNat then Ao21 else (Ao21 : Option Addr).map (·.add ((x9_2 : Int).toNat * 1))) := ⟨_, rfl⟩
                        obtain ⟨c44, hc44⟩ : ∃ c1, c1 = co21 - (x9_2 : Int).toNat := ⟨_, rfl⟩
                        have hy44 : y202.length = x3_1.length - (x9_2 : Int).toNat := (by rw [Ny202.out, List.length_drop] <;> omega)
                        rw [show (x3_1).drop (x9_2 : Int).toNat = y202 from Ny202.out.symm] at hr44
                        replace hr44 : Kd.C (Kd.int .u8) _ A44 y202.length y202 := (by rw [hA44]; exact hr44)
                        rw [← hy44, ← hA44, ← hc44] at hcut44
                        have HR205 := Aside0.mk hr44
                        have HC205 := Aside0.mk (show y202.length ≤ c44 from by rw [hy44, hc44]; exact Nat.sub_le_sub_right hroom44 _)
                        clear hr44 hC44 hroom44 hi044 hsz44 hc44
                        have KY44 := Aside0.mk hy44
                        have KA44 := Aside0.mk hA44
                        clear hy44 hA44
                        have KL44 := Aside0.mk (show (x9_2 : Int).toNat ≤ x3_1.length from by omega)
                        replace q44 := eq_true q44
                        have hcv45 := Kd.C_string (P := Tryd.prog) (A := A44) (c := c44) Tryd.underlying22 Tryd.underlying5 Tryd.underlying9 (by repeat (first | (with_reducible exact HR205.out) | (with_reducible refine Kd.C_alloc ?_ _) | (with_reducible refine Kd.C_drewN ?_ _) | (with_reducible refine Kd.C_drew ?_) | exact HR205.out))
                        go_wp2_with (first | (go_at_call 15; (with_reducible refine (colophonlaw05_awake.calls k2  t206 _ ?side1 A43.out).mono ?_); (case side1 => exact TAB.below HT.out (by repeat (first | (with_reducible first | exact HB.out | apply below_alloc | apply pw_below_drewN | apply below_drew1) | exact HB.out))); rintro e w46 ⟨rfl, hb⟩; have n0_ := Aside0.mk (Kd.R_below (by (with_reducible repeat (first | apply Kd.R_alloc | apply Kd.R_drewN | apply Kd.R_drew)); exact HO_3.out) hb); have n1_ := Aside0.mk (Kd.C_below (by repeat (first | (with_reducible exact HR205.out) | (with_reducible refine Kd.C_alloc ?_ _) | (with_reducible refine Kd.C_drewN ?_ _) | (with_reducible refine Kd.C_drew ?_) | exact HR205.out)) hb); have n2_ := Aside0.mk (below_step (by repeat (first | (with_reducible first | exact HB.out | apply below_alloc | apply pw_below_drewN | apply below_drew1) | exact HB.out)) hb); clear HO_3; clear HR205; clear HB; have HO_3 := n0_; have HR205 := n1_; have HB := n2_; clear n0_ n1_ n2_; (try clear hb); (try clear hb2); (try clear hk); (try clear hi)))
                        go_ret
                        exact ⟨by first | rfl | (simp [errW_none, errW_some] <;> rfl) | (simp [*, errW_none, errW_some] <;> rfl), by repeat (first | (with_reducible first | exact HB.out | apply below_alloc | apply pw_below_drewN | apply below_drew1) | exact HB.out)⟩
                      · rw [if_neg c42] at H
                        have c42b0 : (t194.toList == (strOfNums y202).toList) = false := beq_eq_false_iff_ne.mpr c42
                        have c42b1 : (t194.toList != (strOfNums y202).toList) = true := bne_iff_ne.mpr c42
                        obtain rfl := Option.some.inj H
                        have q47 : (x9_2 : Int) ≤ ((x3_1.length : Int) : Int) := of_decide_eq_true (by first | (with_reducible assumption) | assumption)
                        obtain ⟨i047, hi047, _, hsz47, _⟩ := info_parts info5
                        have hroom47 : x3_1.length ≤ co21 := (Kd.R_reads' HO_3.out).2.1
                        have hC47 : Kd.C (Kd.int .u8) _ Ao21 x3_1.length x3_1 := (Kd.R_reads' HO_3.out).2.2
                        have q047 : (0 : Int) ≤ (x9_2 : Int) := of_decide_eq_true (by first | (with_reducible assumption) | assumption)
                        have hcut47 := cut_from (P := Tryd.prog) 22 5 .i64 Tryd.underlying22 hi047 1 hsz47 Ao21 x3_1.length co21 x9_2 q047 q47
                        have hr47 := Kd.C_drop (m := (x9_2 : Int).toNat) (c := co21) hC47 (by omega) hroom47
                        obtain ⟨A47, hA47⟩ : ∃ A1, A1 = (if co21 = (x9_2 : Int).toNat then Ao21 else (Ao21 : Option Addr).map (·.add ((x9_2 : Int).toNat * 1))) := ⟨_, rfl⟩
                        obtain ⟨c47, hc47⟩ : ∃ c1, c1 = co21 - (x9_2 : Int).toNat := ⟨_, rfl⟩
                        have hy47 : y202.length = x3_1.length - (x9_2 : Int).toNat := (by rw [Ny202.out, List.length_drop] <;> omega)
                        rw [show (x3_1).drop (x9_2 : Int).toNat = y202 from Ny202.out.symm] at hr47
                        replace hr47 : Kd.C (Kd.int .u8) _ A47 y202.length y202 := (by rw [hA47]; exact hr47)
                        rw [← hy47, ← hA47, ← hc47] at hcut47
                        have HR205 := Aside0.mk hr47
                        have HC205 := Aside0.mk (show y202.length ≤ c47 from by rw [hy47, hc47]; exact Nat.sub_le_sub_right hroom47 _)
                        clear hr47 hC47 hroom47 hi047 hsz47 hc47
                        have KY47 := Aside0.mk hy47
                        have KA47 := Aside0.mk hA47
                        clear hy47 hA47
                        have KL47 := Aside0.mk (show (x9_2 : Int).toNat ≤ x3_1.length from by omega)
                        replace q47 := eq_true q47
                        have hcv48 := Kd.C_string (P := Tryd.prog) (A := A47) (c := c47) Tryd.underlying22 Tryd.underlying5 Tryd.underlying9 (by repeat (first | (with_reducible exact HR205.out) | (with_reducible refine Kd.C_alloc ?_ _) | (with_reducible refine Kd.C_drewN ?_ _) | (with_reducible refine Kd.C_drew ?_) | exact HR205.out))
                        go_wp2
                        go_ret
                        exact ⟨by first | rfl | (simp [errW_none, errW_some] <;> rfl) | (simp [*, errW_none, errW_some] <;> rfl), by repeat (first | (with_reducible first | exact HB.out | apply below_alloc | apply pw_below_drewN | apply below_drew1) | exact HB.out)⟩
                    · rw [if_neg c41] at H
                      exact absurd H (by simp)
                  · rw [if_neg c40] at H
                    exact absurd H (by simp)
                · rw [if_neg c39] at H
                  have c39b0 : (t195 == 0) = false := beq_eq_false_iff_ne.mpr c39
                  have c39b1 : (t195 != 0) = true := bne_iff_ne.mpr c39
                  obtain rfl := Option.some.inj H
                  go_wp2
                  go_ret
                  exact ⟨by first | rfl | (simp [errW_none, errW_some] <;> rfl) | (simp [*, errW_none, errW_some] <;> rfl), by repeat (first | (with_reducible first | exact HB.out | apply below_alloc | apply pw_below_drewN | apply below_drew1) | exact HB.out)⟩
              · rw [if_neg c38] at H
                have c38b0 : (t193 == 0) = false := beq_eq_false_iff_ne.mpr c38
                have c38b1 : (t193 != 0) = true := bne_iff_ne.mpr c38
                obtain rfl := Option.some.inj H
                go_wp2
                go_ret
                exact ⟨by first | rfl | (simp [errW_none, errW_some] <;> rfl) | (simp [*, errW_none, errW_some] <;> rfl), by repeat (first | (with_reducible first | exact HB.out | apply below_alloc | apply pw_below_drewN | apply below_drew1) | exact HB.out)⟩

/-- THE ONE PURE STATEMENT of colophonlaw05_DigitsAnew: yours. -/
def colophonlaw05_DigitsAnew.Pure : Prop := ∀ (l0 : List Int), l0.length ≤ maxLen → l0.length * 1 ≤ 140737488351232 → (∀ x ∈ l0, (Lit.int .u8 x).wf = true) → ∃ k, colophonlaw05_DigitsAnew.f k l0 = some true
theorem colophonlaw05_DigitsAnew.walk (P : colophonlaw05_DigitsAnew.Pure) (a0 : Option Addr) (len0 cap0 : Nat) (z0 : List Int) (w : World) (w0 : (a0 = none ∧ len0 = 0 ∧ cap0 = 0 ∧ z0 = []) ∨ ∃ x, a0 = some x ∧ len0 ≤ cap0 ∧ cap0 ≤ maxLen ∧ z0.length = cap0 ∧ (∀ i, i < z0.length → w.cell? (x.add i) = some (.int .u8 (z0.getD i 0))) ∧ ∀ n ∈ z0, (Lit.int .u8 n).wf = true) (y0 : len0 * 1 ≤ 140737488351232) (hT : TAB w) :
    Calls Tryd.prog 7 #[.slice a0 len0 cap0] w fun e w' => e = .returned (.bool true) ∧ Below w.heap.size w w' := by
  obtain ⟨l0, rfl, hr0, hm0, hw0, hc0⟩ := ReadsInt.ofRowC w0
  obtain ⟨k, h⟩ := P l0 hm0 y0 hw0
  refine (colophonlaw05_DigitsAnew.calls k _ _ l0 true w (Kd.C_of_reads (d := (0 : Int)) (h1 := fun _ => rfl) hr0) hc0 hT h).mono ?_
  rintro e w' ⟨rfl, hd⟩
  exact ⟨rfl, hd⟩

/-! ### colophonlaw05_DigitsOrder: function 8 -/
def colophonlaw05_DigitsOrder.f (k : Nat) (a0 : Int) (a1 : Int) : Option (Bool) := (digits_Text.f (Go.bits .and .i64 a0 4611686018427387903)).bind fun bt207 => ((digits_Text.f (Go.bits .and .i64 a1 4611686018427387903)).bind fun bt209 => (if (bt207.1.size : Int) < (bt209.1.size : Int) then (if bt207.2 = 0 then (if bt209.2 = 0 then (if (true == (decide ((Go.bits .and .i64 a0 4611686018427387903) < (Go.bits .and .i64 a1 4611686018427387903)))) = true then (if ((bt207.1.toList == bt209.1.toList) == ((Go.bits .and .i64 a0 4611686018427387903) == (Go.bits .and .i64 a1 4611686018427387903))) = true then ((colophonlaw05_awake.f k).bind fun t211 => (some t211)) else (some false)) else (some false)) else (some false)) else (some false)) else (if (bt207.1.size : Int) = (bt209.1.size : Int) then (if bt207.2 = 0 then (if bt209.2 = 0 then (if ((Op.bytesLess bt207.1.toList bt209.1.toList) == (decide ((Go.bits .and .i64 a0 4611686018427387903) < (Go.bits .and .i64 a1 4611686018427387903)))) = true then (if ((bt207.1.toList == bt209.1.toList) == ((Go.bits .and .i64 a0 4611686018427387903) == (Go.bits .and .i64 a1 4611686018427387903))) = true then ((colophonlaw05_awake.f k).bind fun t212 => (some t212)) else (some false)) else (some false)) else (some false)) else (some false)) else (if bt207.2 = 0 then (if bt209.2 = 0 then (if (false == (decide ((Go.bits .and .i64 a0 4611686018427387903) < (Go.bits .and .i64 a1 4611686018427387903)))) = true then (if ((bt207.1.toList == bt209.1.toList) == ((Go.bits .and .i64 a0 4611686018427387903) == (Go.bits .and .i64 a1 4611686018427387903))) = true then ((colophonlaw05_awake.f k).bind fun t213 => (some t213)) else (some false)) else (some false)) else (some false)) else (some false)))))
theorem colophonlaw05_DigitsOrder.mono : ∀ a0 a1 k, LeO (colophonlaw05_DigitsOrder.f k a0 a1) (colophonlaw05_DigitsOrder.f (k + 1) a0 a1) := by
  intro a0 a1 k
  unfold colophonlaw05_DigitsOrder.f
  repeat' first
      | (with_reducible exact colophonlaw05_awake.mono _)
      | (with_reducible exact LeO.refl _)
      | (with_reducible exact LeO.none _)
      | (with_reducible refine LeO.ite ?_ ?_)
      | (with_reducible refine LeO.bind ?_ (fun _ => ?_))
      | exact colophonlaw05_awake.mono _
      | exact LeO.none _
      | refine LeO.ite ?_ ?_
      | refine LeO.bind ?_ (fun _ => ?_)
set_option maxHeartbeats 8000000 in
set_option maxRecDepth 100000 in
theorem colophonlaw05_DigitsOrder.calls (k : Nat) (a0 : Int) (a1 : Int) (r : Bool) (w : World) (hT : TAB w) (h : colophonlaw05_DigitsOrder.f k a0 a1 = some r) :
    Calls Tryd.prog 8 #[.int .i64 a0, .int .i64 a1] w fun e w' => e = .returned (.bool r) ∧ Below w.heap.size w w' := by
  have HT := Aside0.mk hT
  clear hT
  have HB := Aside0.mk (Below.refl w.heap.size w)
  have H : ((digits_Text.f (Go.bits .and .i64 a0 4611686018427387903)).bind fun bt207 => ((digits_Text.f (Go.bits .and .i64 a1 4611686018427387903)).bind fun bt209 => (if (bt207.1.size : Int) < (bt209.1.size : Int) then (if bt207.2 = 0 then (if bt209.2 = 0 then (if (true == (decide ((Go.bits .and .i64 a0 4611686018427387903) < (Go.bits .and .i64 a1 4611686018427387903)))) = true then (if ((bt207.1.toList == bt209.1.toList) == ((Go.bits .and .i64 a0 4611686018427387903) == (Go.bits .and .i64 a1 4611686018427387903))) = true then ((colophonlaw05_awake.f k).bind fun t211 => (some t211)) else (some false)) else (some false)) else (some false)) else (some false)) else (if (bt207.1.size : Int) = (bt209.1.size : Int) then (if bt207.2 = 0 then (if bt209.2 = 0 then (if ((Op.bytesLess bt207.1.toList bt209.1.toList) == (decide ((Go.bits .and .i64 a0 4611686018427387903) < (Go.bits .and .i64 a1 4611686018427387903)))) = true then (if ((bt207.1.toList == bt209.1.toList) == ((Go.bits .and .i64 a0 4611686018427387903) == (Go.bits .and .i64 a1 4611686018427387903))) = true then ((colophonlaw05_awake.f k).bind fun t212 => (some t212)) else (some false)) else (some false)) else (some false)) else (some false)) else (if bt207.2 = 0 then (if bt209.2 = 0 then (if (false == (decide ((Go.bits .and .i64 a0 4611686018427387903) < (Go.bits .and .i64 a1 4611686018427387903)))) = true then (if ((bt207.1.toList == bt209.1.toList) == ((Go.bits .and .i64 a0 4611686018427387903) == (Go.bits .and .i64 a1 4611686018427387903))) = true then ((colophonlaw05_awake.f k).bind fun t213 => (some t213)) else (some false)) else (some false)) else (some false)) else (some false)))))) = some r := h
  clear h
  replace H := Option.bind_eq_some_iff.mp H
  obtain ⟨⟨t207, t208⟩, A30, H⟩ := H
  replace H : ((digits_Text.f (Go.bits .and .i64 a1 4611686018427387903)).bind fun bt209 => (if (t207.size : Int) < (bt209.1.size : Int) then (if t208 = 0 then (if bt209.2 = 0 then (if (true == (decide ((Go.bits .and .i64 a0 4611686018427387903) < (Go.bits .and .i64 a1 4611686018427387903)))) = true then (if ((t207.toList == bt209.1.toList) == ((Go.bits .and .i64 a0 4611686018427387903) == (Go.bits .and .i64 a1 4611686018427387903))) = true then ((colophonlaw05_awake.f k).bind fun t211 => (some t211)) else (some false)) else (some false)) else (some false)) else (some false)) else (if (t207.size : Int) = (bt209.1.size : Int) then (if t208 = 0 then (if bt209.2 = 0 then (if ((Op.bytesLess t207.toList bt209.1.toList) == (decide ((Go.bits .and .i64 a0 4611686018427387903) < (Go.bits .and .i64 a1 4611686018427387903)))) = true then (if ((t207.toList == bt209.1.toList) == ((Go.bits .and .i64 a0 4611686018427387903) == (Go.bits .and .i64 a1 4611686018427387903))) = true then ((colophonlaw05_awake.f k).bind fun t212 => (some t212)) else (some false)) else (some false)) else (some false)) else (some false)) else (if t208 = 0 then (if bt209.2 = 0 then (if (false == (decide ((Go.bits .and .i64 a0 4611686018427387903) < (Go.bits .and .i64 a1 4611686018427387903)))) = true then (if ((t207.toList == bt209.1.toList) == ((Go.bits .and .i64 a0 4611686018427387903) == (Go.bits .and .i64 a1 4611686018427387903))) = true then ((colophonlaw05_awake.f k).bind fun t213 => (some t213)) else (some false)) else (some false)) else (some false)) else (some false))))) = some r := H
  have A3 := Aside0.mk A30
  clear A30
  replace H := Option.bind_eq_some_iff.mp H
  obtain ⟨⟨t209, t210⟩, A40, H⟩ := H
  replace H : (if (t207.size : Int) < (t209.size : Int) then (if t208 = 0 then (if t210 = 0 then (if (true == (decide ((Go.bits .and .i64 a0 4611686018427387903) < (Go.bits .and .i64 a1 4611686018427387903)))) = true then (if ((t207.toList == t209.toList) == ((Go.bits .and .i64 a0 4611686018427387903) == (Go.bits .and .i64 a1 4611686018427387903))) = true then ((colophonlaw05_awake.f k).bind fun t211 => (some t211)) else (some false)) else (some false)) else (some false)) else (some false)) else (if (t207.size : Int) = (t209.size : Int) then (if t208 = 0 then (if t210 = 0 then (if ((Op.bytesLess t207.toList t209.toList) == (decide ((Go.bits .and .i64 a0 4611686018427387903) < (Go.bits .and .i64 a1 4611686018427387903)))) = true then (if ((t207.toList == t209.toList) == ((Go.bits .and .i64 a0 4611686018427387903) == (Go.bits .and .i64 a1 4611686018427387903))) = true then ((colophonlaw05_awake.f k).bind fun t212 => (some t212)) else (some false)) else (some false)) else (some false)) else (some false)) else (if t208 = 0 then (if t210 = 0 then (if (false == (decide ((Go.bits .and .i64 a0 4611686018427387903) < (Go.bits .and .i64 a1 4611686018427387903)))) = true then (if ((t207.toList == t209.toList) == ((Go.bits .and .i64 a0 4611686018427387903) == (Go.bits .and .i64 a1 4611686018427387903))) = true then ((colophonlaw05_awake.f k).bind fun t213 => (some t213)) else (some false)) else (some false)) else (some false)) else (some false)))) = some r := H
  have A4 := Aside0.mk A40
  clear A40
  by_cases c5 : (t207.size : Int) < (t209.size : Int)
  · rw [if_pos c5] at H
    have c5b0 : decide ((t207.size : Int) < (t209.size : Int)) = true := decide_eq_true c5
    have c5b1 : decide (t207.size < t209.size) = true := decide_eq_true (Int.ofNat_lt.mp c5)
    clear c5
    by_cases c6 : t208 = 0
    · rw [if_pos c6] at H
      have c6b0 : (t208 == 0) = true := beq_iff_eq.mpr c6
      have c6b1 : (t208 != 0) = false := bne_eq_false_iff_eq.mpr c6
      clear c6
      by_cases c7 : t210 = 0
      · rw [if_pos c7] at H
        have c7b0 : (t210 == 0) = true := beq_iff_eq.mpr c7
        have c7b1 : (t210 != 0) = false := bne_eq_false_iff_eq.mpr c7
        clear c7
        by_cases c8 : (true == (decide ((Go.bits .and .i64 a0 4611686018427387903) < (Go.bits .and .i64 a1 4611686018427387903)))) = true
        · rw [if_pos c8] at H
          have c8b0 : (true == (decide ((Go.bits .and .i64 a0 4611686018427387903) < (Go.bits .and .i64 a1 4611686018427387903)))) = true := c8
          (try (have c8b1 : decide (true = (decide ((Go.bits .and .i64 a0 4611686018427387903) < (Go.bits .and .i64 a1 4611686018427387903)))) = true := by simpa using c8))
          (try (have c8b2 : (true == (decide ((Go.bits .and .i64 a0 4611686018427387903) < (Go.bits .and .i64 a1 4611686018427387903)))) = true := by simpa using c8))
          clear c8
          by_cases c9 : ((t207.toList == t209.toList) == ((Go.bits .and .i64 a0 4611686018427387903) == (Go.bits .and .i64 a1 4611686018427387903))) = true
          · rw [if_pos c9] at H
            have c9b0 : ((t207.toList == t209.toList) == ((Go.bits .and .i64 a0 4611686018427387903) == (Go.bits .and .i64 a1 4611686018427387903))) = true := c9
            (try (have c9b1 : decide ((t207.toList == t209.toList) = ((Go.bits .and .i64 a0 4611686018427387903) == (Go.bits .and .i64 a1 4611686018427387903))) = true := by simpa using c9))
            (try (have c9b2 : ((t207.toList == t209.toList) == ((Go.bits .and .i64 a0 4611686018427387903) == (Go.bits .and .i64 a1 4611686018427387903))) = true := by simpa using c9))
            clear c9
            replace H := Option.bind_eq_some_iff.mp H
            obtain ⟨t211, A100, H⟩ := H
            replace H : (some t211) = some r := H
            have A10 := Aside0.mk A100
            clear A100
            obtain rfl := Option.some.inj H
            go_enter Tryd.func8, Tryd.ntmps8
            go_wp2_with (first | ((with_reducible refine gate_callee (f := 18) rfl ?_); refine goesL_ (some 18) rfl rfl Tryd.func18 (by kernel_rfl) rfl #[.int .i64 (Go.bits .and .i64 a0 4611686018427387903)] rfl (by (try simp only [List.map_toArray, List.map_cons, List.map_nil]); first | done | rfl | (simp only [List.length_drop, List.length_take]; rfl)) ?_; (with_reducible refine (digits_Text.calls (Go.bits .and .i64 a0 4611686018427387903) t207 t208 _ ?side1 A3.out).mono ?_); (case side1 => exact TAB.below HT.out (by repeat (first | (with_reducible first | exact HB.out | apply below_alloc | apply pw_below_drewN | apply below_drew1) | exact HB.out))); rintro e w11 ⟨rfl, hb⟩; refine ⟨_, rfl, ?_⟩; have n0_ := Aside0.mk (below_step (by repeat (first | (with_reducible first | exact HB.out | apply below_alloc | apply pw_below_drewN | apply below_drew1) | exact HB.out)) hb); clear HB; have HB := n0_; clear n0_; (try clear hb); (try clear hb2); (try clear hk); (try clear hi)) | ((with_reducible refine gate_callee (f := 18) rfl ?_); refine goesL_ (some 23) rfl rfl Tryd.func18 (by kernel_rfl) rfl #[.int .i64 (Go.bits .and .i64 a1 4611686018427387903)] rfl (by (try simp only [List.map_toArray, List.map_cons, List.map_nil]); first | done | rfl | (simp only [List.length_drop, List.length_take]; rfl)) ?_; (with_reducible refine (digits_Text.calls (Go.bits .and .i64 a1 4611686018427387903) t209 t210 _ ?side1 A4.out).mono ?_); (case side1 => exact TAB.below HT.out (by repeat (first | (with_reducible first | exact HB.out | apply below_alloc | apply pw_below_drewN | apply below_drew1) | exact HB.out))); rintro e w12 ⟨rfl, hb⟩; refine ⟨_, rfl, ?_⟩; have n0_ := Aside0.mk (below_step (by repeat (first | (with_reducible first | exact HB.out | apply below_alloc | apply pw_below_drewN | apply below_drew1) | exact HB.out)) hb); clear HB; have HB := n0_; clear n0_; (try clear hb); (try clear hb2); (try clear hk); (try clear hi)) | (go_at_call 15; (with_reducible refine (colophonlaw05_awake.calls k  t211 _ ?side1 A10.out).mono ?_); (case side1 => exact TAB.below HT.out (by repeat (first | (with_reducible first | exact HB.out | apply below_alloc | apply pw_below_drewN | apply below_drew1) | exact HB.out))); rintro e w13 ⟨rfl, hb⟩; have n0_ := Aside0.mk (below_step (by repeat (first | (with_reducible first | exact HB.out | apply below_alloc | apply pw_below_drewN | apply below_drew1) | exact HB.out)) hb); clear HB; have HB := n0_; clear n0_; (try clear hb); (try clear hb2); (try clear hk); (try clear hi)))
            go_ret
            exact ⟨by first | rfl | (simp [errW_none, errW_some] <;> rfl) | (simp [*, errW_none, errW_some] <;> rfl), by repeat (first | (with_reducible first | exact HB.out | apply below_alloc | apply pw_below_drewN | apply below_drew1) | exact HB.out)⟩
          · rw [if_neg c9] at H
            have c9b0 : ((t207.toList == t209.toList) == ((Go.bits .and .i64 a0 4611686018427387903) == (Go.bits .and .i64 a1 4611686018427387903))) = false := by simpa using c9
            (try (have c9b1 : decide ((t207.toList == t209.toList) = ((Go.bits .and .i64 a0 4611686018427387903) == (Go.bits .and .i64 a1 4611686018427387903))) = false := by simpa using c9))
            (try (have c9b2 : ((t207.toList == t209.toList) == ((Go.bits .and .i64 a0 4611686018427387903) == (Go.bits .and .i64 a1 4611686018427387903))) = false := by simpa using c9))
            (try (have c9b3 : ¬ ((t207.toList == t209.toList) = ((Go.bits .and .i64 a0 4611686018427387903) == (Go.bits .and .i64 a1 4611686018427387903))) := by simpa using c9))
            clear c9
            obtain rfl := Option.some.inj H
            go_enter Tryd.func8, Tryd.ntmps8
            go_wp2_with (first | ((with_reducible refine gate_callee (f := 18) rfl ?_); refine goesL_ (some 18) rfl rfl Tryd.func18 (by kernel_rfl) rfl #[.int .i64 (Go.bits .and .i64 a0 4611686018427387903)] rfl (by (try simp only [List.map_toArray, List.map_cons, List.map_nil]); first | done | rfl | (simp only [List.length_drop, List.length_take]; rfl)) ?_; (with_reducible refine (digits_Text.calls (Go.bits .and .i64 a0 4611686018427387903) t207 t208 _ ?side1 A3.out).mono ?_); (case side1 => exact TAB.below HT.out (by repeat (first | (with_reducible first | exact HB.out | apply below_alloc | apply pw_below_drewN | apply below_drew1) | exact HB.out))); rintro e w14 ⟨rfl, hb⟩; refine ⟨_, rfl, ?_⟩; have n0_ := Aside0.mk (below_step (by repeat (first | (with_reducible first | exact HB.out | apply below_alloc | apply pw_below_drewN | apply below_drew1) | exact HB.out)) hb); clear HB; have HB := n0_; clear n0_; (try clear hb); (try clear hb2); (try clear hk); (try clear hi)) | ((with_reducible refine gate_callee (f := 18) rfl ?_); refine goesL_ (some 23) rfl rfl Tryd.func18 (by kernel_rfl) rfl #[.int .i64 (Go.bits .and .i64 a1 4611686018427387903)] rfl (by (try simp only [List.map_toArray, List.map_cons, List.map_nil]); first | done | rfl | (simp only [List.length_drop, List.length_take]; rfl)) ?_; (with_reducible refine (digits_Text.calls (Go.bits .and .i64 a1 4611686018427387903) t209 t210 _ ?side1 A4.out).mono ?_); (case side1 => exact TAB.below HT.out (by repeat (first | (with_reducible first | exact HB.out | apply below_alloc | apply pw_below_drewN | apply below_drew1) | exact HB.out))); rintro e w15 ⟨rfl, hb⟩; refine ⟨_, rfl, ?_⟩; have n0_ := Aside0.mk (below_step (by repeat (first | (with_reducible first | exact HB.out | apply below_alloc | apply pw_below_drewN | apply below_drew1) | exact HB.out)) hb); clear HB; have HB := n0_; clear n0_; (try clear hb); (try clear hb2); (try clear hk); (try clear hi)))
            go_ret
            exact ⟨by first | rfl | (simp [errW_none, errW_some] <;> rfl) | (simp [*, errW_none, errW_some] <;> rfl), by repeat (first | (with_reducible first | exact HB.out | apply below_alloc | apply pw_below_drewN | apply below_drew1) | exact HB.out)⟩
        · rw [if_neg c8] at H
          have c8b0 : (true == (decide ((Go.bits .and .i64 a0 4611686018427387903) < (Go.bits .and .i64 a1 4611686018427387903)))) = false := by simpa using c8
          (try (have c8b1 : decide (true = (decide ((Go.bits .and .i64 a0 4611686018427387903) < (Go.bits .and .i64 a1 4611686018427387903)))) = false := by simpa using c8))
          (try (have c8b2 : (true == (decide ((Go.bits .and .i64 a0 4611686018427387903) < (Go.bits .and .i64 a1 4611686018427387903)))) = false := by simpa using c8))
          (try (have c8b3 : ¬ (true = (decide ((Go.bits .and .i64 a0 4611686018427387903) < (Go.bits .and .i64 a1 4611686018427387903)))) := by simpa using c8))
          clear c8
          obtain rfl := Option.some.inj H
          go_enter Tryd.func8, Tryd.ntmps8
          go_wp2_with (first | ((with_reducible refine gate_callee (f := 18) rfl ?_); refine goesL_ (some 18) rfl rfl Tryd.func18 (by kernel_rfl) rfl #[.int .i64 (Go.bits .and .i64 a0 4611686018427387903)] rfl (by (try simp only [List.map_toArray, List.map_cons, List.map_nil]); first | done | rfl | (simp only [List.length_drop, List.length_take]; rfl)) ?_; (with_reducible refine (digits_Text.calls (Go.bits .and .i64 a0 4611686018427387903) t207 t208 _ ?side1 A3.out).mono ?_); (case side1 => exact TAB.below HT.out (by repeat (first | (with_reducible first | exact HB.out | apply below_alloc | apply pw_below_drewN | apply below_drew1) | exact HB.out))); rintro e w16 ⟨rfl, hb⟩; refine ⟨_, rfl, ?_⟩; have n0_ := Aside0.mk (below_step (by repeat (first | (with_reducible first | exact HB.out | apply below_alloc | apply pw_below_drewN | apply below_drew1) | exact HB.out)) hb); clear HB; have HB := n0_; clear n0_; (try clear hb); (try clear hb2); (try clear hk); (try clear hi)) | ((with_reducible refine gate_callee (f := 18) rfl ?_); refine goesL_ (some 23) rfl rfl Tryd.func18 (by kernel_rfl) rfl #[.int .i64 (Go.bits .and .i64 a1 4611686018427387903)] rfl (by (try simp only [List.map_toArray, List.map_cons, List.map_nil]); first | done | rfl | (simp only [List.length_drop, List.length_take]; rfl)) ?_; (with_reducible refine (digits_Text.calls (Go.bits .and .i64 a1 4611686018427387903) t209 t210 _ ?side1 A4.out).mono ?_); (case side1 => exact TAB.below HT.out (by repeat (first | (with_reducible first | exact HB.out | apply below_alloc | apply pw_below_drewN | apply below_drew1) | exact HB.out))); rintro e w17 ⟨rfl, hb⟩; refine ⟨_, rfl, ?_⟩; have n0_ := Aside0.mk (below_step (by repeat (first | (with_reducible first | exact HB.out | apply below_alloc | apply pw_below_drewN | apply below_drew1) | exact HB.out)) hb); clear HB; have HB := n0_; clear n0_; (try clear hb); (try clear hb2); (try clear hk); (try clear hi)))
          go_ret
          exact ⟨by first | rfl | (simp [errW_none, errW_some] <;> rfl) | (simp [*, errW_none, errW_some] <;> rfl), by repeat (first | (with_reducible first | exact HB.out | apply below_alloc | apply pw_below_drewN | apply below_drew1) | exact HB.out)⟩
      · rw [if_neg c7] at H
        have c7b0 : (t210 == 0) = false := beq_eq_false_iff_ne.mpr c7
        have c7b1 : (t210 != 0) = true := bne_iff_ne.mpr c7
        obtain rfl := Option.some.inj H
        go_enter Tryd.func8, Tryd.ntmps8
        go_wp2_with (first | ((with_reducible refine gate_callee (f := 18) rfl ?_); refine goesL_ (some 18) rfl rfl Tryd.func18 (by kernel_rfl) rfl #[.int .i64 (Go.bits .and .i64 a0 4611686018427387903)] rfl (by (try simp only [List.map_toArray, List.map_cons, List.map_nil]); first | done | rfl | (simp only [List.length_drop, List.length_take]; rfl)) ?_; (with_reducible refine (digits_Text.calls (Go.bits .and .i64 a0 4611686018427387903) t207 t208 _ ?side1 A3.out).mono ?_); (case side1 => exact TAB.below HT.out (by repeat (first | (with_reducible first | exact HB.out | apply below_alloc | apply pw_below_drewN | apply below_drew1) | exact HB.out))); rintro e w18 ⟨rfl, hb⟩; refine ⟨_, rfl, ?_⟩; have n0_ := Aside0.mk (below_step (by repeat (first | (with_reducible first | exact HB.out | apply below_alloc | apply pw_below_drewN | apply below_drew1) | exact HB.out)) hb); clear HB; have HB := n0_; clear n0_; (try clear hb); (try clear hb2); (try clear hk); (try clear hi)) | ((with_reducible refine gate_callee (f := 18) rfl ?_); refine goesL_ (some 23) rfl rfl Tryd.func18 (by kernel_rfl) rfl #[.int .i64 (Go.bits .and .i64 a1 4611686018427387903)] rfl (by (try simp only [List.map_toArray, List.map_cons, List.map_nil]); first | done | rfl | (simp only [List.length_drop, List.length_take]; rfl)) ?_; (with_reducible refine (digits_Text.calls (Go.bits .and .i64 a1 4611686018427387903) t209 t210 _ ?side1 A4.out).mono ?_); (case side1 => exact TAB.below HT.out (by repeat (first | (with_reducible first | exact HB.out | apply below_alloc | apply pw_below_drewN | apply below_drew1) | exact HB.out))); rintro e w19 ⟨rfl, hb⟩; refine ⟨_, rfl, ?_⟩; have n0_ := Aside0.mk (below_step (by repeat (first | (with_reducible first | exact HB.out | apply below_alloc | apply pw_below_drewN | apply below_drew1) | exact HB.out)) hb); clear HB; have HB := n0_; clear n0_; (try clear hb); (try clear hb2); (try clear hk); (try clear hi)))
        go_ret
        exact ⟨by first | rfl | (simp [errW_none, errW_some] <;> rfl) | (simp [*, errW_none, errW_some] <;> rfl), by repeat (first | (with_reducible first | exact HB.out | apply below_alloc | apply pw_below_drewN | apply below_drew1) | exact HB.out)⟩
    · rw [if_neg c6] at H
      have c6b0 : (t208 == 0) = false := beq_eq_false_iff_ne.mpr c6
      have c6b1 : (t208 != 0) = true := bne_iff_ne.mpr c6
      obtain rfl := Option.some.inj H
      go_enter Tryd.func8, Tryd.ntmps8
      go_wp2_with (first | ((with_reducible refine gate_callee (f := 18) rfl ?_); refine goesL_ (some 18) rfl rfl Tryd.func18 (by kernel_rfl) rfl #[.int .i64 (Go.bits .and .i64 a0 4611686018427387903)] rfl (by (try simp only [List.map_toArray, List.map_cons, List.map_nil]); first | done | rfl | (simp only [List.length_drop, List.length_take]; rfl)) ?_; (with_reducible refine (digits_Text.calls (Go.bits .and .i64 a0 4611686018427387903) t207 t208 _ ?side1 A3.out).mono ?_); (case side1 => exact TAB.below HT.out (by repeat (first | (with_reducible first | exact HB.out | apply below_alloc | apply pw_below_drewN | apply below_drew1) | exact HB.out))); rintro e w20 ⟨rfl, hb⟩; refine ⟨_, rfl, ?_⟩; have n0_ := Aside0.mk (below_step (by repeat (first | (with_reducible first | exact HB.out | apply below_alloc | apply pw_below_drewN | apply below_drew1) | exact HB.out)) hb); clear HB; have HB := n0_; clear n0_; (try clear hb); (try clear hb2); (try clear hk); (try clear hi)) | ((with_reducible refine gate_callee (f := 18) rfl ?_); refine goesL_ (some 23) rfl rfl Tryd.func18 (by kernel_rfl) rfl #[.int .i64 (Go.bits .and .i64 a1 4611686018427387903)] rfl (by (try simp only [List.map_toArray, List.map_cons, List.map_nil]); first | done | rfl | (simp only [List.length_drop, List.length_take]; rfl)) ?_; (with_reducible refine (digits_Text.calls (Go.bits .and .i64 a1 4611686018427387903) t209 t210 _ ?side1 A4.out).mono ?_); (case side1 => exact TAB.below HT.out (by repeat (first | (with_reducible first | exact HB.out | apply below_alloc | apply pw_below_drewN | apply below_drew1) | exact HB.out))); rintro e w21 ⟨rfl, hb⟩; refine ⟨_, rfl, ?_⟩; have n0_ := Aside0.mk (below_step (by repeat (first | (with_reducible first | exact HB.out | apply below_alloc | apply pw_below_drewN | apply below_drew1) | exact HB.out)) hb); clear HB; have HB := n0_; clear n0_; (try clear hb); (try clear hb2); (try clear hk); (try clear hi)))
      go_ret
      exact ⟨by first | rfl | (simp [errW_none, errW_some] <;> rfl) | (simp [*, errW_none, errW_some] <;> rfl), by repeat (first | (with_reducible first | exact HB.out | apply below_alloc | apply pw_below_drewN | apply below_drew1) | exact HB.out)⟩
  · rw [if_neg c5] at H
    have c5b0 : decide ((t207.size : Int) < (t209.size : Int)) = false := decide_eq_false c5
    have c5b1 : decide (t207.size < t209.size) = false := decide_eq_false (fun h => c5 (Int.ofNat_lt.mpr h))
    clear c5
    by_cases c22 : (t207.size : Int) = (t209.size : Int)
    · rw [if_pos c22] at H
      have c22b0 : ((t207.size : Int) == (t209.size : Int)) = true := beq_iff_eq.mpr c22
      have c22b1 : ((t207.size : Int) != (t209.size : Int)) = false := bne_eq_false_iff_eq.mpr c22
      have c22b2 : (t207.size == t209.size) = true := by first | simpa using c22 | (simp at c22 ⊢; omega)
      clear c22
      by_cases c23 : t208 = 0
      · rw [if_pos c23] at H
        have c23b0 : (t208 == 0) = true := beq_iff_eq.mpr c23
        have c23b1 : (t208 != 0) = false := bne_eq_false_iff_eq.mpr c23
        clear c23
        by_cases c24 : t210 = 0
        · rw [if_pos c24] at H
          have c24b0 : (t210 == 0) = true := beq_iff_eq.mpr c24
          have c24b1 : (t210 != 0) = false := bne_eq_false_iff_eq.mpr c24
          clear c24
          by_cases c25 : ((Op.bytesLess t207.toList t209.toList) == (decide ((Go.bits .and .i64 a0 4611686018427387903) < (Go.bits .and .i64 a1 4611686018427387903)))) = true
          · rw [if_pos c25] at H
            have c25b0 : ((Op.bytesLess t207.toList t209.toList) == (decide ((Go.bits .and .i64 a0 4611686018427387903) < (Go.bits .and .i64 a1 4611686018427387903)))) = true := c25
            (try (have c25b1 : decide ((Op.bytesLess t207.toList t209.toList) = (decide ((Go.bits .and .i64 a0 4611686018427387903) < (Go.bits .and .i64 a1 4611686018427387903)))) = true := by simpa using c25))
            (try (have c25b2 : ((Op.bytesLess t207.toList t209.toList) == (decide ((Go.bits .and .i64 a0 4611686018427387903) < (Go.bits .and .i64 a1 4611686018427387903)))) = true := by simpa using c25))
            clear c25
            by_cases c26 : ((t207.toList == t209.toList) == ((Go.bits .and .i64 a0 4611686018427387903) == (Go.bits .and .i64 a1 4611686018427387903))) = true
            · rw [if_pos c26] at H
              have c26b0 : ((t207.toList == t209.toList) == ((Go.bits .and .i64 a0 4611686018427387903) == (Go.bits .and .i64 a1 4611686018427387903))) = true := c26
              (try (have c26b1 : decide ((t207.toList == t209.toList) = ((Go.bits .and .i64 a0 4611686018427387903) == (Go.bits .and .i64 a1 4611686018427387903))) = true := by simpa using c26))
              (try (have c26b2 : ((t207.toList == t209.toList) == ((Go.bits .and .i64 a0 4611686018427387903) == (Go.bits .and .i64 a1 4611686018427387903))) = true := by simpa using c26))
              clear c26
              replace H := Option.bind_eq_some_iff.mp H
              obtain ⟨t212, A270, H⟩ := H
              replace H : (some t212) = some r := H
              have A27 := Aside0.mk A270
              clear A270
              obtain rfl := Option.some.inj H
              go_enter Tryd.func8, Tryd.ntmps8
              go_wp2_with (first | ((with_reducible refine gate_callee (f := 18) rfl ?_); refine goesL_ (some 18) rfl rfl Tryd.func18 (by kernel_rfl) rfl #[.int .i64 (Go.bits .and .i64 a0 4611686018427387903)] rfl (by (try simp only [List.map_toArray, List.map_cons, List.map_nil]); first | done | rfl | (simp only [List.length_drop, List.length_take]; rfl)) ?_; (with_reducible refine (digits_Text.calls (Go.bits .and .i64 a0 4611686018427387903) t207 t208 _ ?side1 A3.out).mono ?_); (case side1 => exact TAB.below HT.out (by repeat (first | (with_reducible first | exact HB.out | apply below_alloc | apply pw_below_drewN | apply below_drew1) | exact HB.out))); rintro e w28 ⟨rfl, hb⟩; refine ⟨_, rfl, ?_⟩; have n0_ := Aside0.mk (below_step (by repeat (first | (with_reducible first | exact HB.out | apply below_alloc | apply pw_below_drewN | apply below_drew1) | exact HB.out)) hb); clear HB; have HB := n0_; clear n0_; (try clear hb); (try clear hb2); (try clear hk); (try clear hi)) | ((with_reducible refine gate_callee (f := 18) rfl ?_); refine goesL_ (some 23) rfl rfl Tryd.func18 (by kernel_rfl) rfl #[.int .i64 (Go.bits .and .i64 a1 4611686018427387903)] rfl (by (try simp only [List.map_toArray, List.map_cons, List.map_nil]); first | done | rfl | (simp only [List.length_drop, List.length_take]; rfl)) ?_; (with_reducible refine (digits_Text.calls (Go.bits .and .i64 a1 4611686018427387903) t209 t210 _ ?side1 A4.out).mono ?_); (case side1 => exact TAB.below HT.out (by repeat (first | (with_reducible first | exact HB.out | apply below_alloc | apply pw_below_drewN | apply below_drew1) | exact HB.out))); rintro e w29 ⟨rfl, hb⟩; refine ⟨_, rfl, ?_⟩; have n0_ := Aside0.mk (below_step (by repeat (first | (with_reducible first | exact HB.out | apply below_alloc | apply pw_below_drewN | apply below_drew1) | exact HB.out)) hb); clear HB; have HB := n0_; clear n0_; (try clear hb); (try clear hb2); (try clear hk); (try clear hi)) | (go_at_call 15; (with_reducible refine (colophonlaw05_awake.calls k  t212 _ ?side1 A27.out).mono ?_); (case side1 => exact TAB.below HT.out (by repeat (first | (with_reducible first | exact HB.out | apply below_alloc | apply pw_below_drewN | apply below_drew1) | exact HB.out))); rintro e w30 ⟨rfl, hb⟩; have n0_ := Aside0.mk (below_step (by repeat (first | (with_reducible first | exact HB.out | apply below_alloc | apply pw_below_drewN | apply below_drew1) | exact HB.out)) hb); clear HB; have HB := n0_; clear n0_; (try clear hb); (try clear hb2); (try clear hk); (try clear hi)))
              go_ret
              exact ⟨by first | rfl | (simp [errW_none, errW_some] <;> rfl) | (simp [*, errW_none, errW_some] <;> rfl), by repeat (first | (with_reducible first | exact HB.out | apply below_alloc | apply pw_below_drewN | apply below_drew1) | exact HB.out)⟩
            · rw [if_neg c26] at H
              have c26b0 : ((t207.toList == t209.toList) == ((Go.bits .and .i64 a0 4611686018427387903) == (Go.bits .and .i64 a1 4611686018427387903))) = false := by simpa using c26
              (try (have c26b1 : decide ((t207.toList == t209.toList) = ((Go.bits .and .i64 a0 4611686018427387903) == (Go.bits .and .i64 a1 4611686018427387903))) = false := by simpa using c26))
              (try (have c26b2 : ((t207.toList == t209.toList) == ((Go.bits .and .i64 a0 4611686018427387903) == (Go.bits .and .i64 a1 4611686018427387903))) = false := by simpa using c26))
              (try (have c26b3 : ¬ ((t207.toList == t209.toList) = ((Go.bits .and .i64 a0 4611686018427387903) == (Go.bits .and .i64 a1 4611686018427387903))) := by simpa using c26))
              clear c26
              obtain rfl := Option.some.inj H
              go_enter Tryd.func8, Tryd.ntmps8
              go_wp2_with (first | ((with_reducible refine gate_callee (f := 18) rfl ?_); refine goesL_ (some 18) rfl rfl Tryd.func18 (by kernel_rfl) rfl #[.int .i64 (Go.bits .and .i64 a0 4611686018427387903)] rfl (by (try simp only [List.map_toArray, List.map_cons, List.map_nil]); first | done | rfl | (simp only [List.length_drop, List.length_take]; rfl)) ?_; (with_reducible refine (digits_Text.calls (Go.bits .and .i64 a0 4611686018427387903) t207 t208 _ ?side1 A3.out).mono ?_); (case side1 => exact TAB.below HT.out (by repeat (first | (with_reducible first | exact HB.out | apply below_alloc | apply pw_below_drewN | apply below_drew1) | exact HB.out))); rintro e w31 ⟨rfl, hb⟩; refine ⟨_, rfl, ?_⟩; have n0_ := Aside0.mk (below_step (by repeat (first | (with_reducible first | exact HB.out | apply below_alloc | apply pw_below_drewN | apply below_drew1) | exact HB.out)) hb); clear HB; have HB := n0_; clear n0_; (try clear hb); (try clear hb2); (try clear hk); (try clear hi)) | ((with_reducible refine gate_callee (f := 18) rfl ?_); refine goesL_ (some 23) rfl rfl Tryd.func18 (by kernel_rfl) rfl #[.int .i64 (Go.bits .and .i64 a1 4611686018427387903)] rfl (by (try simp only [List.map_toArray, List.map_cons, List.map_nil]); first | done | rfl | (simp only [List.length_drop, List.length_take]; rfl)) ?_; (with_reducible refine (digits_Text.calls (Go.bits .and .i64 a1 4611686018427387903) t209 t210 _ ?side1 A4.out).mono ?_); (case side1 => exact TAB.below HT.out (by repeat (first | (with_reducible first | exact HB.out | apply below_alloc | apply pw_below_drewN | apply below_drew1) | exact HB.out))); rintro e w32 ⟨rfl, hb⟩; refine ⟨_, rfl, ?_⟩; have n0_ := Aside0.mk (below_step (by repeat (first | (with_reducible first | exact HB.out | apply below_alloc | apply pw_below_drewN | apply below_drew1) | exact HB.out)) hb); clear HB; have HB := n0_; clear n0_; (try clear hb); (try clear hb2); (try clear hk); (try clear hi)))
              go_ret
              exact ⟨by first | rfl | (simp [errW_none, errW_some] <;> rfl) | (simp [*, errW_none, errW_some] <;> rfl), by repeat (first | (with_reducible first | exact HB.out | apply below_alloc | apply pw_below_drewN | apply below_drew1) | exact HB.out)⟩
          · rw [if_neg c25] at H
            have c25b0 : ((Op.bytesLess t207.toList t209.toList) == (decide ((Go.bits .and .i64 a0 4611686018427387903) < (Go.bits .and .i64 a1 4611686018427387903)))) = false := by simpa using c25
            (try (have c25b1 : decide ((Op.bytesLess t207.toList t209.toList) = (decide ((Go.bits .and .i64 a0 4611686018427387903) < (Go.bits .and .i64 a1 4611686018427387903)))) = false := by simpa using c25))
            (try (have c25b2 : ((Op.bytesLess t207.toList t209.toList) == (decide ((Go.bits .and .i64 a0 4611686018427387903) < (Go.bits .and .i64 a1 4611686018427387903)))) = false := by simpa using c25))
            (try (have c25b3 : ¬ ((Op.bytesLess t207.toList t209.toList) = (decide ((Go.bits .and .i64 a0 4611686018427387903) < (Go.bits .and .i64 a1 4611686018427387903)))) := by simpa using c25))
            clear c25
            obtain rfl := Option.some.inj H
            go_enter Tryd.func8, Tryd.ntmps8
            go_wp2_with (first | ((with_reducible refine gate_callee (f := 18) rfl ?_); refine goesL_ (some 18) rfl rfl Tryd.func18 (by kernel_rfl) rfl #[.int .i64 (Go.bits .and .i64 a0 4611686018427387903)] rfl (by (try simp only [List.map_toArray, List.map_cons, List.map_nil]); first | done | rfl | (simp only [List.length_drop, List.length_take]; rfl)) ?_; (with_reducible refine (digits_Text.calls (Go.bits .and .i64 a0 4611686018427387903) t207 t208 _ ?side1 A3.out).mono ?_); (case side1 => exact TAB.below HT.out (by repeat (first | (with_reducible first | exact HB.out | apply below_alloc | apply pw_below_drewN | apply below_drew1) | exact HB.out))); rintro e w33 ⟨rfl, hb⟩; refine ⟨_, rfl, ?_⟩; have n0_ := Aside0.mk (below_step (by repeat (first | (with_reducible first | exact HB.out | apply below_alloc | apply pw_below_drewN | apply below_drew1) | exact HB.out)) hb); clear HB; have HB := n0_; clear n0_; (try clear hb); (try clear hb2); (try clear hk); (try clear hi)) | ((with_reducible refine gate_callee (f := 18) rfl ?_); refine goesL_ (some 23) rfl rfl Tryd.func18 (by kernel_rfl) rfl #[.int .i64 (Go.bits .and .i64 a1 4611686018427387903)] rfl (by (try simp only [List.map_toArray, List.map_cons, List.map_nil]); first | done | rfl | (simp only [List.length_drop, List.length_take]; rfl)) ?_; (with_reducible refine (digits_Text.calls (Go.bits .and .i64 a1 4611686018427387903) t209 t210 _ ?side1 A4.out).mono ?_); (case side1 => exact TAB.below HT.out (by repeat (first | (with_reducible first | exact HB.out | apply below_alloc | apply pw_below_drewN | apply below_drew1) | exact HB.out))); rintro e w34 ⟨rfl, hb⟩; refine ⟨_, rfl, ?_⟩; have n0_ := Aside0.mk (below_step (by repeat (first | (with_reducible first | exact HB.out | apply below_alloc | apply pw_below_drewN | apply below_drew1) | exact HB.out)) hb); clear HB; have HB := n0_; clear n0_; (try clear hb); (try clear hb2); (try clear hk); (try clear hi)))
            go_ret
            exact ⟨by first | rfl | (simp [errW_none, errW_some] <;> rfl) | (simp [*, errW_none, errW_some] <;> rfl), by repeat (first | (with_reducible first | exact HB.out | apply below_alloc | apply pw_below_drewN | apply below_drew1) | exact HB.out)⟩
        · rw [if_neg c24] at H
          have c24b0 : (t210 == 0) = false := beq_eq_false_iff_ne.mpr c24
          have c24b1 : (t210 != 0) = true := bne_iff_ne.mpr c24
          obtain rfl := Option.some.inj H
          go_enter Tryd.func8, Tryd.ntmps8
          go_wp2_with (first | ((with_reducible refine gate_callee (f := 18) rfl ?_); refine goesL_ (some 18) rfl rfl Tryd.func18 (by kernel_rfl) rfl #[.int .i64 (Go.bits .and .i64 a0 4611686018427387903)] rfl (by (try simp only [List.map_toArray, List.map_cons, List.map_nil]); first | done | rfl | (simp only [List.length_drop, List.length_take]; rfl)) ?_; (with_reducible refine (digits_Text.calls (Go.bits .and .i64 a0 4611686018427387903) t207 t208 _ ?side1 A3.out).mono ?_); (case side1 => exact TAB.below HT.out (by repeat (first | (with_reducible first | exact HB.out | apply below_alloc | apply pw_below_drewN | apply below_drew1) | exact HB.out))); rintro e w35 ⟨rfl, hb⟩; refine ⟨_, rfl, ?_⟩; have n0_ := Aside0.mk (below_step (by repeat (first | (with_reducible first | exact HB.out | apply below_alloc | apply pw_below_drewN | apply below_drew1) | exact HB.out)) hb); clear HB; have HB := n0_; clear n0_; (try clear hb); (try clear hb2); (try clear hk); (try clear hi)) | ((with_reducible refine gate_callee (f := 18) rfl ?_); refine goesL_ (some 23) rfl rfl Tryd.func18 (by kernel_rfl) rfl #[.int .i64 (Go.bits .and .i64 a1 4611686018427387903)] rfl (by (try simp only [List.map_toArray, List.map_cons, List.map_nil]); first | done | rfl | (simp only [List.length_drop, List.length_take]; rfl)) ?_; (with_reducible refine (digits_Text.calls (Go.bits .and .i64 a1 4611686018427387903) t209 t210 _ ?side1 A4.out).mono ?_); (case side1 => exact TAB.below HT.out (by repeat (first | (with_reducible first | exact HB.out | apply below_alloc | apply pw_below_drewN | apply below_drew1) | exact HB.out))); rintro e w36 ⟨rfl, hb⟩; refine ⟨_, rfl, ?_⟩; have n0_ := Aside0.mk (below_step (by repeat (first | (with_reducible first | exact HB.out | apply below_alloc | apply pw_below_drewN | apply below_drew1) | exact HB.out)) hb); clear HB; have HB := n0_; clear n0_; (try clear hb); (try clear hb2); (try clear hk); (try clear hi)))
          go_ret
          exact ⟨by first | rfl | (simp [errW_none, errW_some] <;> rfl) | (simp [*, errW_none, errW_some] <;> rfl), by repeat (first | (with_reducible first | exact HB.out | apply below_alloc | apply pw_below_drewN | apply below_drew1) | exact HB.out)⟩
      · rw [if_neg c23] at H
        have c23b0 : (t208 == 0) = false := beq_eq_false_iff_ne.mpr c23
        have c23b1 : (t208 != 0) = true := bne_iff_ne.mpr c23
        obtain rfl := Option.some.inj H
        go_enter Tryd.func8, Tryd.ntmps8
        go_wp2_with (first | ((with_reducible refine gate_callee (f := 18) rfl ?_); refine goesL_ (some 18) rfl rfl Tryd.func18 (by kernel_rfl) rfl #[.int .i64 (Go.bits .and .i64 a0 4611686018427387903)] rfl (by (try simp only [List.map_toArray, List.map_cons, List.map_nil]); first | done | rfl | (simp only [List.length_drop, List.length_take]; rfl)) ?_; (with_reducible refine (digits_Text.calls (Go.bits .and .i64 a0 4611686018427387903) t207 t208 _ ?side1 A3.out).mono ?_); (case side1 => exact TAB.below HT.out (by repeat (first | (with_reducible first | exact HB.out | apply below_alloc | apply pw_below_drewN | apply below_drew1) | exact HB.out))); rintro e w37 ⟨rfl, hb⟩; refine ⟨_, rfl, ?_⟩; have n0_ := Aside0.mk (below_step (by repeat (first | (with_reducible first | exact HB.out | apply below_alloc | apply pw_below_drewN | apply below_drew1) | exact HB.out)) hb); clear HB; have HB := n0_; clear n0_; (try clear hb); (try clear hb2); (try clear hk); (try clear hi)) | ((with_reducible refine gate_callee (f := 18) rfl ?_); refine goesL_ (some 23) rfl rfl Tryd.func18 (by kernel_rfl) rfl #[.int .i64 (Go.bits .and .i64 a1 4611686018427387903)] rfl (by (try simp only [List.map_toArray, List.map_cons, List.map_nil]); first | done | rfl | (simp only [List.length_drop, List.length_take]; rfl)) ?_; (with_reducible refine (digits_Text.calls (Go.bits .and .i64 a1 4611686018427387903) t209 t210 _ ?side1 A4.out).mono ?_); (case side1 => exact TAB.below HT.out (by repeat (first | (with_reducible first | exact HB.out | apply below_alloc | apply pw_below_drewN | apply below_drew1) | exact HB.out))); rintro e w38 ⟨rfl, hb⟩; refine ⟨_, rfl, ?_⟩; have n0_ := Aside0.mk (below_step (by repeat (first | (with_reducible first | exact HB.out | apply below_alloc | apply pw_below_drewN | apply below_drew1) | exact HB.out)) hb); clear HB; have HB := n0_; clear n0_; (try clear hb); (try clear hb2); (try clear hk); (try clear hi)))
        go_ret
        exact ⟨by first | rfl | (simp [errW_none, errW_some] <;> rfl) | (simp [*, errW_none, errW_some] <;> rfl), by repeat (first | (with_reducible first | exact HB.out | apply below_alloc | apply pw_below_drewN | apply below_drew1) | exact HB.out)⟩
    · rw [if_neg c22] at H
      have c22b0 : ((t207.size : Int) == (t209.size : Int)) = false := beq_eq_false_iff_ne.mpr c22
      have c22b1 : ((t207.size : Int) != (t209.size : Int)) = true := bne_iff_ne.mpr c22
      have c22b2 : (t207.size == t209.size) = false := by first | simpa using c22 | (simp at c22 ⊢; omega)
      by_cases c39 : t208 = 0
      · rw [if_pos c39] at H
        have c39b0 : (t208 == 0) = true := beq_iff_eq.mpr c39
        have c39b1 : (t208 != 0) = false := bne_eq_false_iff_eq.mpr c39
        clear c39
        by_cases c40 : t210 = 0
        · rw [if_pos c40] at H
          have c40b0 : (t210 == 0) = true := beq_iff_eq.mpr c40
          have c40b1 : (t210 != 0) = false := bne_eq_false_iff_eq.mpr c40
          clear c40
          by_cases c41 : (false == (decide ((Go.bits .and .i64 a0 4611686018427387903) < (Go.bits .and .i64 a1 4611686018427387903)))) = true
          · rw [if_pos c41] at H
            have c41b0 : (false == (decide ((Go.bits .and .i64 a0 4611686018427387903) < (Go.bits .and .i64 a1 4611686018427387903)))) = true := c41
            (try (have c41b1 : decide (false = (decide ((Go.bits .and .i64 a0 4611686018427387903) < (Go.bits .and .i64 a1 4611686018427387903)))) = true := by simpa using c41))
            (try (have c41b2 : (false == (decide ((Go.bits .and .i64 a0 4611686018427387903) < (Go.bits .and .i64 a1 4611686018427387903)))) = true := by simpa using c41))
            clear c41
            by_cases c42 : ((t207.toList == t209.toList) == ((Go.bits .and .i64 a0 4611686018427387903) == (Go.bits .and .i64 a1 4611686018427387903))) = true
            · rw [if_pos c42] at H
              have c42b0 : ((t207.toList == t209.toList) == ((Go.bits .and .i64 a0 4611686018427387903) == (Go.bits .and .i64 a1 4611686018427387903))) = true := c42
              (try (have c42b1 : decide ((t207.toList == t209.toList) = ((Go.bits .and .i64 a0 4611686018427387903) == (Go.bits .and .i64 a1 4611686018427387903))) = true := by simpa using c42))
              (try (have c42b2 : ((t207.toList == t209.toList) == ((Go.bits .and .i64 a0 4611686018427387903) == (Go.bits .and .i64 a1 4611686018427387903))) = true := by simpa using c42))
              clear c42
              replace H := Option.bind_eq_some_iff.mp H
              obtain ⟨t213, A430, H⟩ := H
              replace H : (some t213) = some r := H
              have A43 := Aside0.mk A430
              clear A430
              obtain rfl := Option.some.inj H
              go_enter Tryd.func8, Tryd.ntmps8
              go_wp2_with (first | ((with_reducible refine gate_callee (f := 18) rfl ?_); refine goesL_ (some 18) rfl rfl Tryd.func18 (by kernel_rfl) rfl #[.int .i64 (Go.bits .and .i64 a0 4611686018427387903)] rfl (by (try simp only [List.map_toArray, List.map_cons, List.map_nil]); first | done | rfl | (simp only [List.length_drop, List.length_take]; rfl)) ?_; (with_reducible refine (digits_Text.calls (Go.bits .and .i64 a0 4611686018427387903) t207 t208 _ ?side1 A3.out).mono ?_); (case side1 => exact TAB.below HT.out (by repeat (first | (with_reducible first | exact HB.out | apply below_alloc | apply pw_below_drewN | apply below_drew1) | exact HB.out))); rintro e w44 ⟨rfl, hb⟩; refine ⟨_, rfl, ?_⟩; have n0_ := Aside0.mk (below_step (by repeat (first | (with_reducible first | exact HB.out | apply below_alloc | apply pw_below_drewN | apply below_drew1) | exact HB.out)) hb); clear HB; have HB := n0_; clear n0_; (try clear hb); (try clear hb2); (try clear hk); (try clear hi)) | ((with_reducible refine gate_callee (f := 18) rfl ?_); refine goesL_ (some 23) rfl rfl Tryd.func18 (by kernel_rfl) rfl #[.int .i64 (Go.bits .and .i64 a1 4611686018427387903)] rfl (by (try simp only [List.map_toArray, List.map_cons, List.map_nil]); first | done | rfl | (simp only [List.length_drop, List.length_take]; rfl)) ?_; (with_reducible refine (digits_Text.calls (Go.bits .and .i64 a1 4611686018427387903) t209 t210 _ ?side1 A4.out).mono ?_); (case side1 => exact TAB.below HT.out (by repeat (first | (with_reducible first | exact HB.out | apply below_alloc | apply pw_below_drewN | apply below_drew1) | exact HB.out))); rintro e w45 ⟨rfl, hb⟩; refine ⟨_, rfl, ?_⟩; have n0_ := Aside0.mk (below_step (by repeat (first | (with_reducible first | exact HB.out | apply below_alloc | apply pw_below_drewN | apply below_drew1) | exact HB.out)) hb); clear HB; have HB := n0_; clear n0_; (try clear hb); (try clear hb2); (try clear hk); (try clear hi)) | (go_at_call 15; (with_reducible refine (colophonlaw05_awake.calls k  t213 _ ?side1 A43.out).mono ?_); (case side1 => exact TAB.below HT.out (by repeat (first | (with_reducible first | exact HB.out | apply below_alloc | apply pw_below_drewN | apply below_drew1) | exact HB.out))); rintro e w46 ⟨rfl, hb⟩; have n0_ := Aside0.mk (below_step (by repeat (first | (with_reducible first | exact HB.out | apply below_alloc | apply pw_below_drewN | apply below_drew1) | exact HB.out)) hb); clear HB; have HB := n0_; clear n0_; (try clear hb); (try clear hb2); (try clear hk); (try clear hi)))
              go_ret
              exact ⟨by first | rfl | (simp [errW_none, errW_some] <;> rfl) | (simp [*, errW_none, errW_some] <;> rfl), by repeat (first | (with_reducible first | exact HB.out | apply below_alloc | apply pw_below_drewN | apply below_drew1) | exact HB.out)⟩
            · rw [if_neg c42] at H
              have c42b0 : ((t207.toList == t209.toList) == ((Go.bits .and .i64 a0 4611686018427387903) == (Go.bits .and .i64 a1 4611686018427387903))) = false := by simpa using c42
              (try (have c42b1 : decide ((t207.toList == t209.toList) = ((Go.bits .and .i64 a0 4611686018427387903) == (Go.bits .and .i64 a1 4611686018427387903))) = false := by simpa using c42))
              (try (have c42b2 : ((t207.toList == t209.toList) == ((Go.bits .and .i64 a0 4611686018427387903) == (Go.bits .and .i64 a1 4611686018427387903))) = false := by simpa using c42))
              (try (have c42b3 : ¬ ((t207.toList == t209.toList) = ((Go.bits .and .i64 a0 4611686018427387903) == (Go.bits .and .i64 a1 4611686018427387903))) := by simpa using c42))
              clear c42
              obtain rfl := Option.some.inj H
              go_enter Tryd.func8, Tryd.ntmps8
              go_wp2_with (first | ((with_reducible refine gate_callee (f := 18) rfl ?_); refine goesL_ (some 18) rfl rfl Tryd.func18 (by kernel_rfl) rfl #[.int .i64 (Go.bits .and .i64 a0 4611686018427387903)] rfl (by (try simp only [List.map_toArray, List.map_cons, List.map_nil]); first | done | rfl | (simp only [List.length_drop, List.length_take]; rfl)) ?_; (with_reducible refine (digits_Text.calls (Go.bits .and .i64 a0 4611686018427387903) t207 t208 _ ?side1 A3.out).mono ?_); (case side1 => exact TAB.below HT.out (by repeat (first | (with_reducible first | exact HB.out | apply below_alloc | apply pw_below_drewN | apply below_drew1) | exact HB.out))); rintro e w47 ⟨rfl, hb⟩; refine ⟨_, rfl, ?_⟩; have n0_ := Aside0.mk (below_step (by repeat (first | (with_reducible first | exact HB.out | apply below_alloc | apply pw_below_drewN | apply below_drew1) | exact HB.out)) hb); clear HB; have HB := n0_; clear n0_; (try clear hb); (try clear hb2); (try clear hk); (try clear hi)) | ((with_reducible refine gate_callee (f := 18) rfl ?_); refine goesL_ (some 23) rfl rfl Tryd.func18 (by kernel_rfl) rfl #[.int .i64 (Go.bits .and .i64 a1 4611686018427387903)] rfl (by (try simp only [List.map_toArray, List.map_cons, List.map_nil]); first | done | rfl | (simp only [List.length_drop, List.length_take]; rfl)) ?_; (with_reducible refine (digits_Text.calls (Go.bits .and .i64 a1 4611686018427387903) t209 t210 _ ?side1 A4.out).mono ?_); (case side1 => exact TAB.below HT.out (by repeat (first | (with_reducible first | exact HB.out | apply below_alloc | apply pw_below_drewN | apply below_drew1) | exact HB.out))); rintro e w48 ⟨rfl, hb⟩; refine ⟨_, rfl, ?_⟩; have n0_ := Aside0.mk (below_step (by repeat (first | (with_reducible first | exact HB.out | apply below_alloc | apply pw_below_drewN | apply below_drew1) | exact HB.out)) hb); clear HB; have HB := n0_; clear n0_; (try clear hb); (try clear hb2); (try clear hk); (try clear hi)))
              go_ret
              exact ⟨by first | rfl | (simp [errW_none, errW_some] <;> rfl) | (simp [*, errW_none, errW_some] <;> rfl), by repeat (first | (with_reducible first | exact HB.out | apply below_alloc | apply pw_below_drewN | apply below_drew1) | exact HB.out)⟩
          · rw [if_neg c41] at H
            have c41b0 : (false == (decide ((Go.bits .and .i64 a0 4611686018427387903) < (Go.bits .and .i64 a1 4611686018427387903)))) = false := by simpa using c41
            (try (have c41b1 : decide (false = (decide ((Go.bits .and .i64 a0 4611686018427387903) < (Go.bits .and .i64 a1 4611686018427387903)))) = false := by simpa using c41))
            (try (have c41b2 : (false == (decide ((Go.bits .and .i64 a0 4611686018427387903) < (Go.bits .and .i64 a1 4611686018427387903)))) = false := by simpa using c41))
            (try (have c41b3 : ¬ (false = (decide ((Go.bits .and .i64 a0 4611686018427387903) < (Go.bits .and .i64 a1 4611686018427387903)))) := by simpa using c41))
            clear c41
            obtain rfl := Option.some.inj H
            go_enter Tryd.func8, Tryd.ntmps8
            go_wp2_with (first | ((with_reducible refine gate_callee (f := 18) rfl ?_); refine goesL_ (some 18) rfl rfl Tryd.func18 (by kernel_rfl) rfl #[.int .i64 (Go.bits .and .i64 a0 4611686018427387903)] rfl (by (try simp only [List.map_toArray, List.map_cons, List.map_nil]); first | done | rfl | (simp only [List.length_drop, List.length_take]; rfl)) ?_; (with_reducible refine (digits_Text.calls (Go.bits .and .i64 a0 4611686018427387903) t207 t208 _ ?side1 A3.out).mono ?_); (case side1 => exact TAB.below HT.out (by repeat (first | (with_reducible first | exact HB.out | apply below_alloc | apply pw_below_drewN | apply below_drew1) | exact HB.out))); rintro e w49 ⟨rfl, hb⟩; refine ⟨_, rfl, ?_⟩; have n0_ := Aside0.mk (below_step (by repeat (first | (with_reducible first | exact HB.out | apply below_alloc | apply pw_below_drewN | apply below_drew1) | exact HB.out)) hb); clear HB; have HB := n0_; clear n0_; (try clear hb); (try clear hb2); (try clear hk); (try clear hi)) | ((with_reducible refine gate_callee (f := 18) rfl ?_); refine goesL_ (some 23) rfl rfl Tryd.func18 (by kernel_rfl) rfl #[.int .i64 (Go.bits .and .i64 a1 4611686018427387903)] rfl (by (try simp only [List.map_toArray, List.map_cons, List.map_nil]); first | done | rfl | (simp only [List.length_drop, List.length_take]; rfl)) ?_; (with_reducible refine (digits_Text.calls (Go.bits .and .i64 a1 4611686018427387903) t209 t210 _ ?side1 A4.out).mono ?_); (case side1 => exact TAB.below HT.out (by repeat (first | (with_reducible first | exact HB.out | apply below_alloc | apply pw_below_drewN | apply below_drew1) | exact HB.out))); rintro e w50 ⟨rfl, hb⟩; refine ⟨_, rfl, ?_⟩; have n0_ := Aside0.mk (below_step (by repeat (first | (with_reducible first | exact HB.out | apply below_alloc | apply pw_below_drewN | apply below_drew1) | exact HB.out)) hb); clear HB; have HB := n0_; clear n0_; (try clear hb); (try clear hb2); (try clear hk); (try clear hi)))
            go_ret
            exact ⟨by first | rfl | (simp [errW_none, errW_some] <;> rfl) | (simp [*, errW_none, errW_some] <;> rfl), by repeat (first | (with_reducible first | exact HB.out | apply below_alloc | apply pw_below_drewN | apply below_drew1) | exact HB.out)⟩
        · rw [if_neg c40] at H
          have c40b0 : (t210 == 0) = false := beq_eq_false_iff_ne.mpr c40
          have c40b1 : (t210 != 0) = true := bne_iff_ne.mpr c40
          obtain rfl := Option.some.inj H
          go_enter Tryd.func8, Tryd.ntmps8
          go_wp2_with (first | ((with_reducible refine gate_callee (f := 18) rfl ?_); refine goesL_ (some 18) rfl rfl Tryd.func18 (by kernel_rfl) rfl #[.int .i64 (Go.bits .and .i64 a0 4611686018427387903)] rfl (by (try simp only [List.map_toArray, List.map_cons, List.map_nil]); first | done | rfl | (simp only [List.length_drop, List.length_take]; rfl)) ?_; (with_reducible refine (digits_Text.calls (Go.bits .and .i64 a0 4611686018427387903) t207 t208 _ ?side1 A3.out).mono ?_); (case side1 => exact TAB.below HT.out (by repeat (first | (with_reducible first | exact HB.out | apply below_alloc | apply pw_below_drewN | apply below_drew1) | exact HB.out))); rintro e w51 ⟨rfl, hb⟩; refine ⟨_, rfl, ?_⟩; have n0_ := Aside0.mk (below_step (by repeat (first | (with_reducible first | exact HB.out | apply below_alloc | apply pw_below_drewN | apply below_drew1) | exact HB.out)) hb); clear HB; have HB := n0_; clear n0_; (try clear hb); (try clear hb2); (try clear hk); (try clear hi)) | ((with_reducible refine gate_callee (f := 18) rfl ?_); refine goesL_ (some 23) rfl rfl Tryd.func18 (by kernel_rfl) rfl #[.int .i64 (Go.bits .and .i64 a1 4611686018427387903)] rfl (by (try simp only [List.map_toArray, List.map_cons, List.map_nil]); first | done | rfl | (simp only [List.length_drop, List.length_take]; rfl)) ?_; (with_reducible refine (digits_Text.calls (Go.bits .and .i64 a1 4611686018427387903) t209 t210 _ ?side1 A4.out).mono ?_); (case side1 => exact TAB.below HT.out (by repeat (first | (with_reducible first | exact HB.out | apply below_alloc | apply pw_below_drewN | apply below_drew1) | exact HB.out))); rintro e w52 ⟨rfl, hb⟩; refine ⟨_, rfl, ?_⟩; have n0_ := Aside0.mk (below_step (by repeat (first | (with_reducible first | exact HB.out | apply below_alloc | apply pw_below_drewN | apply below_drew1) | exact HB.out)) hb); clear HB; have HB := n0_; clear n0_; (try clear hb); (try clear hb2); (try clear hk); (try clear hi)))
          go_ret
          exact ⟨by first | rfl | (simp [errW_none, errW_some] <;> rfl) | (simp [*, errW_none, errW_some] <;> rfl), by repeat (first | (with_reducible first | exact HB.out | apply below_alloc | apply pw_below_drewN | apply below_drew1) | exact HB.out)⟩
      · rw [if_neg c39] at H
        have c39b0 : (t208 == 0) = false := beq_eq_false_iff_ne.mpr c39
        have c39b1 : (t208 != 0) = true := bne_iff_ne.mpr c39
        obtain rfl := Option.some.inj H
        go_enter Tryd.func8, Tryd.ntmps8
        go_wp2_with (first | ((with_reducible refine gate_callee (f := 18) rfl ?_); refine goesL_ (some 18) rfl rfl Tryd.func18 (by kernel_rfl) rfl #[.int .i64 (Go.bits .and .i64 a0 4611686018427387903)] rfl (by (try simp only [List.map_toArray, List.map_cons, List.map_nil]); first | done | rfl | (simp only [List.length_drop, List.length_take]; rfl)) ?_; (with_reducible refine (digits_Text.calls (Go.bits .and .i64 a0 4611686018427387903) t207 t208 _ ?side1 A3.out).mono ?_); (case side1 => exact TAB.below HT.out (by repeat (first | (with_reducible first | exact HB.out | apply below_alloc | apply pw_below_drewN | apply below_drew1) | exact HB.out))); rintro e w53 ⟨rfl, hb⟩; refine ⟨_, rfl, ?_⟩; have n0_ := Aside0.mk (below_step (by repeat (first | (with_reducible first | exact HB.out | apply below_alloc | apply pw_below_drewN | apply below_drew1) | exact HB.out)) hb); clear HB; have HB := n0_; clear n0_; (try clear hb); (try clear hb2); (try clear hk); (try clear hi)) | ((with_reducible refine gate_callee (f := 18) rfl ?_); refine goesL_ (some 23) rfl rfl Tryd.func18 (by kernel_rfl) rfl #[.int .i64 (Go.bits .and .i64 a1 4611686018427387903)] rfl (by (try simp only [List.map_toArray, List.map_cons, List.map_nil]); first | done | rfl | (simp only [List.length_drop, List.length_take]; rfl)) ?_; (with_reducible refine (digits_Text.calls (Go.bits .and .i64 a1 4611686018427387903) t209 t210 _ ?side1 A4.out).mono ?_); (case side1 => exact TAB.below HT.out (by repeat (first | (with_reducible first | exact HB.out | apply below_alloc | apply pw_below_drewN | apply below_drew1) | exact HB.out))); rintro e w54 ⟨rfl, hb⟩; refine ⟨_, rfl, ?_⟩; have n0_ := Aside0.mk (below_step (by repeat (first | (with_reducible first | exact HB.out | apply below_alloc | apply pw_below_drewN | apply below_drew1) | exact HB.out)) hb); clear HB; have HB := n0_; clear n0_; (try clear hb); (try clear hb2); (try clear hk); (try clear hi)))
        go_ret
        exact ⟨by first | rfl | (simp [errW_none, errW_some] <;> rfl) | (simp [*, errW_none, errW_some] <;> rfl), by repeat (first | (with_reducible first | exact HB.out | apply below_alloc | apply pw_below_drewN | apply below_drew1) | exact HB.out)⟩

/-- THE ONE PURE STATEMENT of colophonlaw05_DigitsOrder: yours. -/
def colophonlaw05_DigitsOrder.Pure : Prop := ∀ (a0 : Int) (a1 : Int), (Lit.int .i64 a0).wf = true → (Lit.int .i64 a1).wf = true → ∃ k, colophonlaw05_DigitsOrder.f k a0 a1 = some true
theorem colophonlaw05_DigitsOrder.walk (P : colophonlaw05_DigitsOrder.Pure) (a0 : Int) (a1 : Int) (w : World) (w0 : (Lit.int .i64 a0).wf = true) (w1 : (Lit.int .i64 a1).wf = true) (hT : TAB w) :
    Calls Tryd.prog 8 #[.int .i64 a0, .int .i64 a1] w fun e w' => e = .returned (.bool true) ∧ Below w.heap.size w w' := by
  obtain ⟨k, h⟩ := P a0 a1 w0 w1
  refine (colophonlaw05_DigitsOrder.calls k a0 a1 true w hT h).mono ?_
  rintro e w' ⟨rfl, hd⟩
  exact ⟨rfl, hd⟩

end Go.Proofs.YtfpjlpgebhgfkaaDoor.P
