/- The law PieceList: its walk. -/
import Derived.Test.YtfedlanbmibhkaaS18h
import Derived.Test.YtfedlanbmibhkaaS19hb
namespace Go.Proofs.Ytfedlanbmibhkaa.P
open Go.RowKit Go.Shelf Go.Proofs.YtfedlanbmibhkaaW.PrintWords Go.Proofs.YtfedlanbmibhkaaW.PrintLast Go.Proofs.YtfedlanbmibhkaaW.PrintMore
set_option linter.unusedVariables false
set_option linter.unusedSimpArgs false
attribute [local go_sem] Oper.semAt_some
theorem C_pre_b {w : World} {A : Option Addr} {M : Nat} {xs : List Int} (h : Kd.C (Kd.int .u8) w A M xs) (hl : xs.length = M) (f : Nat) (hf : f ≤ M) : Kd.C (Kd.int .u8) w A f (xs.take f) := by
  subst hl
  have h1 := Kd.C_take h hf
  rwa [show (xs.take f).length = f by rw [List.length_take]; omega] at h1
set_option maxRecDepth 100000 in
set_option maxHeartbeats 4000000 in
theorem list_walk (l : List Int) (A : Option Addr) (c : Nat) (l1 : List (Int × Int × Int)) (A1 : Option Addr) (c1 : Nat) (w : World) (hr : Kd.C (Kd.int .u8) w A l.length l) (hc : l.length ≤ c) (hr1 : k46.C w A1 l1.length l1) (hc1 : l1.length ≤ c1) (hs1 : l1.length * 24 ≤ 140737488351232) : Calls Try.prog 5 #[.slice A l.length c, .slice A1 l1.length c1] w fun e w' => e = .returned (.bool true) ∧ Below w.heap.size w w' := by
  have HR := Aside0.mk hr
  have HR1 := Aside0.mk hr1
  obtain ⟨n, hn⟩ : ∃ n, l.length = n := ⟨_, rfl⟩
  obtain ⟨n1, hn1⟩ : ∃ n1, l1.length = n1 := ⟨_, rfl⟩
  have HN := Aside0.mk hn
  have HN1 := Aside0.mk hn1
  rw [hn] at hc ⊢
  rw [hn1] at hc1 hs1 ⊢
  clear hr hn hr1 hn1
  go_enter Try.func5, Try.ntmps5
  go_upto_region 3 with (first
    | (go_at_call 21; (with_reducible refine (works_calls w).mono ?_); rintro e w1 ⟨rfl, B_⟩; have B1 := Aside0.mk B_; clear B_))
  go_cut [0, 18, 19] (fun s0 s17 s18 wx => ∃ (N : Nat) (xs : List Int), s0 = .slice A N c ∧ s17 = .int .i64 N ∧ s18 = .slice A N c ∧ Aside0 (xs.length = N) ∧ N ≤ 1000 ∧ N ≤ c ∧ Aside0 (Kd.C (Kd.int .u8) w A N xs) ∧ Aside0 (Below w.heap.size w wx))
  case first =>
    go_wp2
    all_goals
      go_meet
      case rel =>
        first
          | (obtain ⟨xs, h1, h2⟩ := C_first HR.out n (by have := HN.out; omega)
             exact ⟨n, xs, rfl, rfl, rfl, ⟨h1⟩, by omega, by omega, ⟨h2⟩, B1⟩)
          | (obtain ⟨xs, h1, h2⟩ := C_first HR.out 1000 (by have := HN.out; omega)
             exact ⟨1000, xs, rfl, rfl, rfl, ⟨h1⟩, by omega, by omega, ⟨h2⟩, B1⟩)
  case rest =>
    obtain ⟨N, xs, rfl, rfl, rfl, HX, hN, hNc, HC, HB⟩ := hcut
    go_wp2_with (first
      | (go_at_call 13; (with_reducible refine (new_first2 HB.out HC.out HX.out hN hNc).mono ?_); rintro e w2 ⟨t, v, ps, rfl, T_, F_, L_, R_, B_⟩; have T := Aside0.mk T_; have HF := Aside0.mk F_; have HL := Aside0.mk (show ps.length ≤ 1 by rw [L_]; omega); have RF := Aside0.mk R_; clear T_ F_ L_ R_ B_)
      | (go_at_call 12; (with_reducible refine (copy_for_b RF.out.C RF.out.len hNc (by omega)).mono ?_); rintro e w3 ⟨v3, rfl, o_, B_⟩; obtain ⟨A3, c3, rfl⟩ := own_slice o_; have T3 := Aside0.mk (T.out.step B_); have R3 := Aside0.mk (Row_b.of_own T.out o_); clear o_ B_))
    go_loopw [6, 7] (fun s6 i wr => ∃ (j M : Nat) (v : Value) (ps : List (List Int)) (A3 : Option Addr) (c3 : Nat), j ≤ 60 ∧ j ≤ n1 ∧ i = .int .i64 j ∧ s6 = .slice A3 M c3 ∧ M ≤ 1000 + 4 * j ∧ Aside0 (ps.flatten.length = M) ∧ Aside0 (TT_b w wr t v ps) ∧ Aside0 (Row_b wr t v A3 c3 M ps.flatten) ∧ Aside0 (ps.length ≤ 1 + 2 * j)) (fun _ i _ => 60 - (intOf i).toNat)
    case atStart => exact ⟨0, N, v, ps, A3, c3, by omega, by omega, rfl, rfl, by omega, ⟨by rw [HF.out]; exact HX.out⟩, T3, ⟨by rw [HF.out]; exact R3.out⟩, HL⟩
    case round =>
      clear T HF HL T3 R3 RF
      obtain ⟨j, M, v, ps, A3, c3, hj, hjn, rfl, rfl, hMl, HM, T, RL, HL⟩ := hrel
      by_cases hlt : j < n1 ∧ j < 60
      · have t1 : decide (j < n1) = true := decide_eq_true hlt.1
        have t2 : decide ((j : Int) < 60) = true := decide_eq_true (by omega)
        obtain ⟨ad, d0, d1, d2, rfl, hq0, hq1, hq2⟩ := C46_of (Kd.C_below HR1.out T.out.be) j (by rw [HN1.out]; exact hlt.1)
        have hj1 := hlt.1
        have hj2 := hlt.2
        clear hlt
        go_upto_region 12 with (first
          | (go_at_call 24; (with_reducible refine (deed_for T.out d0 d1 d2 M (by omega)).mono ?_); rintro e w3 ⟨f, k, A4, c4, m4, x4, rfl, hfk, hkN, hm4, R_, T_, B_⟩; have W4 := Aside0.mk R_; have T4 := Aside0.mk T_; have RL4 := Aside0.mk (RL.out.step B_); clear R_ T_ B_)
          | (go_at_call 19; (with_reducible refine (rep_for T4.out f k hfk (by rw [HM.out]; exact hkN) (by rw [HM.out]; omega) (by have := HL.out; omega) W4.out (by omega) _ rfl).mono ?_); rintro e w5 ⟨rfl, v5, q5, D_, -, F_, L_⟩; have T5 := Aside0.mk D_.T; have W5 := Aside0.mk (W4.out.rep D_.E D_.N); have RL5 := Aside0.mk (RL4.out.rep D_.E D_.N); have F5 := Aside0.mk F_; have L5 := Aside0.mk L_; clear D_ F_ L_))
        have RC := Aside0.mk RL5.out.cap
        have hfc : f ≤ c3 := by have := RC.out; omega
        have hkc : k ≤ c3 := by have := RC.out; omega
        have hkM : k ≤ M := hkN
        obtain ⟨i0, hi0, hz0, hz1, hz2⟩ := info_parts infoe_b
        obtain ⟨A6, HZ, hA6⟩ := print_cut (P := Try.prog) 22 5 .i64 rfl hi0 hz1 A3 M c3 k hkM
        have HA6 := Aside0.mk (fun (w_ : World) (h_ : Kd.C (Kd.int .u8) w_ A3 M ps.flatten) => (Kd.C_of_reads (h1 := fun _ => rfl) (hA6 w_ .u8 ps.flatten RC.out (Kd.reads_of_C (enc := Value.int .u8) (d := (0 : Int)) (h1 := fun _ => rfl) h_)) : Kd.C (Kd.int .u8) w_ A6 (M - k) (ps.flatten.drop k)))
        have RT := Aside0.mk (C_pre_b RL5.out.C HM.out f (by omega))
        clear hA6 hi0 hz0 hz1 hz2
        go_cut [6] (fun s6 wx => ∃ (A9 : Option Addr) (c9 : Nat), s6 = .slice A9 (f + m4 + (M - k)) c9 ∧ Aside0 (TT_b w wx t v5 q5) ∧ Aside0 (Row_b wx t v5 A9 c9 (f + m4 + (M - k)) q5.flatten))
        case first =>
          go_region_law (first
            | (refine step_of rfl ?_; refine wp_append_row_b w5.heap.size (.tmp 54) (.tmp 55) rfl (.slice A7 f c7) f (ps.flatten.take f) x4 A4 m4 c4 (by simp [Act.eval, Act.put]) (by simp [Act.eval, Act.put]) O6.out (Kd.C_below W5.out.C B6.out) W5.out.len B6.out.size (by omega) ?_; intro v8 w8 o_ g_ a_; obtain ⟨A8, c8, rfl⟩ := own_slice o_; have O8 := Aside0.mk o_; have B8 := Aside0.mk (B6.out.grown g_ B6.out.size (fun k_ e_ => own_base O6.out _ e_)); clear o_ g_ a_)
            | (refine step_of rfl ?_; refine wp_append_row_b w5.heap.size (.tmp 56) (.tmp 59) rfl (.slice A8 (f + m4) c8) (f + m4) (ps.flatten.take f ++ x4) (ps.flatten.drop k) A6 (M - k) (c3 - k) (by simp [Act.eval, Act.put]) (by simp [Act.eval, Act.put]) O8.out (HA6.out _ (Kd.C_below RL5.out.C B8.out)) (by rw [List.length_drop, HM.out]) B8.out.size (by omega) ?_; intro v9 w9 o_ g_ a_; obtain ⟨A9, c9, rfl⟩ := own_slice o_; have O9 := Aside0.mk o_; have B9 := Aside0.mk (B8.out.grown g_ B8.out.size (fun k_ e_ => own_base O8.out _ e_)); clear o_ g_ a_)
            | (refine step_of rfl ?_; go_simp; go_at_call 12; (with_reducible refine (copy_for_b (Kd.C_below RT.out (by repeat (first | (with_reducible exact Below.refl _ _) | apply below_drew | apply pw_below_drewN))) (by rw [List.length_take, HM.out]; omega) hfc (by omega)).mono ?_); rintro e w6 ⟨v6, rfl, o_, B_⟩; obtain ⟨A7, c7, rfl⟩ := own_slice o_; have O6 := Aside0.mk (own_lower o_ (Nat.le_refl w5.heap.size)); have B6 := Aside0.mk (show Below w5.heap.size w5 w6 from below_step (by repeat (first | (with_reducible exact Below.refl _ _) | apply below_drew | apply pw_below_drewN)) B_); clear o_ B_))
          all_goals
            go_wp2
            go_meet
            case rel => exact ⟨A9, c9, rfl, ⟨T5.out.step B9.out⟩, ⟨by rw [F5.out]; exact Row_b.of_own T5.out O9.out⟩⟩
        case rest =>
          obtain ⟨A9, c9, rfl, T9, R9⟩ := hcut
          obtain ⟨M9, hM9⟩ : ∃ M9, f + m4 + (M - k) = M9 := ⟨_, rfl⟩
          rw [hM9] at R9 ⊢
          have hM9l : M9 ≤ 1000 + 4 * (j + 1) := by omega
          have t9 : ((M9 : Int) != (M9 : Int)) = false := by simp
          clear hq0 hq1 hq2 HZ HA6 RT hM9
          go_wp2_with (first
            | (go_at_call 22; (with_reducible refine (slice_all T9.out M9 R9.out.len (by omega)).mono ?_); rintro e w10 ⟨A10, c10, rfl, R_, T_, B_⟩; have S10 := Aside0.mk R_; have T10 := Aside0.mk T_; have R10 := Aside0.mk (R9.out.step B_); clear R_ T_ B_)
            | (go_at_call 16; (with_reducible refine (S10.out.eq' R10.out rfl (by omega)).mono ?_); rintro e w11 ⟨rfl, B_⟩; have T11 := Aside0.mk (T10.out.step B_); have R11 := Aside0.mk (R10.out.step B_); clear B_)
            | (go_at_call 25; (with_reducible refine (T11.out.len (by have := R11.out.len; omega) M9 R11.out.len).mono ?_); rintro e w12 ⟨rfl, rfl⟩))
          refine ⟨⟨j + 1, M9, v5, q5, A9, c9, by omega, by omega, by go_num, rfl, hM9l, ⟨R11.out.len⟩, T11, R11, ⟨by have := HL.out; have := L5.out; omega⟩⟩, by simp [intOf]; omega⟩
      · by_cases hlt1 : j < n1
        · have t1 : decide (j < n1) = true := decide_eq_true hlt1
          have t2 : decide ((j : Int) < 60) = false := decide_eq_false (by omega)
          clear hlt hlt1
          go_wp2
          go_ret
          exact ⟨rfl, T.out.be⟩
        · have t1 : decide (j < n1) = false := decide_eq_false hlt1
          clear hlt hlt1
          go_wp2
          go_ret
          exact ⟨rfl, T.out.be⟩
end Go.Proofs.Ytfedlanbmibhkaa.P
