/- The law PieceSnaps: its walk. -/
import Derived.Test.YtfedlanbmibhkaaS20h
namespace Go.Proofs.Ytfedlanbmibhkaa.P
open Go.RowKit Go.Shelf Go.Proofs.YtfedlanbmibhkaaW.PrintWords Go.Proofs.YtfedlanbmibhkaaW.PrintLast Go.Proofs.YtfedlanbmibhkaaW.PrintMore
set_option linter.unusedVariables false
set_option linter.unusedSimpArgs false
attribute [local go_sem] Oper.semAt_some
theorem run_step {ms : List (Int × Int × Int)} {l : List Int} {j : Nat} {d0 d1 d2 : Int} {M f k : Nat} {xs : List Int} (hd : ms[j]? = some (d0, d1, d2)) (h : xs = runF ms l j) (hM : xs.length = M) (hf : f = dF (d0, d1, d2) M) (hk : k = dK (d0, d1, d2) M) : xs.take f ++ dX (d0, d1, d2) ++ xs.drop k = runF ms l (j + 1) := by
  rw [runF_succ hd, ← h]; unfold applyF; rw [hM, ← hf, ← hk]
set_option maxRecDepth 100000 in
set_option maxHeartbeats 40000000 in
theorem snaps_walk (l : List Int) (A : Option Addr) (c : Nat) (l1 : List (Int × Int × Int)) (A1 : Option Addr) (c1 : Nat) (l2 : List (Int × Int × Int)) (A2 : Option Addr) (c2 : Nat) (w : World) (hr : Kd.C (Kd.int .u8) w A l.length l) (hc : l.length ≤ c) (hr1 : k46.C w A1 l1.length l1) (hc1 : l1.length ≤ c1) (hs1 : l1.length * 24 ≤ 140737488351232) (hr2 : k46.C w A2 l2.length l2) (hc2 : l2.length ≤ c2) (hs2 : l2.length * 24 ≤ 140737488351232) : Calls Try.prog 7 #[.slice A l.length c, .slice A1 l1.length c1, .slice A2 l2.length c2] w fun e w' => e = .returned (.bool true) ∧ Below w.heap.size w w' := by
  have HR := Aside0.mk hr
  have HR1 := Aside0.mk hr1
  have HR2 := Aside0.mk hr2
  obtain ⟨n, hn⟩ : ∃ n, l.length = n := ⟨_, rfl⟩
  obtain ⟨n1, hn1⟩ : ∃ n1, l1.length = n1 := ⟨_, rfl⟩
  obtain ⟨n2, hn2⟩ : ∃ n2, l2.length = n2 := ⟨_, rfl⟩
  have HN := Aside0.mk hn
  have HN1 := Aside0.mk hn1
  have HN2 := Aside0.mk hn2
  rw [hn] at hc ⊢
  rw [hn1] at hc1 hs1 ⊢
  rw [hn2] at hc2 hs2 ⊢
  clear hr hn hr1 hn1 hr2 hn2
  go_enter Try.func7, Try.ntmps7
  go_upto_region 3 with (first
    | (go_at_call 21; (with_reducible refine (works_calls w).mono ?_); rintro e w1 ⟨rfl, B_⟩; have B1 := Aside0.mk B_; clear B_))
  go_cut [0, 37, 38] (fun s0 s17 s18 wx => ∃ (N : Nat) (xs : List Int), s0 = .slice A N c ∧ s17 = .int .i64 N ∧ s18 = .slice A N c ∧ Aside0 (xs.length = N) ∧ N ≤ 1000 ∧ N ≤ c ∧ Aside0 (Kd.C (Kd.int .u8) w A N xs) ∧ Aside0 (Below w.heap.size w wx))
  case first =>
    go_wp2
    all_goals
      go_meet
      case rel =>
        first
          | (obtain ⟨xs, h1, h2⟩ := C_first HR.out n (by have := HN.out; omega)
             exact ⟨n, xs, rfl, rfl, rfl, ⟨h1⟩, by omega, by omega, ⟨h2⟩, B1⟩)
          | (obtain ⟨xs, h1, h2⟩ := C_first HR.out 1000 (by have := HN.out; omega)
             exact ⟨1000, xs, rfl, rfl, rfl, ⟨h1⟩, by omega, by omega, ⟨h2⟩, B1⟩)
  case rest =>
    obtain ⟨N, xs, rfl, rfl, rfl, HX, hN, hNc, HC, HB⟩ := hcut
    go_wp2_with (first
      | (go_at_call 13; (with_reducible refine (new_first HB.out HC.out HX.out hN).mono ?_); rintro e w2 ⟨t, v, ps, rfl, T_, F_, L_⟩; have T := Aside0.mk T_; have HF := Aside0.mk (show ps.flatten.length ≤ 1000 by rw [F_, HX.out]; omega); have HL := Aside0.mk (show ps.length ≤ 1 by rw [L_]; omega); clear T_ F_ L_))
    go_loopw [8] (fun i wr => ∃ (j : Nat) (v : Value) (ps : List (List Int)), j ≤ 30 ∧ j ≤ n1 ∧ i = .int .i64 j ∧ Aside0 (TT_b w wr t v ps) ∧ Aside0 (ps.flatten.length ≤ 1000 + 4 * j ∧ ps.length ≤ 1 + 2 * j)) (fun i _ => 30 - (intOf i).toNat)
    case atStart => exact ⟨0, v, ps, by omega, by omega, rfl, T, ⟨HF.out, HL.out⟩⟩
    case round =>
      clear T HF HL
      obtain ⟨j, v, ps, hj, hjn, rfl, T, HL⟩ := hrel
      obtain ⟨M, hM⟩ : ∃ M, ps.flatten.length = M := ⟨_, rfl⟩
      obtain ⟨S, hS⟩ : ∃ S, ps.length = S := ⟨_, rfl⟩
      have HM := Aside0.mk hM
      have HS := Aside0.mk hS
      have hMl : M ≤ 1000 + 4 * j := by rw [← hM]; exact HL.out.1
      have hSl : S ≤ 1 + 2 * j := by rw [← hS]; exact HL.out.2
      clear hM hS HL
      by_cases hlt : j < n1 ∧ j < 30
      · have t1 : decide (j < n1) = true := decide_eq_true hlt.1
        have t2 : decide ((j : Int) < 30) = true := decide_eq_true (by omega)
        obtain ⟨ad, d0, d1, d2, hd, rfl, hq0, hq1, hq2⟩ := C46_ofF (Kd.C_below HR1.out T.out.be) j (by rw [HN1.out]; exact hlt.1)
        have HD := Aside0.mk hd
        have hj1 := hlt.1
        have hj2 := hlt.2
        clear hlt hd
        go_upto_region 8 with (fail)
        go_cut [9, 10, 11] (fun s8 s9 s10 wx => ∃ (f k m3 : Nat) (A3 : Option Addr) (c3 : Nat), s8 = .int .i64 f ∧ s9 = .int .i64 k ∧ s10 = .slice A3 m3 c3 ∧ Aside0 (f = dF (d0, d1, d2) M ∧ k = dK (d0, d1, d2) M) ∧ f ≤ k ∧ k ≤ M ∧ m3 ≤ 4 ∧ Aside0 (Row_b wx t v A3 c3 m3 (dX (d0, d1, d2))) ∧ Aside0 (Below wr.heap.size wr wx))
        case first =>
          go_region_with (first
            | (go_at_call 25; (with_reducible refine ((T.out.step (by repeat (first | (with_reducible exact Below.refl _ _) | apply below_drew | apply pw_below_drewN))).len (by rw [HM.out]; omega) M HM.out).mono ?_); rintro e w4 ⟨rfl, rfl⟩)
            | (go_at_call 24; (with_reducible refine (deed_forF (T.out.step (by repeat (first | (with_reducible exact Below.refl _ _) | apply below_drew | apply pw_below_drewN))) d0 d1 d2 M (by omega)).mono ?_); rintro e w3 ⟨f, k, m3, A3, c3, rfl, hfe_, hke_, hfk, hkN, hm3, R_, T_, B_⟩; have hfe := Aside0.mk (And.intro hfe_ hke_); clear hfe_ hke_; have W3 := Aside0.mk R_; have BB := Aside0.mk (show Below wr.heap.size wr w3 from below_step (by repeat (first | (with_reducible exact Below.refl _ _) | apply below_drew | apply pw_below_drewN)) B_); clear R_ T_ B_))
          all_goals
            go_wp2
            go_meet
            case rel => exact ⟨f, k, m3, A3, c3, rfl, rfl, rfl, hfe, hfk, hkN, hm3, W3, BB⟩
        case rest =>
          obtain ⟨f, k, m3, A3, c3, rfl, rfl, rfl, hfe, hfk, hkN, hm3, W3, BB⟩ := hcut
          have T3 := Aside0.mk (T.out.step BB.out)
          clear hq0 hq1 hq2
          go_wp2_with (first
            | (go_at_call 19; (with_reducible refine (rep_for T3.out f k hfk (by rw [HM.out]; exact hkN) (by rw [HM.out]; omega) (by rw [HS.out]; omega) W3.out (by omega) _ rfl).mono ?_); rintro e w5 ⟨rfl, v5, q5, D_, -, F_, L_⟩; have T5 := Aside0.mk D_.T; have F5 := Aside0.mk F_; have L5 := Aside0.mk L_; clear D_ F_ L_))
          refine ⟨⟨j + 1, v5, q5, by omega, by omega, by go_num, T5, ⟨⟨?_, by have := L5.out; have := HS.out; omega⟩⟩⟩, by simp [intOf]; omega⟩
          rw [F5.out]; simp only [List.length_append, List.length_take, List.length_drop, HM.out, W3.out.len]; omega
      · go_upto_region 6 with (fail)
        go_cut [48] (fun s wx => s = .bool false ∧ wx = wr)
        case first =>
          by_cases hlt1 : j < n1
          · have t1 : decide (j < n1) = true := decide_eq_true hlt1
            have t2 : decide ((j : Int) < 30) = false := decide_eq_false (by omega)
            clear hlt hlt1
            go_wp2
            go_meet
            case rel => exact ⟨rfl, rfl⟩
          · have t1 : decide (j < n1) = false := decide_eq_false hlt1
            clear hlt hlt1
            go_wp2
            go_meet
            case rel => exact ⟨rfl, rfl⟩
        case rest =>
          obtain ⟨rfl, rfl⟩ := hcut
          have hM0 : M ≤ 1120 := by omega
          have hS0 : S ≤ 61 := by omega
          clear hlt hMl hSl
          obtain ⟨F0, hF0⟩ : ∃ F0, ps.flatten = F0 := ⟨_, rfl⟩
          have HF0 := Aside0.mk hF0
          clear hF0
          go_wp2_with (first
            | (go_at_call 25; (with_reducible refine (T.out.len (by rw [HM.out]; omega) M HM.out).mono ?_); rintro e w6 ⟨rfl, rfl⟩)
            | (go_at_call 22; (with_reducible refine (slice_own T.out M HM.out (by omega)).mono ?_); rintro e w10 ⟨A10, c10, rfl, o_, B_⟩; have R10 := Aside0.mk (Row_b.of_own T.out o_); have T10 := Aside0.mk (T.out.step B_); clear o_ B_)
            | (go_at_call 17; (with_reducible refine (snap_for T10.out (by rw [HS.out]; omega)).mono ?_); rintro e w11 ⟨s, vs, rfl, S_, T_, ap_, B_⟩; have S11 := Aside0.mk S_; have T11 := Aside0.mk T_; have P11 := Aside0.mk ap_; have R11 := Aside0.mk (R10.out.step B_); clear S_ T_ ap_ B_)
            | (go_at_call 17; (with_reducible refine (snap_for T11.out (by rw [HS.out]; omega)).mono ?_); rintro e w12 ⟨u, vu, rfl, U_, T_, ap_, B_⟩; have U12 := Aside0.mk U_; have T12 := Aside0.mk T_; have P12 := Aside0.mk ap_; have S12 := Aside0.mk (S11.out.step B_); have R12 := Aside0.mk (R11.out.step B_); clear U_ T_ ap_ B_))
          go_loopw [16] (fun i wr => ∃ (j : Nat) (v : Value) (qs : List (List Int)), j ≤ 30 ∧ j ≤ n2 ∧ i = .int .i64 j ∧ Aside0 (TT_b w wr t v qs) ∧ Aside0 (TT_b w wr s vs ps) ∧ Aside0 (TT_b w wr u vu ps) ∧ Aside0 (t ≠ s ∧ ∀ b, v.ownBlock = some b → vs.ownBlock ≠ some b) ∧ Aside0 (t ≠ u ∧ ∀ b, v.ownBlock = some b → vu.ownBlock ≠ some b) ∧ Aside0 (Row_b wr t v A10 c10 M ps.flatten) ∧ Aside0 (qs.flatten = runF l2 F0 j) ∧ Aside0 (qs.flatten.length ≤ 1120 + 4 * j ∧ qs.length ≤ 61 + 2 * j)) (fun i _ => 30 - (intOf i).toNat)
          case atStart => exact ⟨0, v, ps, by omega, by omega, rfl, T12, S12, U12, P11, P12, R12, ⟨by rw [runF_zero]; exact HF0.out⟩, ⟨by rw [HM.out]; omega, by rw [HS.out]; omega⟩⟩
          case round =>
            clear T T10 R10 S11 T11 P11 R11 U12 T12 P12 S12 R12
            obtain ⟨j, v, qs, hj, hjn, rfl, T, SS, UU, PS, PU, RW, HF, HL⟩ := hrel
            obtain ⟨G, hG⟩ : ∃ G, qs.flatten.length = G := ⟨_, rfl⟩
            have HG := Aside0.mk hG
            have hGl : G ≤ 1120 + 4 * j := by rw [← hG]; exact HL.out.1
            clear hG
            by_cases hlt : j < n2 ∧ j < 30
            · have t1 : decide (j < n2) = true := decide_eq_true hlt.1
              have t2 : decide ((j : Int) < 30) = true := decide_eq_true (by omega)
              obtain ⟨ad, d0, d1, d2, hd, rfl, hq0, hq1, hq2⟩ := C46_ofF (Kd.C_below HR2.out T.out.be) j (by rw [HN2.out]; exact hlt.1)
              have HD := Aside0.mk hd
              have hj1 := hlt.1
              have hj2 := hlt.2
              clear hlt hd
              go_upto_region 16 with (fail)
              go_cut [17, 18, 19] (fun s8 s9 s10 wx => ∃ (f k m3 : Nat) (A3 : Option Addr) (c3 : Nat), s8 = .int .i64 f ∧ s9 = .int .i64 k ∧ s10 = .slice A3 m3 c3 ∧ Aside0 (f = dF (d0, d1, d2) G ∧ k = dK (d0, d1, d2) G) ∧ f ≤ k ∧ k ≤ G ∧ m3 ≤ 4 ∧ Aside0 (Row_b wx t v A3 c3 m3 (dX (d0, d1, d2))) ∧ Aside0 (Below wr.heap.size wr wx))
              case first =>
                go_region_with (first
                  | (go_at_call 25; (with_reducible refine ((T.out.step (by repeat (first | (with_reducible exact Below.refl _ _) | apply below_drew | apply pw_below_drewN))).len (by rw [HG.out]; omega) G HG.out).mono ?_); rintro e w4 ⟨rfl, rfl⟩)
                  | (go_at_call 24; (with_reducible refine (deed_forF (T.out.step (by repeat (first | (with_reducible exact Below.refl _ _) | apply below_drew | apply pw_below_drewN))) d0 d1 d2 G (by omega)).mono ?_); rintro e w3 ⟨f, k, m3, A3, c3, rfl, hfe_, hke_, hfk, hkN, hm3, R_, T_, B_⟩; have hfe := Aside0.mk (And.intro hfe_ hke_); clear hfe_ hke_; have W3 := Aside0.mk R_; have BB := Aside0.mk (show Below wr.heap.size wr w3 from below_step (by repeat (first | (with_reducible exact Below.refl _ _) | apply below_drew | apply pw_below_drewN)) B_); clear R_ T_ B_))
                all_goals
                  go_wp2
                  go_meet
                  case rel => exact ⟨f, k, m3, A3, c3, rfl, rfl, rfl, hfe, hfk, hkN, hm3, W3, BB⟩
              case rest =>
                obtain ⟨f, k, m3, A3, c3, rfl, rfl, rfl, hfe, hfk, hkN, hm3, W3, BB⟩ := hcut
                have T3 := Aside0.mk (T.out.step BB.out)
                have S3 := Aside0.mk (SS.out.step BB.out)
                have U3 := Aside0.mk (UU.out.step BB.out)
                have R3 := Aside0.mk (RW.out.step BB.out)
                clear hq0 hq1 hq2 SS UU RW
                go_wp2_with (first
                  | (go_at_call 19; (with_reducible refine (rep_for T3.out f k hfk (by rw [HG.out]; exact hkN) (by rw [HG.out]; omega) (by have := HL.out; omega) W3.out (by omega) _ rfl).mono ?_); rintro e w5 ⟨rfl, v5, q5, D_, -, F_, L_⟩; have T5 := Aside0.mk D_.T; have S5 := Aside0.mk (T3.out.other S3.out PS.out D_.E); have U5 := Aside0.mk (T3.out.other U3.out PU.out D_.E); have R5 := Aside0.mk (R3.out.rep D_.E D_.N); have P5 := Aside0.mk (apart_rep PS.out S3.out D_.N); have Q5 := Aside0.mk (apart_rep PU.out U3.out D_.N); have F5 := Aside0.mk F_; have L5 := Aside0.mk L_; clear D_ F_ L_)
                  | (go_at_call 25; (with_reducible refine (S5.out.len (by rw [HM.out]; omega) M HM.out).mono ?_); rintro e w6 ⟨rfl, rfl⟩)
                  | (go_at_call 22; (with_reducible refine (slice_own S5.out M HM.out (by omega)).mono ?_); rintro e w7 ⟨A7, c7, rfl, o_, B_⟩; have X7 := Aside0.mk (Row_b.of_own S5.out o_); have T7 := Aside0.mk (T5.out.step B_); have S7 := Aside0.mk (S5.out.step B_); have U7 := Aside0.mk (U5.out.step B_); have R7 := Aside0.mk (R5.out.step B_); clear o_ B_)
                  | (go_at_call 16; (with_reducible refine (X7.out.eq' R7.out rfl (by omega)).mono ?_); rintro e w8 ⟨rfl, B_⟩; have T8 := Aside0.mk (T7.out.step B_); have S8 := Aside0.mk (S7.out.step B_); have U8 := Aside0.mk (U7.out.step B_); have R8 := Aside0.mk (R7.out.step B_); clear B_))
                refine ⟨⟨j + 1, v5, q5, by omega, by omega, by go_num, T8, S8, U8, P5, Q5, R8, ⟨?_⟩, ⟨⟨?_, by have := L5.out; have := HL.out; omega⟩⟩⟩, by simp [intOf]; omega⟩
                · rw [F5.out]; exact run_step HD.out HF.out HG.out hfe.out.1 hfe.out.2
                · rw [F5.out]; simp only [List.length_append, List.length_take, List.length_drop, HG.out, W3.out.len]; omega
            · go_upto_region 14 with (fail)
              go_cut [85] (fun s wx => s = .bool false ∧ wx = wr)
              case first =>
                by_cases hlt1 : j < n2
                · have t1 : decide (j < n2) = true := decide_eq_true hlt1
                  have t2 : decide ((j : Int) < 30) = false := decide_eq_false (by omega)
                  clear hlt hlt1
                  go_wp2
                  go_meet
                  case rel => exact ⟨rfl, rfl⟩
                · have t1 : decide (j < n2) = false := decide_eq_false hlt1
                  clear hlt hlt1
                  go_wp2
                  go_meet
                  case rel => exact ⟨rfl, rfl⟩
              case rest =>
                obtain ⟨rfl, rfl⟩ := hcut
                obtain ⟨J, hJ⟩ : ∃ J, J = j := ⟨_, rfl⟩
                have HJ := Aside0.mk (show J ≤ 30 ∧ J ≤ n2 ∧ ¬ (J < n2 ∧ J < 30) by rw [hJ]; exact ⟨hj, hjn, hlt⟩)
                have HFJ := Aside0.mk (show qs.flatten = runF l2 F0 J by rw [hJ]; exact HF.out)
                have hG0 : G ≤ 1240 := by omega
                clear hlt hGl hJ SS PS RW HF HL
                go_wp2_with (first
                  | (go_at_call 25; (with_reducible refine (T.out.len (by rw [HG.out]; omega) G HG.out).mono ?_); rintro e w6 ⟨rfl, rfl⟩)
                  | (go_at_call 22; (with_reducible refine (slice_own T.out G HG.out (by omega)).mono ?_); rintro e w20 ⟨A20, c20, rfl, o_, B_⟩; have R20 := Aside0.mk (Row_b.of_own UU.out o_); have T20 := Aside0.mk (T.out.step B_); have U20 := Aside0.mk (UU.out.step B_); clear o_ B_))
                go_loopw [24] (fun i wr => ∃ (j : Nat) (vu : Value) (us : List (List Int)), j ≤ 30 ∧ j ≤ n2 ∧ i = .int .i64 j ∧ Aside0 (TT_b w wr t v qs) ∧ Aside0 (TT_b w wr u vu us) ∧ Aside0 (u ≠ t ∧ ∀ b, vu.ownBlock = some b → v.ownBlock ≠ some b) ∧ Aside0 (Row_b wr u vu A20 c20 G qs.flatten) ∧ Aside0 (us.flatten = runF l2 F0 j) ∧ Aside0 (us.flatten.length ≤ 1120 + 4 * j ∧ us.length ≤ 61 + 2 * j)) (fun i _ => 30 - (intOf i).toNat)
                case atStart => exact ⟨0, vu, ps, by omega, by omega, rfl, T20, U20, ⟨⟨fun e => PU.out.1 e.symm, fun b e1 e2 => PU.out.2 b e2 e1⟩⟩, R20, ⟨by rw [runF_zero]; exact HF0.out⟩, ⟨by rw [HM.out]; omega, by rw [HS.out]; omega⟩⟩
                case round =>
                  clear T PU UU T20 U20 R20
                  obtain ⟨j, vu, us, hj, hjn, rfl, T, UU, PU, RW, HF, HL⟩ := hrel
                  obtain ⟨D, hD⟩ : ∃ D, us.flatten.length = D := ⟨_, rfl⟩
                  have HD0 := Aside0.mk hD
                  have hDl : D ≤ 1120 + 4 * j := by rw [← hD]; exact HL.out.1
                  clear hD
                  by_cases hlt : j < n2 ∧ j < 30
                  · have t1 : decide (j < n2) = true := decide_eq_true hlt.1
                    have t2 : decide ((j : Int) < 30) = true := decide_eq_true (by omega)
                    obtain ⟨ad, d0, d1, d2, hd, rfl, hq0, hq1, hq2⟩ := C46_ofF (Kd.C_below HR2.out T.out.be) j (by rw [HN2.out]; exact hlt.1)
                    have HD := Aside0.mk hd
                    have hj1 := hlt.1
                    have hj2 := hlt.2
                    clear hlt hd
                    go_upto_region 25 with (fail)
                    go_cut [25, 26, 27] (fun s8 s9 s10 wx => ∃ (f k m3 : Nat) (A3 : Option Addr) (c3 : Nat), s8 = .int .i64 f ∧ s9 = .int .i64 k ∧ s10 = .slice A3 m3 c3 ∧ Aside0 (f = dF (d0, d1, d2) D ∧ k = dK (d0, d1, d2) D) ∧ f ≤ k ∧ k ≤ D ∧ m3 ≤ 4 ∧ Aside0 (Row_b wx u vu A3 c3 m3 (dX (d0, d1, d2))) ∧ Aside0 (Below wr.heap.size wr wx))
                    case first =>
                      go_region_with (first
                        | (go_at_call 25; (with_reducible refine ((UU.out.step (by repeat (first | (with_reducible exact Below.refl _ _) | apply below_drew | apply pw_below_drewN))).len (by rw [HD0.out]; omega) D HD0.out).mono ?_); rintro e w4 ⟨rfl, rfl⟩)
                        | (go_at_call 24; (with_reducible refine (deed_forF (UU.out.step (by repeat (first | (with_reducible exact Below.refl _ _) | apply below_drew | apply pw_below_drewN))) d0 d1 d2 D (by omega)).mono ?_); rintro e w3 ⟨f, k, m3, A3, c3, rfl, hfe_, hke_, hfk, hkN, hm3, R_, T_, B_⟩; have hfe := Aside0.mk (And.intro hfe_ hke_); clear hfe_ hke_; have W3 := Aside0.mk R_; have BB := Aside0.mk (show Below wr.heap.size wr w3 from below_step (by repeat (first | (with_reducible exact Below.refl _ _) | apply below_drew | apply pw_below_drewN)) B_); clear R_ T_ B_))
                      all_goals
                        go_wp2
                        go_meet
                        case rel => exact ⟨f, k, m3, A3, c3, rfl, rfl, rfl, hfe, hfk, hkN, hm3, W3, BB⟩
                    case rest =>
                      obtain ⟨f, k, m3, A3, c3, rfl, rfl, rfl, hfe, hfk, hkN, hm3, W3, BB⟩ := hcut
                      have T3 := Aside0.mk (T.out.step BB.out)
                      have U3 := Aside0.mk (UU.out.step BB.out)
                      have R3 := Aside0.mk (RW.out.step BB.out)
                      clear hq0 hq1 hq2 UU RW T
                      go_wp2_with (first
                        | (go_at_call 19; (with_reducible refine (rep_for U3.out f k hfk (by rw [HD0.out]; exact hkN) (by rw [HD0.out]; omega) (by have := HL.out; omega) W3.out (by omega) _ rfl).mono ?_); rintro e w5 ⟨rfl, v5, q5, D_, -, F_, L_⟩; have U5 := Aside0.mk D_.T; have T5 := Aside0.mk (U3.out.other T3.out PU.out D_.E); have R5 := Aside0.mk (R3.out.rep D_.E D_.N); have P5 := Aside0.mk (apart_rep PU.out T3.out D_.N); have F5 := Aside0.mk F_; have L5 := Aside0.mk L_; clear D_ F_ L_))
                      refine ⟨⟨j + 1, v5, q5, by omega, by omega, by go_num, T5, U5, P5, R5, ⟨?_⟩, ⟨⟨?_, by have := L5.out; have := HL.out; omega⟩⟩⟩, by simp [intOf]; omega⟩
                      · rw [F5.out]; exact run_step HD.out HF.out HD0.out hfe.out.1 hfe.out.2
                      · rw [F5.out]; simp only [List.length_append, List.length_take, List.length_drop, HD0.out, W3.out.len]; omega
                  · go_upto_region 23 with (fail)
                    go_cut [133] (fun s wx => s = .bool false ∧ wx = wr)
                    case first =>
                      by_cases hlt1 : j < n2
                      · have t1 : decide (j < n2) = true := decide_eq_true hlt1
                        have t2 : decide ((j : Int) < 30) = false := decide_eq_false (by omega)
                        clear hlt hlt1
                        go_wp2
                        go_meet
                        case rel => exact ⟨rfl, rfl⟩
                      · have t1 : decide (j < n2) = false := decide_eq_false hlt1
                        clear hlt hlt1
                        go_wp2
                        go_meet
                        case rel => exact ⟨rfl, rfl⟩
                    case rest =>
                      obtain ⟨rfl, rfl⟩ := hcut
                      have hjJ : j = J := by have := HJ.out; omega
                      have HE := Aside0.mk (show us.flatten = qs.flatten by rw [HFJ.out, HF.out, hjJ])
                      have HDG := Aside0.mk (show us.flatten.length = G by rw [HE.out]; exact HG.out)
                      clear hlt hDl HF HL hjJ HD0
                      go_wp2_with (first
                        | (go_at_call 25; (with_reducible refine (T.out.len (by rw [HG.out]; omega) G HG.out).mono ?_); rintro e w6 ⟨rfl, rfl⟩)
                        | (go_at_call 22; (with_reducible refine (slice_own T.out G HG.out (by omega)).mono ?_); rintro e w30 ⟨A30, c30, rfl, o_, B_⟩; have X30 := Aside0.mk (Row_b.of_own UU.out o_); have U30 := Aside0.mk (UU.out.step B_); have R30 := Aside0.mk (RW.out.step B_); clear o_ B_)
                        | (go_at_call 25; (with_reducible refine (U30.out.len (by rw [HDG.out]; omega) G HDG.out).mono ?_); rintro e w31 ⟨rfl, rfl⟩)
                        | (go_at_call 22; (with_reducible refine (slice_own U30.out G HDG.out (by omega)).mono ?_); rintro e w32 ⟨A32, c32, rfl, o_, B_⟩; have Y32 := Aside0.mk (Row_b.of_own U30.out o_); have X32 := Aside0.mk (X30.out.step B_); have U32 := Aside0.mk (U30.out.step B_); have R32 := Aside0.mk (R30.out.step B_); clear o_ B_)
                        | (go_at_call 16; (with_reducible refine (R32.out.eq' X32.out rfl (by omega)).mono ?_); rintro e w33 ⟨rfl, B_⟩; have U33 := Aside0.mk (U32.out.step B_); have R33 := Aside0.mk (R32.out.step B_); have Y33 := Aside0.mk (Y32.out.step B_); clear B_)
                        | (go_at_call 16; (with_reducible refine (Y33.out.eq' R33.out HE.out.symm (by omega)).mono ?_); rintro e w34 ⟨rfl, B_⟩; have U34 := Aside0.mk (U33.out.step B_); clear B_))
                      go_ret
                      exact ⟨rfl, U34.out.be⟩
end Go.Proofs.Ytfedlanbmibhkaa.P
