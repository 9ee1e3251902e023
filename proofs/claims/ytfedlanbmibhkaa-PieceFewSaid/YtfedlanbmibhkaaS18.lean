/- The law PieceFew: its walk. -/
import Derived.Test.YtfedlanbmibhkaaS18h
namespace Go.Proofs.Ytfedlanbmibhkaa.P
open Go.RowKit Go.Shelf Go.Proofs.YtfedlanbmibhkaaW.PrintWords Go.Proofs.YtfedlanbmibhkaaW.PrintLast Go.Proofs.YtfedlanbmibhkaaW.PrintMore
set_option linter.unusedVariables false
set_option linter.unusedSimpArgs false
attribute [local go_sem] Oper.semAt_some
set_option maxRecDepth 100000 in
set_option maxHeartbeats 4000000 in
theorem few_walk (l : List Int) (A : Option Addr) (c : Nat) (l1 : List (Int × Int × Int)) (A1 : Option Addr) (c1 : Nat) (w : World) (hr : Kd.C (Kd.int .u8) w A l.length l) (hc : l.length ≤ c) (hr1 : k46.C w A1 l1.length l1) (hc1 : l1.length ≤ c1) (hs1 : l1.length * 24 ≤ 140737488351232) : Calls Try.prog 8 #[.slice A l.length c, .slice A1 l1.length c1] w fun e w' => e = .returned (.bool true) ∧ Below w.heap.size w w' := by
  have HR := Aside0.mk hr
  have HR1 := Aside0.mk hr1
  obtain ⟨n, hn⟩ : ∃ n, l.length = n := ⟨_, rfl⟩
  obtain ⟨n1, hn1⟩ : ∃ n1, l1.length = n1 := ⟨_, rfl⟩
  have HN := Aside0.mk hn
  have HN1 := Aside0.mk hn1
  rw [hn] at hc ⊢
  rw [hn1] at hc1 hs1 ⊢
  clear hr hn hr1 hn1
  go_enter Try.func8, Try.ntmps8
  go_upto_region 3 with (first
    | (go_at_call 21; (with_reducible refine (works_calls w).mono ?_); rintro e w1 ⟨rfl, B_⟩; have B1 := Aside0.mk B_; clear B_))
  go_cut [0, 16, 17] (fun s0 s17 s18 wx => ∃ (N : Nat) (xs : List Int), s0 = .slice A N c ∧ s17 = .int .i64 N ∧ s18 = .slice A N c ∧ Aside0 (xs.length = N) ∧ N ≤ 1000 ∧ N ≤ c ∧ Aside0 (Kd.C (Kd.int .u8) w A N xs) ∧ Aside0 (Below w.heap.size w wx))
  case first =>
    go_wp2
    all_goals
      go_meet
      case rel =>
        first
          | (obtain ⟨xs, h1, h2⟩ := C_first HR.out n (by have := HN.out; omega)
             exact ⟨n, xs, rfl, rfl, rfl, ⟨h1⟩, by omega, by omega, ⟨h2⟩, B1⟩)
          | (obtain ⟨xs, h1, h2⟩ := C_first HR.out 1000 (by have := HN.out; omega)
             exact ⟨1000, xs, rfl, rfl, rfl, ⟨h1⟩, by omega, by omega, ⟨h2⟩, B1⟩)
  case rest =>
    obtain ⟨N, xs, rfl, rfl, rfl, HX, hN, hNc, HC, HB⟩ := hcut
    go_wp2_with (first
      | (go_at_call 13; (with_reducible refine (new_first HB.out HC.out HX.out hN).mono ?_); rintro e w2 ⟨t, v, ps, rfl, T_, F_, L_⟩; have T := Aside0.mk T_; have HF := Aside0.mk (show ps.flatten.length ≤ 1000 by rw [F_, HX.out]; omega); have HL := Aside0.mk (show ps.length ≤ 1 by rw [L_]; omega); clear T_ F_ L_))
    go_loopw [6] (fun i wr => ∃ (j : Nat) (v : Value) (ps : List (List Int)), j ≤ 60 ∧ j ≤ n1 ∧ i = .int .i64 j ∧ Aside0 (TT_b w wr t v ps) ∧ Aside0 (ps.flatten.length ≤ 1000 + 4 * j ∧ ps.length ≤ 1 + 2 * j)) (fun i _ => 60 - (intOf i).toNat)
    case atStart => exact ⟨0, v, ps, by omega, by omega, rfl, T, ⟨HF.out, HL.out⟩⟩
    case round =>
      clear T HF HL
      obtain ⟨j, v, ps, hj, hjn, rfl, T, HL⟩ := hrel
      by_cases hlt : j < n1 ∧ j < 60
      · have t1 : decide (j < n1) = true := decide_eq_true hlt.1
        have t2 : decide ((j : Int) < 60) = true := decide_eq_true (by omega)
        obtain ⟨ad, d0, d1, d2, rfl, hq0, hq1, hq2⟩ := C46_of (Kd.C_below HR1.out T.out.be) j (by rw [HN1.out]; exact hlt.1)
        have hj1 := hlt.1
        have hj2 := hlt.2
        obtain ⟨M, hM⟩ : ∃ M, ps.flatten.length = M := ⟨_, rfl⟩
        obtain ⟨S, hS⟩ : ∃ S, ps.length = S := ⟨_, rfl⟩
        have HM := Aside0.mk hM
        have HS := Aside0.mk hS
        have hMl : M ≤ 1000 + 4 * j := by rw [← hM]; exact HL.out.1
        have hSl : S ≤ 1 + 2 * j := by rw [← hS]; exact HL.out.2
        have P := T.out.pcs
        rw [hS] at P
        have HP := Aside0.mk P
        clear hlt hM hS HL P
        go_upto_region 9 with (first
          | (go_at_call 26; (with_reducible refine HP.out.mono ?_); rintro e w4 ⟨rfl, rfl⟩))
        go_cut [8, 9, 10] (fun s8 s9 s10 wx => ∃ (f k : Nat) (A3 : Option Addr) (c3 m3 : Nat) (x3 : List Int), s8 = .int .i64 f ∧ s9 = .int .i64 k ∧ s10 = .slice A3 m3 c3 ∧ f ≤ k ∧ k ≤ M ∧ m3 ≤ 4 ∧ Aside0 (Row_b wx t v A3 c3 m3 x3) ∧ Aside0 (TT_b w wx t v ps))
        case first =>
          go_region_with (first
            | (go_at_call 25; (with_reducible refine ((T.out.step (by repeat (first | (with_reducible exact Below.refl _ _) | apply below_drew | apply pw_below_drewN))).len (by rw [HM.out]; omega) M HM.out).mono ?_); rintro e w4 ⟨rfl, rfl⟩)
            | (go_at_call 24; (with_reducible refine (deed_for (T.out.step (by repeat (first | (with_reducible exact Below.refl _ _) | apply below_drew | apply pw_below_drewN))) d0 d1 d2 M (by omega)).mono ?_); rintro e w3 ⟨f, k, A3, c3, m3, x3, rfl, hfk, hkN, hm3, R_, T_, B_⟩; have W3 := Aside0.mk R_; have T3 := Aside0.mk T_; clear R_ T_ B_))
          all_goals
            go_wp2
            go_meet
            case rel => exact ⟨f, k, A3, c3, m3, x3, rfl, rfl, rfl, hfk, hkN, hm3, W3, T3⟩
        case rest =>
          obtain ⟨f, k, A3, c3, m3, x3, rfl, rfl, rfl, hfk, hkN, hm3, W3, T3⟩ := hcut
          go_wp2_with (first
            | (go_at_call 19; (with_reducible refine (rep_for T3.out f k hfk (by rw [HM.out]; exact hkN) (by rw [HM.out]; omega) (by rw [HS.out]; omega) W3.out (by omega) _ rfl).mono ?_); rintro e w5 ⟨rfl, v5, q5, D_, -, F_, L_⟩; obtain ⟨M5, hM5⟩ : ∃ M5, q5.flatten.length = M5 := ⟨_, rfl⟩; obtain ⟨S5, hS5⟩ : ∃ S5, q5.length = S5 := ⟨_, rfl⟩; have T5 := Aside0.mk D_.T; have h5a : M5 ≤ M + 4 := (by rw [← hM5, F_]; simp only [List.length_append, List.length_take, List.length_drop, HM.out, W3.out.len]; omega); have h5b : S5 ≤ S + 2 := (by rw [← hS5, ← HS.out]; exact L_); have h5c : S5 ≤ M5 := (by rw [← hM5, ← hS5]; exact full_le D_.T.tab.full); have h5d : (S5 = 0 ↔ M5 = 0) := (by rw [← hM5, ← hS5]; exact full_zero D_.T.tab.full); have P_ := D_.T.pcs; rw [hS5] at P_; have P5 := Aside0.mk P_; have L5 := Aside0.mk (D_.T.len (by rw [hM5]; omega) M5 hM5); have HM5 := Aside0.mk hM5; have HS5 := Aside0.mk hS5; have t5 : decide ((S : Int) + 2 < (S5 : Int)) = false := decide_eq_false (by omega); have t6 : decide (M5 < S5) = false := decide_eq_false (by omega); obtain ⟨b, z1, z2, z3, z4⟩ := both_zero h5d; clear D_ F_ L_ P_ hM5 hS5)
            | (go_at_call 26; (with_reducible refine P5.out.mono ?_); rintro e w6 ⟨rfl, rfl⟩)
            | (go_at_call 25; (with_reducible refine L5.out.mono ?_); rintro e w6 ⟨rfl, rfl⟩))
          refine ⟨⟨j + 1, v5, q5, by omega, by omega, by go_num, T5, ⟨⟨by rw [HM5.out]; omega, by rw [HS5.out]; omega⟩⟩⟩, by simp [intOf]; omega⟩
      · by_cases hlt1 : j < n1
        · have t1 : decide (j < n1) = true := decide_eq_true hlt1
          have t2 : decide ((j : Int) < 60) = false := decide_eq_false (by omega)
          clear hlt hlt1
          go_wp2
          go_ret
          exact ⟨rfl, T.out.be⟩
        · have t1 : decide (j < n1) = false := decide_eq_false hlt1
          clear hlt hlt1
          go_wp2
          go_ret
          exact ⟨rfl, T.out.be⟩
end Go.Proofs.Ytfedlanbmibhkaa.P
