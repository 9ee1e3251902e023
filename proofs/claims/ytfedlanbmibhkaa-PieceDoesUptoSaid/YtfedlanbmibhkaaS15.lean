/- The law PieceRefused: its walk. -/
import Derived.Test.YtfedlanbmibhkaaS14
namespace Go.Proofs.Ytfedlanbmibhkaa.P
open Go.RowKit Go.Shelf Go.Proofs.YtfedlanbmibhkaaW.PrintWords Go.Proofs.YtfedlanbmibhkaaW.PrintLast Go.Proofs.YtfedlanbmibhkaaW.PrintMore
set_option linter.unusedVariables false
set_option linter.unusedSimpArgs false
attribute [local go_sem] Oper.semAt_some
theorem C_first {k : IntKind} {w : World} {A : Option Addr} {l : List Int} (h : Kd.C (Kd.int k) w A l.length l) (m : Nat) (hm : m ≤ l.length) : ∃ xs : List Int, xs.length = m ∧ Kd.C (Kd.int k) w A m xs := by
  have h1 := Kd.C_take h hm
  have h2 : (l.take m).length = m := by rw [List.length_take]; omega
  rw [h2] at h1
  exact ⟨_, h2, h1⟩
theorem TT_b.sliceNo {w0 w : World} {t : Nat} {v : Value} {ps : List (List Int)} (h : TT_b w0 w t v ps) (f k : Int) (hbad : ¬ (0 ≤ f ∧ f ≤ k ∧ k ≤ (ps.flatten.length : Int))) (hs : ps.flatten.length ≤ 4611686018427387904) :
    Calls Try.prog 22 #[.pointer (some ⟨t, 0, none⟩), .int .i64 f, .int .i64 k] w fun e w' => e = .returned (.tuple #[.slice none 0 0, .int .i64 9]) ∧ Below w.heap.size w w' := slice_no_b h.tab f k hbad hs
theorem TT_b.repNo {w0 w : World} {t : Nat} {v : Value} {ps : List (List Int)} (h : TT_b w0 w t v ps) (f k : Int) (hbad : ¬ (0 ≤ f ∧ f ≤ k ∧ k ≤ (ps.flatten.length : Int))) (hs : ps.flatten.length ≤ 4611686018427387904) (A : Option Addr) (n c : Nat) :
    Calls Try.prog 19 #[.pointer (some ⟨t, 0, none⟩), .int .i64 f, .int .i64 k, .slice A n c] w fun e w' => e = .returned (.int .i64 9) ∧ w = w' := replace_no_b h.tab f k hbad hs A n c
/-- a law's first list, 1000 elements at most: New -/
theorem new_first {w w1 : World} (B1 : Below w.heap.size w w1) {A : Option Addr} {N c : Nat} {xs : List Int} (hx : Kd.C (Kd.int .u8) w A N xs) (hl : xs.length = N) (hN : N ≤ 1000) :
    Calls Try.prog 13 #[.slice A N c] w1 fun e w' => ∃ t v ps, e = .returned (.pointer (some ⟨t, 0, none⟩)) ∧ TT_b w w' t v ps ∧ ps.flatten = xs ∧ ps.length = min N 1 := by
  refine (TT_b.newI B1 A c N xs hl (Kd.C_below hx B1) (by omega)).mono ?_
  rintro e w2 ⟨t, v, rfl, T_, -⟩
  exact ⟨t, v, _, rfl, T_, newS_flat _, by rw [newS_len, hl]⟩
set_option maxRecDepth 100000 in
set_option maxHeartbeats 4000000 in
theorem refused_walk (l : List Int) (A : Option Addr) (c : Nat) (a1 a2 : Int) (w : World) (hr : Kd.C (Kd.int .u8) w A l.length l) (hc : l.length ≤ c) : Calls Try.prog 10 #[.slice A l.length c, .int .i64 a1, .int .i64 a2] w fun e w' => e = .returned (.bool true) ∧ Below w.heap.size w w' := by
  have HR := Aside0.mk hr
  obtain ⟨n, hn⟩ : ∃ n, l.length = n := ⟨_, rfl⟩
  have HN := Aside0.mk hn
  rw [hn] at hc ⊢
  clear hr hn
  go_enter Try.func10, Try.ntmps10
  go_upto_region 3 with (first
    | (go_at_call 21; (with_reducible refine (works_calls w).mono ?_); rintro e w1 ⟨rfl, B_⟩; have B1 := Aside0.mk B_; clear B_))
  go_cut [0, 17, 18] (fun s0 s17 s18 wx => ∃ (N : Nat) (xs : List Int), s0 = .slice A N c ∧ s17 = .int .i64 N ∧ s18 = .slice A N c ∧ Aside0 (xs.length = N) ∧ N ≤ 1000 ∧ N ≤ c ∧ Aside0 (Kd.C (Kd.int .u8) w A N xs) ∧ Aside0 (Below w.heap.size w wx))
  case first =>
    go_wp2
    all_goals
      go_meet
      case rel =>
        first
          | (obtain ⟨xs, h1, h2⟩ := C_first HR.out n (by have := HN.out; omega)
             exact ⟨n, xs, rfl, rfl, rfl, ⟨h1⟩, by omega, by omega, ⟨h2⟩, B1⟩)
          | (obtain ⟨xs, h1, h2⟩ := C_first HR.out 1000 (by have := HN.out; omega)
             exact ⟨1000, xs, rfl, rfl, rfl, ⟨h1⟩, by omega, by omega, ⟨h2⟩, B1⟩)
  case rest =>
    obtain ⟨N, xs, rfl, rfl, rfl, HX, hN, hNc, HC, HB⟩ := hcut
    by_cases hmay : 0 ≤ a1 ∧ a1 ≤ a2 ∧ a2 ≤ N
    · obtain ⟨f, rfl⟩ := Int.eq_ofNat_of_zero_le hmay.1
      obtain ⟨k, rfl⟩ := Int.eq_ofNat_of_zero_le (Int.le_trans hmay.1 hmay.2.1)
      have hfk : f ≤ k := by omega
      have hkN : k ≤ N := by omega
      have t1 : decide (f ≤ k) = true := decide_eq_true hfk
      have t2 : decide (k ≤ N) = true := decide_eq_true hkN
      obtain ⟨M, hM⟩ : ∃ M : Nat, M = N - (k - f) + 2 := ⟨_, rfl⟩
      have t3 : ((M : Int) == (N : Int) - ((k : Int) - (f : Int)) + 2) = true := beq_iff_eq.mpr (by omega)
      have t4 : decide ((M : Int) = (N : Int) - ((k : Int) - (f : Int)) + 2) = true := decide_eq_true (by omega)
      have HM := Aside0.mk hM
      clear hmay hM
      go_wp2_with (first
        | (go_at_call 13; (with_reducible refine (new_first HB.out HC.out HX.out hN).mono ?_); rintro e w2 ⟨t, v, ps, rfl, T_, F_, L_⟩; have T := Aside0.mk T_; have HF := Aside0.mk (show ps.flatten.length = N by rw [F_]; exact HX.out); have HL := Aside0.mk (show ps.length ≤ 1000 by rw [L_]; omega); clear T_ F_ L_)
        | (go_at_call 22; (with_reducible refine (T.out.slice f k hfk (by rw [HF.out]; exact hkN) (by rw [HF.out]; omega) _ rfl).mono ?_); rintro e w3 ⟨A3, c3, rfl, -, B_⟩; have T3 := Aside0.mk (T.out.step B_); clear B_)
        | (go_at_call 19; (with_reducible refine ((T3.out.step (below_alloc (Below.refl _ w3) _)).repI f k f k rfl rfl hfk (by rw [HF.out]; exact hkN) (by rw [HF.out]; omega) (by have := HL.out; omega) (some ⟨w3.heap.size, 0, none⟩) 2 2 [1, 2] rfl (C_lit_b (heap_alloc_new w3 _) (by decide) (lit_get rfl)) (by decide) (fun _ ad e_ => by cases e_; exact T3.out.fresh (Nat.le_refl _)) _ rfl).mono ?_); rintro e w4 ⟨rfl, v4, T_, -, -⟩; have T4 := Aside0.mk T_; clear T_)
        | (go_at_call 25; (with_reducible refine (T4.out.len (by rw [replS_flat _ _ _ _ hfk (by rw [HF.out]; exact hkN) T.out.tab.full]; simp only [List.length_append, List.length_take, List.length_drop, List.length_cons, List.length_nil, HF.out]; omega) M (by rw [replS_flat _ _ _ _ hfk (by rw [HF.out]; exact hkN) T.out.tab.full]; simp only [List.length_append, List.length_take, List.length_drop, List.length_cons, List.length_nil, HF.out, HM.out]; omega)).mono ?_); rintro e w5 ⟨rfl, rfl⟩))
      go_ret
      exact ⟨rfl, T4.out.be⟩
    · have HBAD := Aside0.mk hmay
      by_cases h1 : 0 ≤ a1
      · have e1 : decide (0 ≤ a1) = true := decide_eq_true h1
        by_cases h2 : a1 ≤ a2
        · have e2 : decide (a1 ≤ a2) = true := decide_eq_true h2
          have e3 : decide (a2 ≤ (N : Int)) = false := decide_eq_false (by omega)
          clear hmay h1 h2
          go_wp2_with (first
            | (go_at_call 13; (with_reducible refine (new_first HB.out HC.out HX.out hN).mono ?_); rintro e w2 ⟨t, v, ps, rfl, T_, F_, L_⟩; have T := Aside0.mk T_; have hcv : ∀ w_, Below w.heap.size w w_ → (convert 22 9 (.slice A N c)).run Try.prog w_ = .ok (.string (strOfNums ps.flatten)) w_ := (fun w_ b_ => by rw [F_]; exact Kd.C_string rfl rfl rfl (Kd.C_below HC.out b_)); have HV := Aside0.mk hcv; have HF := Aside0.mk (show ps.flatten.length = N by rw [F_]; exact HX.out); have HL := Aside0.mk L_; clear T_ F_ L_ hcv)
            | (go_at_call 22; (with_reducible refine (T.out.sliceNo a1 a2 (by rw [HF.out]; exact HBAD.out) (by rw [HF.out]; omega)).mono ?_); rintro e w3 ⟨rfl, B_⟩; have T3 := Aside0.mk (T.out.step B_); clear B_)
            | (go_at_call 19; (with_reducible refine ((T3.out.step (below_alloc (Below.refl _ w3) _)).repNo a1 a2 (by rw [HF.out]; exact HBAD.out) (by rw [HF.out]; omega) (some ⟨w3.heap.size, 0, none⟩) 2 2).mono ?_); rintro e w4 ⟨rfl, rfl⟩; have T4 := Aside0.mk (T3.out.step (below_alloc (Below.refl _ w3) (.cells #[.int .u8 1, .int .u8 2] 5))); have hv4 := HV.out _ T4.out.be)
            | (go_at_call 34; (with_reducible refine (T4.out.tells (by rw [HF.out]; omega) _ _ rfl (by have := HL.out; omega)).mono ?_); rintro e w5 ⟨rfl, B_⟩; have T5 := Aside0.mk (T4.out.step B_); clear B_))
          all_goals
            go_ret
            exact ⟨rfl, T5.out.be⟩
        · have e2 : decide (a1 ≤ a2) = false := decide_eq_false h2
          clear hmay h1 h2
          go_wp2_with (first
            | (go_at_call 13; (with_reducible refine (new_first HB.out HC.out HX.out hN).mono ?_); rintro e w2 ⟨t, v, ps, rfl, T_, F_, L_⟩; have T := Aside0.mk T_; have hcv : ∀ w_, Below w.heap.size w w_ → (convert 22 9 (.slice A N c)).run Try.prog w_ = .ok (.string (strOfNums ps.flatten)) w_ := (fun w_ b_ => by rw [F_]; exact Kd.C_string rfl rfl rfl (Kd.C_below HC.out b_)); have HV := Aside0.mk hcv; have HF := Aside0.mk (show ps.flatten.length = N by rw [F_]; exact HX.out); have HL := Aside0.mk L_; clear T_ F_ L_ hcv)
            | (go_at_call 22; (with_reducible refine (T.out.sliceNo a1 a2 (by rw [HF.out]; exact HBAD.out) (by rw [HF.out]; omega)).mono ?_); rintro e w3 ⟨rfl, B_⟩; have T3 := Aside0.mk (T.out.step B_); clear B_)
            | (go_at_call 19; (with_reducible refine ((T3.out.step (below_alloc (Below.refl _ w3) _)).repNo a1 a2 (by rw [HF.out]; exact HBAD.out) (by rw [HF.out]; omega) (some ⟨w3.heap.size, 0, none⟩) 2 2).mono ?_); rintro e w4 ⟨rfl, rfl⟩; have T4 := Aside0.mk (T3.out.step (below_alloc (Below.refl _ w3) (.cells #[.int .u8 1, .int .u8 2] 5))); have hv4 := HV.out _ T4.out.be)
            | (go_at_call 34; (with_reducible refine (T4.out.tells (by rw [HF.out]; omega) _ _ rfl (by have := HL.out; omega)).mono ?_); rintro e w5 ⟨rfl, B_⟩; have T5 := Aside0.mk (T4.out.step B_); clear B_))
          all_goals
            go_ret
            exact ⟨rfl, T5.out.be⟩
      · have e1 : decide (0 ≤ a1) = false := decide_eq_false h1
        clear hmay h1
        go_wp2_with (first
          | (go_at_call 13; (with_reducible refine (new_first HB.out HC.out HX.out hN).mono ?_); rintro e w2 ⟨t, v, ps, rfl, T_, F_, L_⟩; have T := Aside0.mk T_; have hcv : ∀ w_, Below w.heap.size w w_ → (convert 22 9 (.slice A N c)).run Try.prog w_ = .ok (.string (strOfNums ps.flatten)) w_ := (fun w_ b_ => by rw [F_]; exact Kd.C_string rfl rfl rfl (Kd.C_below HC.out b_)); have HV := Aside0.mk hcv; have HF := Aside0.mk (show ps.flatten.length = N by rw [F_]; exact HX.out); have HL := Aside0.mk L_; clear T_ F_ L_ hcv)
          | (go_at_call 22; (with_reducible refine (T.out.sliceNo a1 a2 (by rw [HF.out]; exact HBAD.out) (by rw [HF.out]; omega)).mono ?_); rintro e w3 ⟨rfl, B_⟩; have T3 := Aside0.mk (T.out.step B_); clear B_)
          | (go_at_call 19; (with_reducible refine ((T3.out.step (below_alloc (Below.refl _ w3) _)).repNo a1 a2 (by rw [HF.out]; exact HBAD.out) (by rw [HF.out]; omega) (some ⟨w3.heap.size, 0, none⟩) 2 2).mono ?_); rintro e w4 ⟨rfl, rfl⟩; have T4 := Aside0.mk (T3.out.step (below_alloc (Below.refl _ w3) (.cells #[.int .u8 1, .int .u8 2] 5))); have hv4 := HV.out _ T4.out.be)
          | (go_at_call 34; (with_reducible refine (T4.out.tells (by rw [HF.out]; omega) _ _ rfl (by have := HL.out; omega)).mono ?_); rintro e w5 ⟨rfl, B_⟩; have T5 := Aside0.mk (T4.out.step B_); clear B_))
        all_goals
          go_ret
          exact ⟨rfl, T5.out.be⟩
end Go.Proofs.Ytfedlanbmibhkaa.P
