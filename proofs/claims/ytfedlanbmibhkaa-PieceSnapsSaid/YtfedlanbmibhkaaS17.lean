/- The law PieceBack: its walk. -/
import Derived.Test.YtfedlanbmibhkaaS15
import Derived.Test.YtfedlanbmibhkaaS16tb
namespace Go.Proofs.Ytfedlanbmibhkaa.P
open Go.RowKit Go.Shelf Go.Proofs.YtfedlanbmibhkaaW.PrintWords Go.Proofs.YtfedlanbmibhkaaW.PrintLast Go.Proofs.YtfedlanbmibhkaaW.PrintMore
set_option linter.unusedVariables false
set_option linter.unusedSimpArgs false
attribute [local go_sem] Oper.semAt_some
/-- a deed's numbers -/
theorem deed_for {w0 w : World} {t : Nat} {v : Value} {ps : List (List Int)} (h : TT_b w0 w t v ps) (d0 d1 d2 : Int) (N : Nat) (hN : N ≤ 1000000) : Calls Try.prog 24 #[.agg #[.int .i64 d0, .int .i64 d1, .int .i64 d2], .int .i64 N] w fun e w' => ∃ (f k : Nat) (A : Option Addr) (c m : Nat) (xs : List Int), e = .returned (.tuple #[.int .i64 f, .int .i64 k, .slice A m c]) ∧ f ≤ k ∧ k ≤ N ∧ m ≤ 4 ∧ Row_b w' t v A c m xs ∧ TT_b w0 w' t v ps ∧ Below w.heap.size w w' := by
  refine (deed_calls w d0 d1 d2 N hN).mono ?_
  rintro e w' ⟨f, k, A, c, xs, rfl, h1, h2, h3, h4, h5⟩
  exact ⟨f, k, A, c, xs.length, xs, rfl, h1, h2, h3, Row_b.of_own h h4, h.step h5, h5⟩
theorem slice_for {w0 w : World} {t : Nat} {v : Value} {ps : List (List Int)} (h : TT_b w0 w t v ps) (f k : Nat) (hfk : f ≤ k) (hk : k ≤ ps.flatten.length) (hs : ps.flatten.length ≤ 1000000) (n : Nat) (xs : List Int) (hx : (ps.flatten.take k).drop f = xs) (hn : xs.length = n) :
    Calls Try.prog 22 #[.pointer (some ⟨t, 0, none⟩), .int .i64 f, .int .i64 k] w fun e w' => ∃ A c, e = .returned (.tuple #[.slice A n c, .int .i64 0]) ∧ Row_b w' t v A c n xs ∧ TT_b w0 w' t v ps ∧ Below w.heap.size w w' := by
  refine (h.sliceI f k f k rfl rfl hfk hk (by omega) n xs hx hn).mono ?_
  rintro e w' ⟨A, c, rfl, h1, h2⟩
  exact ⟨A, c, rfl, Row_b.of_own h h1, h.step h2, h2⟩
theorem slice_all {w0 w : World} {t : Nat} {v : Value} {ps : List (List Int)} (h : TT_b w0 w t v ps) (n : Nat) (hn : ps.flatten.length = n) (hs : n ≤ 1000000) :
    Calls Try.prog 22 #[.pointer (some ⟨t, 0, none⟩), .int .i64 0, .int .i64 n] w fun e w' => ∃ A c, e = .returned (.tuple #[.slice A n c, .int .i64 0]) ∧ Row_b w' t v A c n ps.flatten ∧ TT_b w0 w' t v ps ∧ Below w.heap.size w w' := by
  refine (h.sliceI 0 n 0 n rfl rfl (Nat.zero_le _) (by omega) (by omega) n ps.flatten (by rw [List.take_of_length_le (Nat.le_of_eq hn), List.drop_zero]) hn).mono ?_
  rintro e w' ⟨A, c, rfl, h1, h2⟩
  exact ⟨A, c, rfl, Row_b.of_own h h1, h.step h2, h2⟩
theorem new_first2 {w w1 : World} (B1 : Below w.heap.size w w1) {A : Option Addr} {N c : Nat} {xs : List Int} (hx : Kd.C (Kd.int .u8) w A N xs) (hl : xs.length = N) (hN : N ≤ 1000) (hc : N ≤ c) :
    Calls Try.prog 13 #[.slice A N c] w1 fun e w' => ∃ t v ps, e = .returned (.pointer (some ⟨t, 0, none⟩)) ∧ TT_b w w' t v ps ∧ ps.flatten = xs ∧ ps.length = min N 1 ∧ Row_b w' t v A c N xs ∧ Below w1.heap.size w1 w' := by
  refine (TT_b.newI B1 A c N xs hl (Kd.C_below hx B1) (by omega)).mono ?_
  rintro e w2 ⟨t, v, rfl, T_, B_, -⟩
  exact ⟨t, v, _, rfl, T_, newS_flat _, by rw [newS_len, hl], Row_b.of_old T_ hl hx hc, B_⟩
/-- what a Replace leaves -/
structure Done (w0 w w' : World) (t : Nat) (v v' : Value) (ps qs : List (List Int)) : Prop where
  T : TT_b w0 w' t v' qs
  E : Eff_b t v.ownBlock w w'
  N : v'.ownBlock = v.ownBlock ∨ ∃ b, v'.ownBlock = some b ∧ w.heap.size ≤ b
theorem rep_for {w0 w : World} {t : Nat} {v : Value} {ps : List (List Int)} (h : TT_b w0 w t v ps) (f k : Nat) (hfk : f ≤ k) (hk : k ≤ ps.flatten.length) (hs : ps.flatten.length ≤ 1000000) (hn : ps.length ≤ 900000) {A : Option Addr} {c n : Nat} {xs : List Int} (R : Row_b w t v A c n xs) (hx : n ≤ 1000000) (K : Int) (hK : K = (k : Int)) :
    Calls Try.prog 19 #[.pointer (some ⟨t, 0, none⟩), .int .i64 f, .int .i64 K, .slice A n c] w fun e w' => e = .returned (.int .i64 0) ∧ ∃ v' qs, Done w0 w w' t v v' ps qs ∧ qs = replS ps f k xs ∧ qs.flatten = ps.flatten.take f ++ xs ++ ps.flatten.drop k ∧ qs.length ≤ ps.length + 2 := by
  refine (h.repI f K f k rfl hK hfk hk (by omega) hn A c n xs R.len R.C (by have := R.len; omega) (fun h0 => R.ap (by have := R.len; omega)) _ rfl).mono ?_
  rintro e w' ⟨rfl, v', h1, h2, h3⟩
  exact ⟨rfl, v', _, ⟨h1, h2, h3⟩, rfl, replS_flat _ _ _ _ hfk hk h.tab.full, replS_len _ _ _ _ hfk hk h.tab.full⟩
theorem Row_b.eq' {w : World} {t t' : Nat} {v v' : Value} {A A' : Option Addr} {c c' n : Nat} {xs ys : List Int} (h : Row_b w t v A c n xs) (h' : Row_b w t' v' A' c' n ys) (e : ys = xs) (hl : n ≤ 1000000) :
    Calls Try.prog 16 #[.slice A n c, .slice A' n c'] w fun e w' => e = .returned (.bool true) ∧ Below w.heap.size w w' := by subst e; exact h.eq h' (by omega)
theorem back_flat (l : List Int) (f k m : Nat) (xs : List Int) (hfk : f ≤ k) (hk : k ≤ l.length) (hm : xs.length = m) : ((l.take f ++ xs ++ l.drop k).take f ++ (l.take k).drop f ++ (l.take f ++ xs ++ l.drop k).drop (f + m)) = l := by
  have h1 : (l.take f).length = f := by rw [List.length_take]; omega
  have h3 : (l.take f ++ xs).length = f + m := by rw [List.length_append, h1, hm]
  have e1 : (l.take f ++ xs ++ l.drop k).take f = l.take f := by
    rw [List.append_assoc, List.take_append_of_le_length (Nat.le_of_eq h1.symm), List.take_of_length_le (Nat.le_of_eq h1)]
  have e2 : (l.take f ++ xs ++ l.drop k).drop (f + m) = l.drop k := by
    rw [List.drop_append_of_le_length (Nat.le_of_eq h3.symm), List.drop_of_length_le (Nat.le_of_eq h3), List.nil_append]
  have h2 : l.take f ++ (l.take k).drop f = l.take k := by
    conv => rhs; rw [← List.take_append_drop f (l.take k)]
    rw [List.take_take, Nat.min_eq_left hfk]
  rw [e1, e2, h2, List.take_append_drop]
set_option maxRecDepth 100000 in
set_option maxHeartbeats 4000000 in
theorem back_walk (l : List Int) (A : Option Addr) (c : Nat) (d0 d1 d2 : Int) (w : World) (hr : Kd.C (Kd.int .u8) w A l.length l) (hc : l.length ≤ c) : Calls Try.prog 6 #[.slice A l.length c, .agg #[.int .i64 d0, .int .i64 d1, .int .i64 d2]] w fun e w' => e = .returned (.bool true) ∧ Below w.heap.size w w' := by
  have HR := Aside0.mk hr
  obtain ⟨n, hn⟩ : ∃ n, l.length = n := ⟨_, rfl⟩
  have HN := Aside0.mk hn
  rw [hn] at hc ⊢
  clear hr hn
  go_enter Try.func6, Try.ntmps6
  go_upto_region 3 with (first
    | (go_at_call 21; (with_reducible refine (works_calls _).mono ?_); rintro e w1 ⟨rfl, B_⟩; have B1 := Aside0.mk (below_step (below_alloc (Below.refl _ w) _) B_); have BX := Aside0.mk ((B_.block w.heap.size (by rw [World.size_alloc]; exact Nat.lt_succ_self _)).trans (heap_alloc_new w _)); clear B_))
  go_cut [0, 20, 21] (fun s0 s17 s18 wx => ∃ (N : Nat) (xs : List Int), s0 = .slice A N c ∧ s17 = .int .i64 N ∧ s18 = .slice A N c ∧ Aside0 (xs.length = N) ∧ N ≤ 1000 ∧ N ≤ c ∧ Aside0 (Kd.C (Kd.int .u8) w A N xs) ∧ Aside0 (Below w.heap.size w wx) ∧ Aside0 (wx.heap[w.heap.size]? = some (.cells #[.int .i64 d0, .int .i64 d1, .int .i64 d2] 46 (0, 0))))
  case first =>
    go_wp2
    all_goals
      go_meet
      case rel =>
        first
          | (obtain ⟨xs, h1, h2⟩ := C_first HR.out n (by have := HN.out; omega)
             exact ⟨n, xs, rfl, rfl, rfl, ⟨h1⟩, by omega, by omega, ⟨h2⟩, B1, BX⟩)
          | (obtain ⟨xs, h1, h2⟩ := C_first HR.out 1000 (by have := HN.out; omega)
             exact ⟨1000, xs, rfl, rfl, rfl, ⟨h1⟩, by omega, by omega, ⟨h2⟩, B1, BX⟩)
  case rest =>
    obtain ⟨N, xs, rfl, rfl, rfl, HX, hN, hNc, HC, HB, HBX⟩ := hcut
    go_wp2_with (first
      | (go_at_call 13; (with_reducible refine (new_first2 HB.out HC.out HX.out hN hNc).mono ?_); rintro e w2 ⟨t, v, ps, rfl, T_, F_, L_, R_, B_⟩; have hlt_ := blk_lt HBX.out; have hb0 : w2.cell? ⟨w.heap.size, 0, none⟩ = some (.int .i64 d0) := (B_.cell (p := ⟨w.heap.size, 0, none⟩) hlt_).trans (blk_cell HBX.out 0); have hb1 : w2.cell? ⟨w.heap.size, 1, none⟩ = some (.int .i64 d1) := (B_.cell (p := ⟨w.heap.size, 1, none⟩) hlt_).trans (blk_cell HBX.out 1); have hb2 : w2.cell? ⟨w.heap.size, 2, none⟩ = some (.int .i64 d2) := (B_.cell (p := ⟨w.heap.size, 2, none⟩) hlt_).trans (blk_cell HBX.out 2); have T := Aside0.mk T_; have HF := Aside0.mk (show ps.flatten.length = N by rw [F_]; exact HX.out); have HL := Aside0.mk (show ps.length ≤ 1 by rw [L_]; omega); have HE := Aside0.mk F_; have RF := Aside0.mk R_; clear T_ F_ L_ R_ B_ hlt_)
      | (go_at_call 24; (with_reducible refine (deed_for T.out d0 d1 d2 N (by omega)).mono ?_); rintro e w3 ⟨f, k, A3, c3, m3, x3, rfl, hfk, hkN, hm3, R_, T_, B_⟩; have W3 := Aside0.mk R_; have T3 := Aside0.mk T_; have RF3 := Aside0.mk (RF.out.step B_); clear R_ T_ B_)
      | (go_at_call 22; (with_reducible refine (slice_for T3.out f k hfk (by rw [HF.out]; exact hkN) (by rw [HF.out]; omega) (k - f) _ rfl (by rw [List.length_drop, List.length_take, HF.out]; omega)).mono ?_); rintro e w4 ⟨A4, c4, rfl, R_, T_, B_⟩; have O4 := Aside0.mk R_; have T4 := Aside0.mk T_; have W4 := Aside0.mk (W3.out.step B_); have RF4 := Aside0.mk (RF3.out.step B_); clear R_ T_ B_)
      | (go_at_call 19; (with_reducible refine (rep_for T4.out f k hfk (by rw [HF.out]; exact hkN) (by rw [HF.out]; omega) (by have := HL.out; omega) W4.out (by omega) _ rfl).mono ?_); rintro e w5 ⟨rfl, v5, q5, D_, -, F_, L_⟩; have T5 := Aside0.mk D_.T; have O5 := Aside0.mk (O4.out.rep D_.E D_.N); have RF5 := Aside0.mk (RF4.out.rep D_.E D_.N); have F5 := Aside0.mk F_; have L5 := Aside0.mk L_; have G5 := Aside0.mk (show q5.flatten.length = f + m3 + (N - k) by rw [F_]; simp only [List.length_append, List.length_take, List.length_drop, HF.out, W4.out.len]; omega); clear D_ F_ L_)
      | (go_at_call 19; (with_reducible refine (rep_for T5.out f (f + m3) (Nat.le_add_right _ _) (by rw [G5.out]; omega) (by rw [G5.out]; omega) (by have := L5.out; have := HL.out; omega) O5.out (by omega) ((f : Int) + (m3 : Int)) (by push_cast; rfl)).mono ?_); rintro e w6 ⟨rfl, v6, q6, D_, -, F_, L_⟩; have T6 := Aside0.mk D_.T; have RF6 := Aside0.mk (RF5.out.rep D_.E D_.N); have F6 := Aside0.mk (show q6.flatten = xs by rw [F_, F5.out, ← HE.out]; exact back_flat _ f k m3 x3 hfk (by rw [HF.out]; exact hkN) W4.out.len); clear D_ F_ L_)
      | (go_at_call 25; (with_reducible refine (T6.out.len (by rw [F6.out, HX.out]; omega) N (by rw [F6.out]; exact HX.out)).mono ?_); rintro e w7 ⟨rfl, rfl⟩)
      | (go_at_call 22; (with_reducible refine (slice_all T6.out N (by rw [F6.out]; exact HX.out) (by omega)).mono ?_); rintro e w8 ⟨A8, c8, rfl, R_, T_, B_⟩; have S8 := Aside0.mk R_; have T8 := Aside0.mk T_; have RF8 := Aside0.mk (RF6.out.step B_); clear R_ T_ B_)
      | (go_at_call 16; (with_reducible refine (S8.out.eq' RF8.out F6.out.symm (by omega)).mono ?_); rintro e w9 ⟨rfl, B_⟩; have T9 := Aside0.mk (T8.out.step B_); clear B_))
    go_ret
    exact ⟨rfl, T9.out.be⟩
end Go.Proofs.Ytfedlanbmibhkaa.P
