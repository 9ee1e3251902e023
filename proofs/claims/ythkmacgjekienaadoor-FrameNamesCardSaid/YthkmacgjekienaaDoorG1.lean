/- FrameMakes: the walk. -/
import Derived.Test.YthkmacgjekienaaDoorFB
namespace Go.Proofs.YthkmacgjekienaaDoor.P
attribute [-simp] List.length_drop List.length_take ByteArray.size_append
open Go.RowKit Go.Shelf Go.Proofs.YthkmacgjekienaaDoor.Pure Go.Proofs.YthkmacgjekienaaDoorW.PrintWords Go.Proofs.YthkmacgjekienaaDoorW.PrintLast Go.Proofs.YthkmacgjekienaaDoorW.PrintMore
set_option linter.unusedVariables false
set_option linter.unusedSimpArgs false
theorem eq_calls {w : World} {A A' : Option Addr} {n c c' : Nat} {l : List Int} (hn : l.length = n) (h1 : Kd.C (Kd.int .u8) w A n l) (hc : n ≤ c) (h2 : Kd.C (Kd.int .u8) w A' n l) (hc' : n ≤ c') (hl : n ≤ 140737488351232) :
    Calls Tryd.prog 20 #[.slice A n c, .slice A' n c'] w fun e w' => e = .returned (.bool true) ∧ ∃ m, w' = w.drewN m := by
  subst hn
  obtain ⟨k, hk⟩ := eqb_ev l (by omega)
  refine (colophonref00_EqBytes.calls k A c l A' c' l true w h1 hc h2 hc' (hk k (Nat.le_refl _))).mono ?_
  rintro e w' ⟨h, hd⟩
  exact ⟨h, hd.out⟩
theorem copy_calls {w : World} {A : Option Addr} {n c : Nat} {l : List Int} (hn : l.length = n) (h1 : Kd.C (Kd.int .u8) w A n l) (hc : n ≤ c) (hl : n ≤ 140737488351232) :
    Calls Tryd.prog 13 #[.slice A n c] w fun e w' => ∃ A' c', e = .returned (.slice A' n c') ∧ Kd.R (Kd.int .u8) 5 w' w.heap.size (fun _ => True) (.slice A' n c') l ∧ Below w.heap.size w w' := by
  subst hn
  refine (colophonref00_CopyBytes.calls A c l l w h1 hc (copy_some l (by omega))).mono ?_
  rintro e w' ⟨v, rfl, h2, h3⟩
  obtain ⟨A', c', rfl⟩ := Kd.R_slice h2
  exact ⟨A', c', rfl, h2, h3⟩
theorem R_C {w : World} {lo : Nat} {ok : Nat → Prop} {A : Option Addr} {n c : Nat} {l : List Int} (h : Kd.R (Kd.int .u8) 5 w lo ok (.slice A n c) l) : l.length = n ∧ n ≤ c ∧ Kd.C (Kd.int .u8) w A n l := by
  obtain ⟨e1, e2, e3⟩ := Kd.R_reads' h
  exact ⟨e1.symm, e2, by rw [e1]; exact e3⟩
set_option maxRecDepth 100000 in
set_option maxHeartbeats 4000000 in
theorem makes_walk (l : List Int) (A : Option Addr) (c : Nat) (w : World) (hr : Kd.C (Kd.int .u8) w A l.length l) (hc : l.length ≤ c) (hl : l.length ≤ 140737488351232) (hT : TAB2 w) :
    Calls Tryd.prog 7 #[.slice A l.length c] w fun e w' => e = .returned (.bool true) ∧ Below w.heap.size w w' := by
  have HR := Aside0.mk hr
  have HT := Aside0.mk hT
  have HL := Aside0.mk hl
  obtain ⟨n, hn⟩ : ∃ n, l.length = n := ⟨_, rfl⟩
  rw [hn] at hc HR HL ⊢
  obtain ⟨fl, hfl⟩ : ∃ fl, (frT l).1 = fl := ⟨_, rfl⟩
  obtain ⟨fe, hfe⟩ : ∃ fe, (frT l).2 = fe := ⟨_, rfl⟩
  have HF := Aside0.mk hfl
  have HE := Aside0.mk hfe
  have hfn : fl.length ≤ 140737488351232 := by
    rw [← hfl]
    unfold frT
    split
    · have := hd_len l.length (by assumption); simp; omega
    · simp
  have HFN := Aside0.mk hfn
  have HN := Aside0.mk hn
  have e0 : (fe == fe) = true := by simp
  clear hr hT hl hfl hfe hfn hn
  go_enter Tryd.func7, Tryd.ntmps7
  go_wp2_with (first
    | (go_at_call 13; (with_reducible refine (copy_calls HN.out HR.out hc HL.out).mono ?_); rintro e w1 ⟨A1, c1, rfl, h1, h2⟩; have H1 := Aside0.mk h1; have B1 := Aside0.mk h2; clear h1 h2)
    | (go_at_call 27; (with_reducible refine (frame_calls A1 c1 n l w1 HN.out (R_C H1.out).2.2 (R_C H1.out).2.1 HL.out (HT.out.below B1.out)).mono ?_); rintro e w2 ⟨A2, c2, rfl, h1, h2, h3, h4⟩; rw [HF.out] at h1 h2 ⊢; rw [HE.out]; have H2 := Aside0.mk h1; have C2 := Aside0.mk h2; have B2 := Aside0.mk (below_step B1.out h3); have H1b := Aside0.mk (Kd.R_below H1.out h3); clear h1 h2 h3 h4)
    | (go_at_call 28; (with_reducible refine (refFrame_calls A c n l w2 HN.out (Kd.C_below HR.out B2.out) hc HL.out).mono ?_); rintro e w3 ⟨A3, c3, rfl, h1, h2, h3, h4⟩; rw [HF.out] at h1 h2 ⊢; rw [HE.out]; have H3 := Aside0.mk h1; have C3 := Aside0.mk h2; have B3 := Aside0.mk (below_step B2.out h3); have H1c := Aside0.mk (Kd.R_below H1b.out h3); have H2c := Aside0.mk (Kd.C_below H2.out h3); clear h1 h2 h3 h4)
    | (go_at_call 20; (with_reducible refine (eq_calls rfl H2c.out C2.out H3.out C3.out HFN.out).mono ?_); rintro e w4 ⟨rfl, m4, rfl⟩)
    | (go_at_call 20; (with_reducible refine (eq_calls HN.out (Kd.C_drewN (R_C H1c.out).2.2 m4) (R_C H1c.out).2.1 (Kd.C_drewN (Kd.C_below HR.out B3.out) m4) hc HL.out).mono ?_); rintro e w5 ⟨rfl, m5, rfl⟩)
    | (go_at_call 21; (with_reducible refine (awake_calls HT.out.tab (pw_below_drewN B3.out (m4 + m5))).mono ?_); rintro e w6 ⟨rfl, b_⟩; have B6 := Aside0.mk b_; clear b_))
  go_ret
  exact ⟨rfl, B6.out⟩
end Go.Proofs.YthkmacgjekienaaDoor.P
