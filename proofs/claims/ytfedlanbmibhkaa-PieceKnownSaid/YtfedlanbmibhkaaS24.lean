/- The law PieceKnown: its walk. -/
import Derived.Test.YtfedlanbmibhkaaS24h
import Derived.LoopN
namespace Go.Proofs.Ytfedlanbmibhkaa.P
open Go.RowKit Go.Shelf Go.Proofs.YtfedlanbmibhkaaW.PrintWords Go.Proofs.YtfedlanbmibhkaaW.PrintLast Go.Proofs.YtfedlanbmibhkaaW.PrintMore
set_option linter.unusedVariables false
set_option linter.unusedSimpArgs false
attribute [local go_sem] Oper.semAt_some conv_bytes
theorem kl1 {w0 w : World} (hb : Below w0.heap.size w0 w) : Calls Try.prog 13 #[.slice (some ⟨w.heap.size, 0, none⟩) 6 6] (w.alloc (.cells #[.int .u8 97, .int .u8 98, .int .u8 99, .int .u8 100, .int .u8 101, .int .u8 102] 5 (6, 7))) fun e w' => ∃ t v, e = .returned (.pointer (some ⟨t, 0, none⟩)) ∧ TT_b w0 w' t v kp0 ∧ ∀ b, KB b w → KB b w' := kn_new hb 6 _ _ [97, 98, 99, 100, 101, 102] rfl (by decide) rfl _ (by decide)
theorem kl2 {w0 w : World} {t : Nat} {v : Value} (h : TT_b w0 w t v kp0) : Calls Try.prog 19 #[.pointer (some ⟨t, 0, none⟩), .int .i64 3, .int .i64 3, .slice none 0 0] w fun e w' => e = .returned (.int .i64 0) ∧ (∃ v', TT_b w0 w' t v' kp1) ∧ ∀ b, KB b w → KB b w' := kn_rep0 h 3 3 3 3 (by decide) (by decide) _ (by decide) (by decide)
theorem kl3 {w0 w : World} {t : Nat} {v : Value} (h : TT_b w0 w t v kp1) : Calls Try.prog 34 #[.pointer (some ⟨t, 0, none⟩), .string ⟨#[97, 98, 99, 100, 101, 102]⟩, .int .i64 2] w fun e w' => e = .returned (.bool true) ∧ TT_b w0 w' t v kp1 ∧ ∀ b, KB b w → KB b w' := kn_tells h _ 2 (by decide +kernel) (by decide) (by decide)
theorem kl4 {w0 w : World} {t : Nat} {v : Value} (h : TT_b w0 w t v kp1) : Calls Try.prog 19 #[.pointer (some ⟨t, 0, none⟩), .int .i64 3, .int .i64 3, .slice (some ⟨w.heap.size, 0, none⟩) 1 1] (w.alloc (.cells #[.int .u8 88] 5 (1, 2))) fun e w' => e = .returned (.int .i64 0) ∧ (∃ v', TT_b w0 w' t v' kp2) ∧ ∀ b, KB b w → KB b w' := kn_rep h 3 3 3 3 (by decide) (by decide) 1 _ _ [88] rfl (by decide) rfl _ (by decide) (by decide)
theorem kl5 {w0 w : World} {t : Nat} {v : Value} (h : TT_b w0 w t v kp2) : Calls Try.prog 34 #[.pointer (some ⟨t, 0, none⟩), .string ⟨#[97, 98, 99, 88, 100, 101, 102]⟩, .int .i64 3] w fun e w' => e = .returned (.bool true) ∧ TT_b w0 w' t v kp2 ∧ ∀ b, KB b w → KB b w' := kn_tells h _ 3 (by decide +kernel) (by decide) (by decide)
theorem kl6 {w0 w : World} {t : Nat} {v : Value} (h : TT_b w0 w t v kp2) : Calls Try.prog 19 #[.pointer (some ⟨t, 0, none⟩), .int .i64 3, .int .i64 4, .slice (some ⟨w.heap.size, 0, none⟩) 2 2] (w.alloc (.cells #[.int .u8 89, .int .u8 90] 5 (2, 3))) fun e w' => e = .returned (.int .i64 0) ∧ (∃ v', TT_b w0 w' t v' kp3) ∧ ∀ b, KB b w → KB b w' := kn_rep h 3 4 3 4 (by decide) (by decide) 2 _ _ [89, 90] rfl (by decide) rfl _ (by decide) (by decide)
theorem kl7 {w0 w : World} {t : Nat} {v : Value} (h : TT_b w0 w t v kp3) : Calls Try.prog 34 #[.pointer (some ⟨t, 0, none⟩), .string ⟨#[97, 98, 99, 89, 90, 100, 101, 102]⟩, .int .i64 3] w fun e w' => e = .returned (.bool true) ∧ TT_b w0 w' t v kp3 ∧ ∀ b, KB b w → KB b w' := kn_tells h _ 3 (by decide +kernel) (by decide) (by decide)
theorem kl8 {w0 w : World} {t : Nat} {v : Value} (h : TT_b w0 w t v kp3) : Calls Try.prog 19 #[.pointer (some ⟨t, 0, none⟩), .int .i64 2, .int .i64 6, .slice none 0 0] w fun e w' => e = .returned (.int .i64 0) ∧ (∃ v', TT_b w0 w' t v' kp4) ∧ ∀ b, KB b w → KB b w' := kn_rep0 h 2 6 2 6 (by decide) (by decide) _ (by decide) (by decide)
theorem kl9 {w0 w : World} {t : Nat} {v : Value} (h : TT_b w0 w t v kp4) : Calls Try.prog 34 #[.pointer (some ⟨t, 0, none⟩), .string ⟨#[97, 98, 101, 102]⟩, .int .i64 2] w fun e w' => e = .returned (.bool true) ∧ TT_b w0 w' t v kp4 ∧ ∀ b, KB b w → KB b w' := kn_tells h _ 2 (by decide +kernel) (by decide) (by decide)
theorem kl10 {w0 w : World} {t : Nat} {v : Value} (h : TT_b w0 w t v kp4) : Calls Try.prog 19 #[.pointer (some ⟨t, 0, none⟩), .int .i64 0, .int .i64 0, .slice (some ⟨w.heap.size, 0, none⟩) 1 1] (w.alloc (.cells #[.int .u8 48] 5 (1, 2))) fun e w' => e = .returned (.int .i64 0) ∧ (∃ v', TT_b w0 w' t v' kp5) ∧ ∀ b, KB b w → KB b w' := kn_rep h 0 0 0 0 (by decide) (by decide) 1 _ _ [48] rfl (by decide) rfl _ (by decide) (by decide)
theorem kl11 {w0 w : World} {t : Nat} {v : Value} (h : TT_b w0 w t v kp5) : Calls Try.prog 34 #[.pointer (some ⟨t, 0, none⟩), .string ⟨#[48, 97, 98, 101, 102]⟩, .int .i64 3] w fun e w' => e = .returned (.bool true) ∧ TT_b w0 w' t v kp5 ∧ ∀ b, KB b w → KB b w' := kn_tells h _ 3 (by decide +kernel) (by decide) (by decide)
theorem kl12 {w0 w : World} {t : Nat} {v : Value} (h : TT_b w0 w t v kp5) : Calls Try.prog 19 #[.pointer (some ⟨t, 0, none⟩), .int .i64 5, .int .i64 5, .slice (some ⟨w.heap.size, 0, none⟩) 1 1] (w.alloc (.cells #[.int .u8 57] 5 (1, 2))) fun e w' => e = .returned (.int .i64 0) ∧ (∃ v', TT_b w0 w' t v' kp6) ∧ ∀ b, KB b w → KB b w' := kn_rep h 5 5 5 5 (by decide) (by decide) 1 _ _ [57] rfl (by decide) rfl _ (by decide) (by decide)
theorem kl13 {w0 w : World} {t : Nat} {v : Value} (h : TT_b w0 w t v kp6) : Calls Try.prog 34 #[.pointer (some ⟨t, 0, none⟩), .string ⟨#[48, 97, 98, 101, 102, 57]⟩, .int .i64 4] w fun e w' => e = .returned (.bool true) ∧ TT_b w0 w' t v kp6 ∧ ∀ b, KB b w → KB b w' := kn_tells h _ 4 (by decide +kernel) (by decide) (by decide)
theorem kl14 {w0 w : World} {t : Nat} {v : Value} (h : TT_b w0 w t v kp6) : Calls Try.prog 19 #[.pointer (some ⟨t, 0, none⟩), .int .i64 0, .int .i64 6, .slice (some ⟨w.heap.size, 0, none⟩) 1 1] (w.alloc (.cells #[.int .u8 113] 5 (1, 2))) fun e w' => e = .returned (.int .i64 0) ∧ (∃ v', TT_b w0 w' t v' kp7) ∧ ∀ b, KB b w → KB b w' := kn_rep h 0 6 0 6 (by decide) (by decide) 1 _ _ [113] rfl (by decide) rfl _ (by decide) (by decide)
theorem kl15 {w0 w : World} {t : Nat} {v : Value} (h : TT_b w0 w t v kp7) : Calls Try.prog 34 #[.pointer (some ⟨t, 0, none⟩), .string ⟨#[113]⟩, .int .i64 1] w fun e w' => e = .returned (.bool true) ∧ TT_b w0 w' t v kp7 ∧ ∀ b, KB b w → KB b w' := kn_tells h _ 1 (by decide +kernel) (by decide) (by decide)
theorem kn15 {w0 w : World} {t : Nat} {v : Value} (h : TT_b w0 w t v kp7) : Calls Try.prog 19 #[.pointer (some ⟨t, 0, none⟩), .int .i64 (1), .int .i64 0, .slice none 0 0] w fun e w' => e = .returned (.int .i64 9) ∧ w = w' := h.repNo (1) 0 (by decide) (by decide) none 0 0
theorem kn16 {w0 w : World} {t : Nat} {v : Value} (h : TT_b w0 w t v kp7) : Calls Try.prog 19 #[.pointer (some ⟨t, 0, none⟩), .int .i64 (-1), .int .i64 0, .slice none 0 0] w fun e w' => e = .returned (.int .i64 9) ∧ w = w' := h.repNo (-1) 0 (by decide) (by decide) none 0 0
theorem kn17 {w0 w : World} {t : Nat} {v : Value} (h : TT_b w0 w t v kp7) : Calls Try.prog 19 #[.pointer (some ⟨t, 0, none⟩), .int .i64 (0), .int .i64 2, .slice none 0 0] w fun e w' => e = .returned (.int .i64 9) ∧ w = w' := h.repNo (0) 2 (by decide) (by decide) none 0 0
theorem kn18 {w0 w : World} {t : Nat} {v : Value} (h : TT_b w0 w t v kp7) : Calls Try.prog 19 #[.pointer (some ⟨t, 0, none⟩), .int .i64 (4611686018427387904), .int .i64 4611686018427387904, .slice none 0 0] w fun e w' => e = .returned (.int .i64 9) ∧ w = w' := h.repNo (4611686018427387904) 4611686018427387904 (by decide) (by decide) none 0 0
theorem kl16 {w0 w : World} {t : Nat} {v : Value} (h : TT_b w0 w t v kp7) : Calls Try.prog 34 #[.pointer (some ⟨t, 0, none⟩), .string ⟨#[113]⟩, .int .i64 1] w fun e w' => e = .returned (.bool true) ∧ TT_b w0 w' t v kp7 ∧ ∀ b, KB b w → KB b w' := kn_tells h _ 1 (by decide +kernel) (by decide) (by decide)
theorem kl18 {w0 w : World} {t : Nat} {v : Value} (h : TT_b w0 w t v kp8) : Calls Try.prog 34 #[.pointer (some ⟨t, 0, none⟩), .string ⟨#[]⟩, .int .i64 0] w fun e w' => e = .returned (.bool true) ∧ TT_b w0 w' t v kp8 ∧ ∀ b, KB b w → KB b w' := kn_tells h _ 0 (by decide +kernel) (by decide) (by decide)
theorem kl19 {w0 w : World} {t : Nat} {v : Value} (h : TT_b w0 w t v kp8) : Calls Try.prog 19 #[.pointer (some ⟨t, 0, none⟩), .int .i64 0, .int .i64 0, .slice (some ⟨w.heap.size, 0, none⟩) 2 2] (w.alloc (.cells #[.int .u8 97, .int .u8 98] 5 (2, 3))) fun e w' => e = .returned (.int .i64 0) ∧ (∃ v', TT_b w0 w' t v' kp9) ∧ ∀ b, KB b w → KB b w' := kn_rep h 0 0 0 0 (by decide) (by decide) 2 _ _ [97, 98] rfl (by decide) rfl _ (by decide) (by decide)
theorem kl20 {w0 w : World} {t : Nat} {v : Value} (h : TT_b w0 w t v kp9) : Calls Try.prog 34 #[.pointer (some ⟨t, 0, none⟩), .string ⟨#[97, 98]⟩, .int .i64 1] w fun e w' => e = .returned (.bool true) ∧ TT_b w0 w' t v kp9 ∧ ∀ b, KB b w → KB b w' := kn_tells h _ 1 (by decide +kernel) (by decide) (by decide)
theorem kl22 {w0 w : World} {t : Nat} {v : Value} (h : TT_b w0 w t v kp9) : Calls Try.prog 34 #[.pointer (some ⟨t, 0, none⟩), .string ⟨#[97, 98]⟩, .int .i64 1] w fun e w' => e = .returned (.bool true) ∧ TT_b w0 w' t v kp9 ∧ ∀ b, KB b w → KB b w' := kn_tells h _ 1 (by decide +kernel) (by decide) (by decide)
theorem new_box2 (w : World) (o : Obj) (u : Value) : ((w.alloc o).alloc (.cells #[u] 25)).cell? ⟨w.heap.size + 1, 0, none⟩ = some u := by
  have := heap_alloc_new (w.alloc o) (.cells #[u] 25)
  rw [World.size_alloc] at this
  exact blk_cell this 0
set_option maxRecDepth 100000 in
set_option maxHeartbeats 16000000 in
theorem known_walk (w : World) : Calls Try.prog 11 #[] w fun e w' => e = .returned (.bool true) ∧ Below w.heap.size w w' := by
  refine (callsIn_wide (n := 4)).1 ?_
  refine callsIn_of_wp_marks Try.func11 rfl trivial ?_ rfl
  refine wpIn_wide.2 ?_
  simp only [Try.ntmps11, List.size_toArray, List.length_cons, List.length_nil, Nat.reduceAdd, Nat.reduceSub, Array.replicate_succ, Array.replicate_zero, List.push_toArray, List.append_toArray, List.nil_append, List.cons_append]
  go_upto_region 1 with (fail)
  have HB := Aside0.mk (below_alloc (Below.refl _ w) (.cells #[.bool false] 4))
  have HK := Aside0.mk (show KB w.heap.size (w.alloc (.cells #[.bool false] 4)) from ⟨heap_alloc_new w _⟩)
  obtain ⟨gb, hgb⟩ : ∃ gb, w.heap.size = gb := ⟨_, rfl⟩
  have HG := Aside0.mk hgb
  rw [hgb] at HK
  simp only [hgb]
  generalize w.alloc (.cells #[.bool false] 4) = W0 at HB HK ⊢
  clear hgb
  go_wp2_with (first
    | (go_at_call 13; (with_reducible refine (kl1 HB.out).mono ?_); rintro e w1 ⟨t, v, rfl, T_, K_⟩; have T1 := Aside0.mk T_; have K1 := Aside0.mk (K_ _ HK.out); clear T_ K_)
    | (go_at_call 19; (with_reducible refine (kl2 T1.out).mono ?_); rintro e w2 ⟨rfl, ⟨v2, T_⟩, K_⟩; have T2 := Aside0.mk T_; have K2 := Aside0.mk (K_ _ K1.out); clear T_ K_)
    | (go_at_call 34; (with_reducible refine (kl3 T2.out).mono ?_); rintro e w3 ⟨rfl, T_, K_⟩; have T3 := Aside0.mk T_; have K3 := Aside0.mk (K_ _ K2.out); clear T_ K_)
    | (go_at_call 19; (with_reducible refine (kl4 T3.out).mono ?_); rintro e w4 ⟨rfl, ⟨v4, T_⟩, K_⟩; have T4 := Aside0.mk T_; have K4 := Aside0.mk (K_ _ K3.out); clear T_ K_)
    | (go_at_call 34; (with_reducible refine (kl5 T4.out).mono ?_); rintro e w5 ⟨rfl, T_, K_⟩; have T5 := Aside0.mk T_; have K5 := Aside0.mk (K_ _ K4.out); clear T_ K_)
    | (go_at_call 19; (with_reducible refine (kl6 T5.out).mono ?_); rintro e w6 ⟨rfl, ⟨v6, T_⟩, K_⟩; have T6 := Aside0.mk T_; have K6 := Aside0.mk (K_ _ K5.out); clear T_ K_)
    | (go_at_call 34; (with_reducible refine (kl7 T6.out).mono ?_); rintro e w7 ⟨rfl, T_, K_⟩; have T7 := Aside0.mk T_; have K7 := Aside0.mk (K_ _ K6.out); clear T_ K_)
    | (go_at_call 19; (with_reducible refine (kl8 T7.out).mono ?_); rintro e w8 ⟨rfl, ⟨v8, T_⟩, K_⟩; have T8 := Aside0.mk T_; have K8 := Aside0.mk (K_ _ K7.out); clear T_ K_)
    | (go_at_call 34; (with_reducible refine (kl9 T8.out).mono ?_); rintro e w9 ⟨rfl, T_, K_⟩; have T9 := Aside0.mk T_; have K9 := Aside0.mk (K_ _ K8.out); clear T_ K_)
    | (go_at_call 19; (with_reducible refine (kl10 T9.out).mono ?_); rintro e w10 ⟨rfl, ⟨v10, T_⟩, K_⟩; have T10 := Aside0.mk T_; have K10 := Aside0.mk (K_ _ K9.out); clear T_ K_)
    | (go_at_call 34; (with_reducible refine (kl11 T10.out).mono ?_); rintro e w11 ⟨rfl, T_, K_⟩; have T11 := Aside0.mk T_; have K11 := Aside0.mk (K_ _ K10.out); clear T_ K_)
    | (go_at_call 19; (with_reducible refine (kl12 T11.out).mono ?_); rintro e w12 ⟨rfl, ⟨v12, T_⟩, K_⟩; have T12 := Aside0.mk T_; have K12 := Aside0.mk (K_ _ K11.out); clear T_ K_)
    | (go_at_call 34; (with_reducible refine (kl13 T12.out).mono ?_); rintro e w13 ⟨rfl, T_, K_⟩; have T13 := Aside0.mk T_; have K13 := Aside0.mk (K_ _ K12.out); clear T_ K_)
    | (go_at_call 19; (with_reducible refine (kl14 T13.out).mono ?_); rintro e w14 ⟨rfl, ⟨v14, T_⟩, K_⟩; have T14 := Aside0.mk T_; have K14 := Aside0.mk (K_ _ K13.out); clear T_ K_)
    | (go_at_call 34; (with_reducible refine (kl15 T14.out).mono ?_); rintro e w15 ⟨rfl, T_, K_⟩; have T15 := Aside0.mk T_; have K15 := Aside0.mk (K_ _ K14.out); clear T_ K_)
    | (go_at_call 19; (with_reducible refine (kn15 T15.out).mono ?_); rintro e w_ ⟨rfl, rfl⟩)
    | (go_at_call 19; (with_reducible refine (kn16 T15.out).mono ?_); rintro e w_ ⟨rfl, rfl⟩)
    | (go_at_call 19; (with_reducible refine (kn17 T15.out).mono ?_); rintro e w_ ⟨rfl, rfl⟩)
    | (go_at_call 19; (with_reducible refine (kn18 T15.out).mono ?_); rintro e w_ ⟨rfl, rfl⟩)
    | (go_at_call 34; (with_reducible refine (kl16 T15.out).mono ?_); rintro e w16 ⟨rfl, T_, K_⟩; have T16 := Aside0.mk T_; have K16 := Aside0.mk (K_ _ K15.out); clear T_ K_)
    | (go_at_call 13; (with_reducible refine (kn_new0 T16.out.be).mono ?_); rintro e w17 ⟨tt, vv, rfl, T_, K_⟩; have T17 := Aside0.mk T_; have K17 := Aside0.mk (K_ _ K16.out); clear T_ K_)
    | (go_at_call 34; (with_reducible refine (kl18 T17.out).mono ?_); rintro e w18 ⟨rfl, T_, K_⟩; have T18 := Aside0.mk T_; have K18 := Aside0.mk (K_ _ K17.out); clear T_ K_)
    | (go_at_call 19; (with_reducible refine (kl19 T18.out).mono ?_); rintro e w19 ⟨rfl, ⟨v19, T_⟩, K_⟩; have T19 := Aside0.mk T_; have K19 := Aside0.mk (K_ _ K18.out); clear T_ K_)
    | (go_at_call 34; (with_reducible refine (kl20 T19.out).mono ?_); rintro e w20 ⟨rfl, T_, K_⟩; have T20 := Aside0.mk T_; have K20 := Aside0.mk (K_ _ K19.out); clear T_ K_)
    | (go_at_call 17; (with_reducible refine (kn_snap T20.out (by decide)).mono ?_); rintro e w21 ⟨t2, v2, rfl, T_, K_⟩; have T21 := Aside0.mk T_; have K21 := Aside0.mk (K_ _ K20.out); clear T_ K_)
    | (go_at_call 34; (with_reducible refine (kl22 T21.out).mono ?_); rintro e w22 ⟨rfl, T_, K_⟩; have T22 := Aside0.mk T_; have K22 := Aside0.mk (K_ _ K21.out); clear T_ K_))
  have BE := Aside0.mk T22.out.be
  clear T1 T2 T3 T4 T5 T6 T7 T8 T9 T10 T11 T12 T13 T14 T15 T16 T17 T18 T19 T20 T21 T22 K1 K2 K3 K4 K5 K6 K7 K8 K9 K10 K11 K12 K13 K14 K15 K16 K17 K18 K19 K20 K21
  have hfn : ∀ (W : World) (q : Nat) (c : Array Value), (binOp .eql 67 (.func (.func q) #[] c) .nilFunc).run Try.prog W = .ok (.bool false) W := fun W q c => by kernel_rfl
  have S0 := Aside0.mk (show KS w gb [] w22 from ⟨K22.out, BE.out, fun _ h => by cases h⟩)
  have hgle : w.heap.size ≤ gb := Nat.le_of_eq HG.out
  have HGB := Aside0.mk hgle
  clear K22 BE HB HK HG hgle
  refine wp_loop_rounds 3 ?_
  simp only [Code.rounds]
  go_wp2_with (first
    | (go_at_call 22; (with_reducible refine (nn_slice NoT.nil 0 0).mono ?_); rintro e w23 ⟨rfl, B_⟩; have S1 := Aside0.mk (S0.out.below B_); clear B_)
    | (go_at_call 35; (with_reducible refine (nn_all _ (.pointer none) rfl rfl).mono ?_); rintro e w24 ⟨rfl, rfl⟩))
  refine range_none rfl NoT.nil (new_box2 w23 _ _) ?_
  intro D1 W1 hD1 hb1 hK1
  have S2 := Aside0.mk (((S1.out.below (below_alloc (below_alloc (Below.refl _ w23) (.cells #[.pointer none] 25)) (.cells #[.pointer none] 25))).below hb1).more hK1)
  have HD1 := Aside0.mk (show w.heap.size ≤ D1 from Nat.le_trans (below_size S1.out.be) (by rw [World.size_alloc, World.size_alloc] at hD1; omega))
  clear hD1 hb1 hK1
  go_wp2_with (first
    | (go_at_call 19; (with_reducible refine (nn_rep NoT.nil 0 0 none 0 0).mono ?_); rintro e w_ ⟨rfl, rfl⟩)
    | (go_at_call 25; (with_reducible refine (nn_len NoT.nil).mono ?_); rintro e w_ ⟨rfl, rfl⟩)
    | (go_at_call 26; (with_reducible refine (nn_pcs NoT.nil).mono ?_); rintro e w_ ⟨rfl, rfl⟩)
    | (go_at_call 17; (with_reducible refine (nn_snap NoT.nil).mono ?_); rintro e w_ ⟨rfl, rfl⟩))
  have HZ := Aside0.mk (NoT.zero W1.heap.size (heap_alloc_new W1 (.cells #[.bool false, .slice none 0 0] 71)))
  have S3 := Aside0.mk (S2.out.below (below_alloc (Below.refl _ W1) (.cells #[.bool false, .slice none 0 0] 71)))
  generalize W1.alloc (.cells #[.bool false, .slice none 0 0] 71) = W2 at HZ S3 ⊢
  generalize W1.heap.size = zt at HZ ⊢
  clear S0 S1 S2
  refine (nn_slice HZ.out 0 0).mono ?_
  rintro e w33 ⟨rfl, B_⟩
  have S4 := Aside0.mk (S3.out.below B_)
  have HZ4 := Aside0.mk (HZ.out.step B_)
  clear B_ S3 HZ
  go_wp2_with (first
    | (go_at_call 35; (with_reducible refine (nn_all _ (.pointer (some ⟨zt, 0, none⟩)) rfl rfl).mono ?_); rintro e w24 ⟨rfl, rfl⟩))
  have HZ5 := Aside0.mk (HZ4.out.step (below_alloc (below_alloc (Below.refl _ w33) (.cells #[.pointer (some ⟨zt, 0, none⟩)] 25)) (.cells #[.pointer (some ⟨zt, 0, none⟩)] 25)))
  refine range_none rfl HZ5.out (new_box2 w33 _ _) ?_
  intro D2 W3 hD2 hb2 hK2
  have hne : D2 ≠ D1 := fun e => by
    have h1 := (Array.getElem?_eq_some_iff.1 (S4.out.ds D1 (by simp))).1
    rw [World.size_alloc, World.size_alloc] at hD2; omega
  have S5 := Aside0.mk (((S4.out.below (below_alloc (below_alloc (Below.refl _ w33) (.cells #[.pointer (some ⟨zt, 0, none⟩)] 25)) (.cells #[.pointer (some ⟨zt, 0, none⟩)] 25))).below hb2).more hK2)
  have HZ6 := Aside0.mk (HZ5.out.step hb2)
  have HNE := Aside0.mk hne
  have HD2 := Aside0.mk (show w.heap.size ≤ D2 from Nat.le_trans (below_size S4.out.be) (by rw [World.size_alloc, World.size_alloc] at hD2; omega))
  clear hD2 hb2 hK2 hne S4 HZ4 HZ5
  go_wp2_with (first
    | (go_at_call 19; (with_reducible refine (nn_rep HZ6.out 0 0 none 0 0).mono ?_); rintro e w_ ⟨rfl, rfl⟩)
    | (go_at_call 25; (with_reducible refine (nn_len HZ6.out).mono ?_); rintro e w_ ⟨rfl, rfl⟩)
    | (go_at_call 26; (with_reducible refine (nn_pcs HZ6.out).mono ?_); rintro e w_ ⟨rfl, rfl⟩)
    | (go_at_call 17; (with_reducible refine (nn_snap HZ6.out).mono ?_); rintro e w_ ⟨rfl, rfl⟩)
    | (go_at_call 21; (with_reducible refine (works_calls _).mono ?_); rintro e w40 ⟨rfl, B_⟩; have S6 := Aside0.mk ((S5.out.below (below_alloc (Below.refl _ W3) (.cells #[.bool false, .slice none 0 0] 71))).below B_); have kc := blk_cell S6.out.kb.out 0; have kf := blk_frozen S6.out.kb.out 0; simp at kc; clear B_))
  have e2 : (w40.setCell ⟨gb, 0, none⟩ (.bool true)).heap[D2]? = some (.deferred (some [])) := (Below.heap_setCell w40 ⟨gb, 0, none⟩ (.bool true) D2 (S6.out.apart (by simp))).trans (S6.out.ds D2 (by simp))
  have e1 : ((w40.setCell ⟨gb, 0, none⟩ (.bool true)).putObj D2 (.deferred none)).heap[D1]? = some (.deferred (some [])) := (World.putObj_heap_other (fun e => HNE.out e.symm)).trans ((Below.heap_setCell w40 ⟨gb, 0, none⟩ (.bool true) D1 (S6.out.apart (by simp))).trans (S6.out.ds D1 (by simp)))
  refine ⟨by simp, .inl ⟨_, _, rfl, run_takeDeferred e2, ⟨by simp, .inl ⟨_, _, rfl, run_takeDeferred e1, ?_⟩⟩⟩⟩
  exact ⟨_, results_bool rfl rfl (S6.out.last D1 D2 (by simp) (by simp)), rfl, Below_put (Below_put (below_set S6.out.be HGB.out) HD2.out _) HD1.out _⟩
end Go.Proofs.Ytfedlanbmibhkaa.P
