/- The laws' helpers: works. -/
import Derived.Test.YtfedlanbmibhkaaS12
import Derived.Lib.SlBytesConst
import Derived.Test.YtfedlanbmibhkaaS12tb
namespace Go.Proofs.Ytfedlanbmibhkaa.P
open Go.RowKit Go.Shelf Go.Proofs.YtfedlanbmibhkaaW.PrintWords Go.Proofs.YtfedlanbmibhkaaW.PrintLast Go.Proofs.YtfedlanbmibhkaaW.PrintMore
set_option linter.unusedVariables false
set_option linter.unusedSimpArgs false
attribute [local go_sem] Oper.semAt_some
theorem TT_b.tells {w0 w : World} {t : Nat} {v : Value} {ps : List (List Int)} (h : TT_b w0 w t v ps) (hs : ps.flatten.length * 1 ≤ 140737488355328) (s : ByteArray) (k : Int) (he : strOfNums ps.flatten = s) (hk : k = (ps.length : Int)) :
    Calls Try.prog 34 #[.pointer (some ⟨t, 0, none⟩), .string s, .int .i64 k] w fun e w' => e = .returned (.bool true) ∧ Below w.heap.size w w' := tells_calls h.tab hs s k he hk
theorem new_abc : newS [97, 98, 99] = ([[97, 98, 99]] : List (List Int)) := by decide
theorem rep_abc : replS [[97, 98, 99]] 1 2 [88, 89] = ([[97], [88, 89], [99]] : List (List Int)) := by decide
theorem rep_aXYc : replS [[97], [88, 89], [99]] 0 4 [] = ([] : List (List Int)) := by decide
theorem lit_get {cs : Array Value} {xs : List Int} (h : cs = (xs.map (Value.int .u8)).toArray) : ∀ (j : Nat) (x : Int), xs[j]? = some x → cs[j]? = some (Value.int .u8 x) := fun j x hx => by
  subst h; simp [hx]
theorem conv_bytes (w : World) (C : Array Value) (n c : Nat) : (convert 22 22 (.slice (some ⟨w.heap.size, 0, none⟩) n c)).run Try.prog (w.alloc (.cells C 5)) = .ok (.slice (some ⟨w.heap.size, 0, none⟩) n c) (w.alloc (.cells C 5 (C.size, C.size + 1))) := Lib.run_convert_bytes_const w 22 5 C n c rfl rfl
attribute [local go_sem] conv_bytes
theorem wk_new (w : World) : Calls Try.prog 13 #[.slice (some ⟨w.heap.size, 0, none⟩) 3 3] (w.alloc (.cells #[.int .u8 97, .int .u8 98, .int .u8 99] 5 (3, 4))) fun e w' => ∃ t v, e = .returned (.pointer (some ⟨t, 0, none⟩)) ∧ TT_b w w' t v [[97, 98, 99]] := by
  refine (TT_b.newI (below_alloc (Below.refl _ w) _) (some ⟨w.heap.size, 0, none⟩) 3 3 [97, 98, 99] rfl (C_lit_b (heap_alloc_new w _) (by decide) (lit_get rfl)) (by decide)).mono ?_
  rintro e w2 ⟨t, v, rfl, T_, -⟩
  exact ⟨t, v, rfl, by rw [new_abc] at T_; exact T_⟩
theorem wk_rep1 {w0 w : World} {t : Nat} {v : Value} (h : TT_b w0 w t v [[97, 98, 99]]) : Calls Try.prog 19 #[.pointer (some ⟨t, 0, none⟩), .int .i64 1, .int .i64 2, .slice (some ⟨w.heap.size, 0, none⟩) 2 2] (w.alloc (.cells #[.int .u8 88, .int .u8 89] 5 (2, 3))) fun e w' => e = .returned (.int .i64 0) ∧ ∃ v', TT_b w0 w' t v' [[97], [88, 89], [99]] := by
  refine ((h.step (below_alloc (Below.refl _ _) _)).repI 1 2 1 2 (by decide) (by decide) (by decide) (by decide) (by decide) (by decide) (some ⟨w.heap.size, 0, none⟩) 2 2 [88, 89] rfl (C_lit_b (heap_alloc_new w _) (by decide) (lit_get rfl)) (by decide) (fun _ ad e_ => by cases e_; exact h.fresh (Nat.le_refl _)) _ rep_abc).mono ?_
  rintro e w' ⟨rfl, v', h', -⟩
  exact ⟨rfl, v', h'⟩
theorem str_aXYc : strOfNums ([[97], [88, 89], [99]] : List (List Int)).flatten = ⟨#[97, 88, 89, 99]⟩ := by decide +kernel
theorem str_XY : strOfNums ([88, 89] : List Int) = ⟨#[88, 89]⟩ := by decide +kernel
theorem wk_tells {w0 w : World} {t : Nat} {v : Value} (h : TT_b w0 w t v [[97], [88, 89], [99]]) : Calls Try.prog 34 #[.pointer (some ⟨t, 0, none⟩), .string ⟨#[97, 88, 89, 99]⟩, .int .i64 3] w fun e w' => e = .returned (.bool true) ∧ Below w.heap.size w w' := h.tells (by decide) _ 3 str_aXYc (by decide)
theorem wk_tells0 {w0 w : World} {t : Nat} {v : Value} (h : TT_b w0 w t v []) : Calls Try.prog 34 #[.pointer (some ⟨t, 0, none⟩), .string ⟨#[]⟩, .int .i64 0] w fun e w' => e = .returned (.bool true) ∧ Below w.heap.size w w' := h.tells (by decide) _ 0 (by decide +kernel) (by decide)
theorem wk_snap {w0 w : World} {t : Nat} {v : Value} (h : TT_b w0 w t v [[97], [88, 89], [99]]) : Calls Try.prog 17 #[.pointer (some ⟨t, 0, none⟩)] w fun e w' => ∃ t' v', e = .returned (.pointer (some ⟨t', 0, none⟩)) ∧ TT_b w0 w' t' v' [[97], [88, 89], [99]] ∧ TT_b w0 w' t v [[97], [88, 89], [99]] ∧ t ≠ t' ∧ ∀ b, v.ownBlock = some b → v'.ownBlock ≠ some b := by
  refine (h.snap (by decide)).mono ?_
  rintro e w5 ⟨t5, v5, rfl, T_, B_, L_, N_⟩
  exact ⟨t5, v5, rfl, T_, h.step B_, by have := h.lt; omega, fun b e1 e2 => by have := (h.tab.ownB b e1).2.1; have := N_ b e2; omega⟩
theorem wk_rep2 {w0 w : World} {t t' : Nat} {v v' : Value} (h : TT_b w0 w t v [[97], [88, 89], [99]]) (h' : TT_b w0 w t' v' [[97], [88, 89], [99]]) (ha : t ≠ t' ∧ ∀ b, v.ownBlock = some b → v'.ownBlock ≠ some b) : Calls Try.prog 19 #[.pointer (some ⟨t, 0, none⟩), .int .i64 0, .int .i64 4, .slice none 0 0] w fun e w' => e = .returned (.int .i64 0) ∧ (∃ v2, TT_b w0 w' t v2 []) ∧ TT_b w0 w' t' v' [[97], [88, 89], [99]] := by
  refine (h.repI 0 4 0 4 (by decide) (by decide) (by decide) (by decide) (by decide) (by decide) none 0 0 [] rfl (C_nil_b _ _) (by decide) (fun _ ad e_ => by cases e_) _ rep_aXYc).mono ?_
  rintro e w6 ⟨rfl, v6, T_, E_, N_⟩
  exact ⟨rfl, ⟨v6, T_⟩, h.other h' ha E_⟩
theorem wk_slice {w0 w : World} {t : Nat} {v : Value} (h : TT_b w0 w t v [[97], [88, 89], [99]]) : Calls Try.prog 22 #[.pointer (some ⟨t, 0, none⟩), .int .i64 1, .int .i64 3] w fun e w' => ∃ A c, e = .returned (.tuple #[.slice A 2 c, .int .i64 0]) ∧ w'.ownsRow w.heap.size 5 1 (.slice A 2 c) 2 (nums .u8 [88, 89]) ∧ Below w.heap.size w w' :=
  h.sliceI 1 3 1 3 (by decide) (by decide) (by decide) (by decide) (by decide) 2 [88, 89] (by decide) (by decide)
theorem conv_XY {w : World} {B : Nat} {v : Value} (h : w.ownsRow B 5 1 v 2 (nums .u8 [88, 89])) : (convert 22 9 v).run Try.prog w = .ok (.string ⟨#[88, 89]⟩) w := by
  rw [← str_XY]; exact own_string (P := Try.prog) (src := 22) (dst := 9) (e := 5) rfl rfl rfl h
set_option maxRecDepth 100000 in
set_option maxHeartbeats 4000000 in
theorem works_calls (w : World) : Calls Try.prog 21 #[] w fun e w' => e = .returned (.bool true) ∧ Below w.heap.size w w' := by
  go_enter Try.func21, Try.ntmps21
  go_wp2_with (first
    | (go_at_call 13; (with_reducible refine (wk_new w).mono ?_); rintro e w2 ⟨t, v, rfl, T_⟩; have T := Aside0.mk T_; clear T_)
    | (go_at_call 19; (with_reducible refine (wk_rep1 T.out).mono ?_); rintro e w3 ⟨rfl, v3, T_⟩; have T3 := Aside0.mk T_; clear T_)
    | (go_at_call 34; (with_reducible refine (wk_tells T3.out).mono ?_); rintro e w4 ⟨rfl, B_⟩; have T4 := Aside0.mk (T3.out.step B_); clear B_)
    | (go_at_call 17; (with_reducible refine (wk_snap T4.out).mono ?_); rintro e w5 ⟨t5, v5, rfl, S_, T_, hap_⟩; have S5 := Aside0.mk S_; have T5 := Aside0.mk T_; have hap := Aside0.mk hap_; clear T_ S_ hap_)
    | (go_at_call 19; (with_reducible refine (wk_rep2 T5.out S5.out hap.out).mono ?_); rintro e w6 ⟨rfl, ⟨v6, T_⟩, S_⟩; have T6 := Aside0.mk T_; have S6 := Aside0.mk S_; clear T_ S_)
    | (go_at_call 22; (with_reducible refine (wk_slice S6.out).mono ?_); rintro e w7 ⟨A7, c7, rfl, o_, B_⟩; have T7 := Aside0.mk (T6.out.step B_); have S7 := Aside0.mk (S6.out.step B_); have O7 := Aside0.mk o_; clear o_ B_)
    | (go_at_call 34; (with_reducible refine (wk_tells0 T7.out).mono ?_); rintro e w8 ⟨rfl, B_⟩; have S8 := Aside0.mk (S7.out.step B_); have hcv2 := conv_XY (pw_own_below O7.out B_); clear B_)
    | (go_at_call 34; (with_reducible refine (wk_tells S8.out).mono ?_); rintro e w9 ⟨rfl, B_⟩; have S9 := Aside0.mk (S8.out.step B_); clear B_))
  go_ret
  exact ⟨rfl, S9.out.be⟩
end Go.Proofs.Ytfedlanbmibhkaa.P
