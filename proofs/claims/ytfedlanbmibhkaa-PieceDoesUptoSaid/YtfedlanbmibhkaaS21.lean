/- Tables that are none. -/
import Derived.Test.YtfedlanbmibhkaaS15
namespace Go.Proofs.Ytfedlanbmibhkaa.P
open Go.RowKit Go.Shelf Go.Proofs.YtfedlanbmibhkaaW.PrintWords Go.Proofs.YtfedlanbmibhkaaW.PrintLast Go.Proofs.YtfedlanbmibhkaaW.PrintMore
set_option linter.unusedVariables false
set_option linter.unusedSimpArgs false
attribute [local go_sem] Oper.semAt_some
/-- a table that is none -/
inductive NoT (w : World) : Value → Prop
  | nil : NoT w (.pointer none)
  | zero (t : Nat) (h : w.heap[t]? = some (.cells #[.bool false, .slice none 0 0] 71 (0, 0))) : NoT w (.pointer (some ⟨t, 0, none⟩))
theorem NoT.step {w w' : World} {p : Value} (h : NoT w p) (hb : Below w.heap.size w w') : NoT w' p := by
  cases h with
  | nil => exact .nil
  | zero t h => exact .zero t ((hb.block t (blk_lt h)).trans h)
set_option maxHeartbeats 1000000 in
theorem nn_none {w : World} {p : Value} (h : NoT w p) : Calls Try.prog 37 #[p] w fun e w' => e = .returned (.bool true) ∧ w = w' := by
  cases h with
  | nil =>
    go_enter Try.func37, Try.ntmps37
    go_wp2
    go_ret
    exact ⟨rfl, rfl⟩
  | zero t h =>
    have h0 := blk_cell h 0
    clear h
    go_enter Try.func37, Try.ntmps37
    go_wp2
    go_ret
    exact ⟨rfl, rfl⟩
set_option maxHeartbeats 1000000 in
theorem nn_len {w : World} {p : Value} (h : NoT w p) : Calls Try.prog 25 #[p] w fun e w' => e = .returned (.int .i64 0) ∧ w = w' := by
  have H := Aside0.mk h
  clear h
  go_enter Try.func25, Try.ntmps25
  go_wp2_with (go_at_call 37; refine (nn_none H.out).mono ?_; rintro e w' ⟨rfl, rfl⟩)
  go_ret
  exact ⟨rfl, rfl⟩
set_option maxHeartbeats 1000000 in
theorem nn_pcs {w : World} {p : Value} (h : NoT w p) : Calls Try.prog 26 #[p] w fun e w' => e = .returned (.int .i64 0) ∧ w = w' := by
  have H := Aside0.mk h
  clear h
  go_enter Try.func26, Try.ntmps26
  go_wp2_with (go_at_call 37; refine (nn_none H.out).mono ?_; rintro e w' ⟨rfl, rfl⟩)
  go_ret
  exact ⟨rfl, rfl⟩
set_option maxHeartbeats 1000000 in
theorem nn_snap {w : World} {p : Value} (h : NoT w p) : Calls Try.prog 17 #[p] w fun e w' => e = .returned (.pointer none) ∧ w = w' := by
  have H := Aside0.mk h
  clear h
  go_enter Try.func17, Try.ntmps17
  go_wp2_with (go_at_call 37; refine (nn_none H.out).mono ?_; rintro e w' ⟨rfl, rfl⟩)
  go_ret
  exact ⟨rfl, rfl⟩
set_option maxHeartbeats 1000000 in
theorem nn_rep {w : World} {p : Value} (h : NoT w p) (f k : Int) (A : Option Addr) (n c : Nat) : Calls Try.prog 19 #[p, .int .i64 f, .int .i64 k, .slice A n c] w fun e w' => e = .returned (.int .i64 1) ∧ w = w' := by
  have H := Aside0.mk h
  clear h
  go_enter Try.func19, Try.ntmps19
  go_wp2_with (go_at_call 37; refine (nn_none H.out).mono ?_; rintro e w' ⟨rfl, rfl⟩)
  go_ret
  exact ⟨rfl, rfl⟩
set_option maxHeartbeats 1000000 in
theorem nn_slice {w : World} {p : Value} (h : NoT w p) (f k : Int) : Calls Try.prog 22 #[p, .int .i64 f, .int .i64 k] w fun e w' => e = .returned (.tuple #[.slice none 0 0, .int .i64 1]) ∧ Below w.heap.size w w' := by
  have H := Aside0.mk h
  clear h
  go_enter Try.func22, Try.ntmps22
  go_wp2_with (go_at_call 37; refine (nn_none (H.out.step (below_alloc (below_alloc (Below.refl _ w) _) _))).mono ?_; rintro e w' ⟨rfl, rfl⟩)
  go_ret2
  exact ⟨rfl, below_alloc (below_alloc (Below.refl _ w) _) _⟩
set_option maxHeartbeats 1000000 in
theorem nn_all (w : World) (p : Value) (hp : p.oneCell' = true) (hv : p.cells = #[p]) : Calls Try.prog 35 #[p] w fun e w' => e = .returned (.func (.func 48) #[] #[.pointer (some ⟨w.heap.size, 0, none⟩)]) ∧ w' = w.alloc (.cells #[p] 25) := by
  go_enter Try.func35, Try.ntmps35
  go_wp2
  go_ret
  exact ⟨rfl, rfl⟩
end Go.Proofs.Ytfedlanbmibhkaa.P
