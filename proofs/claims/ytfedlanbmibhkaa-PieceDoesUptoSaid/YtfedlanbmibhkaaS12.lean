/- The laws' helpers: tells. -/
import Derived.Test.YtfedlanbmibhkaaSIb
namespace Go.Proofs.Ytfedlanbmibhkaa.P
open Go.RowKit Go.Shelf Go.Proofs.YtfedlanbmibhkaaW.PrintWords Go.Proofs.YtfedlanbmibhkaaW.PrintLast Go.Proofs.YtfedlanbmibhkaaW.PrintMore
set_option linter.unusedVariables false
set_option linter.unusedSimpArgs false
attribute [local go_sem] Oper.semAt_some
theorem zero_eq_cast : ((0 : Nat) : Int) = 0 := rfl
set_option maxRecDepth 100000 in
set_option maxHeartbeats 4000000 in
/-- tells, of what a table has -/
theorem tells_calls {B : Nat} {w : World} {t : Nat} {C : Nat → Prop} {v : Value} {ps : List (List Int)} (h : Tab_b B w t C v ps) (hs : ps.flatten.length * 1 ≤ 140737488355328) (s : ByteArray) (k : Int) (he : strOfNums ps.flatten = s) (hk : k = (ps.length : Int)) :
    Calls Try.prog 34 #[.pointer (some ⟨t, 0, none⟩), .string s, .int .i64 k] w fun e w' => e = .returned (.bool true) ∧ Below w.heap.size w w' := by
  subst hk
  have hs' : ps.flatten.length ≤ 4611686018427387904 := by omega
  obtain ⟨N, hN⟩ : ∃ N, ps.flatten.length = N := ⟨_, rfl⟩
  have hsz : s.size = N := by rw [← he, ← hN, strOfNums_size]
  have HT := Aside0.mk h
  have HS := Aside0.mk hs
  have HS' := Aside0.mk hs'
  have HN := Aside0.mk hN
  have HE := Aside0.mk he
  clear h hs hs' hN he
  go_enter Try.func34, Try.ntmps34
  go_wp2_with (first
    | (go_at_call 25; (with_reducible refine (len_calls_b HT.out HS'.out N HN.out).mono ?_); rintro e w' ⟨rfl, rfl⟩)
    | (go_at_call 22; (refine (slice_calls_b HT.out 0 N (Nat.zero_le _) (by rw [HN.out]; exact Nat.le_refl _) HS.out).mono ?_); rintro e w1 ⟨v1, rfl, o1, b1⟩; rw [List.take_of_length_le (Nat.le_of_eq HN.out), List.drop_zero] at o1; have hcv := own_string (P := Try.prog) (src := 22) (dst := 9) (e := 5) rfl rfl rfl o1; rw [HE.out] at hcv; rw [HN.out] at o1; obtain ⟨A1, c1, rfl⟩ := own_slice o1; have HT1 := Aside0.mk (HT.out.below b1); have O1 := Aside0.mk o1; have B1 := Aside0.mk b1; clear o1 b1)
    | (go_at_call 25; (with_reducible refine (len_calls_b HT1.out HS'.out N HN.out).mono ?_); rintro e w' ⟨rfl, rfl⟩)
    | (go_at_call 26; (with_reducible refine (pieces_calls_b HT1.out).mono ?_); rintro e w' ⟨rfl, rfl⟩))
  go_ret
  exact ⟨rfl, B1.out⟩
end Go.Proofs.Ytfedlanbmibhkaa.P
