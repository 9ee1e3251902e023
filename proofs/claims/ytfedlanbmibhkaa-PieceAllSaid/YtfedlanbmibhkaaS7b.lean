/- A table of pieces: New, Snap, cut, Replace. -/
import Derived.Test.YtfedlanbmibhkaaS6b
namespace Go.Proofs.Ytfedlanbmibhkaa.P
open Go.RowKit Go.Proofs.YtfedlanbmibhkaaW.PrintWords Go.Proofs.YtfedlanbmibhkaaW.PrintLast Go.Proofs.YtfedlanbmibhkaaW.PrintMore
set_option linter.unusedVariables false
set_option linter.unusedSimpArgs false
theorem Tab_b.weaken {B : Nat} {w : World} {t : Nat} {C C' : Nat → Prop} {v : Value} {ps : List (List Int)} (h : Tab_b B w t C v ps) (hC : ∀ g, C g → C' g) : Tab_b B w t C' v ps := by
  obtain ⟨vs, ho, hr⟩ := h.row
  exact ⟨h.lo, h.box, ⟨vs, ho, hr.imp fun u p hb => hb.move hC fun _ _ _ => rfl⟩, h.full⟩
/-- what a method leaves -/
def Left_b (B : Nat) (t : Nat) (C : Nat → Prop) (v : Value) (ps : List (List Int)) (w w' : World) : Prop :=
  ∃ v', Tab_b B w' t C v' ps ∧ Eff_b t v.ownBlock w w' ∧ (v'.ownBlock = v.ownBlock ∨ ∃ b, v'.ownBlock = some b ∧ w.heap.size ≤ b)
theorem Left_b.trans {B t : Nat} {C C' : Nat → Prop} {v : Value} {ps ps' : List (List Int)} {w w1 w2 : World} (h : Left_b B t C v ps w w1) (k : ∀ v1, Tab_b B w1 t C v1 ps → Left_b B t C' v1 ps' w1 w2) : Left_b B t C' v ps' w w2 := by
  obtain ⟨v1, h1, h2, h3⟩ := h
  obtain ⟨v2, k1, k2, k3⟩ := k v1 h1
  refine ⟨v2, k1, h2.trans k2 h3, ?_⟩
  rcases k3 with e | ⟨b, e, hb⟩
  · rcases h3 with f | ⟨b, f, hb⟩
    · exact .inl (e.trans f)
    · exact .inr ⟨b, e.trans f, hb⟩
  · exact .inr ⟨b, e, Nat.le_trans h2.size hb⟩
set_option maxHeartbeats 1000000 in
theorem put_none_b {B : Nat} {w : World} {t : Nat} {C : Nat → Prop} {v : Value} {ps : List (List Int)} (h : Tab_b B w t C v ps) (i : Nat) (A : Option Addr) (c : Nat) :
    Calls Try.prog 36 #[.pointer (some ⟨t, 0, none⟩), .int .i64 i, .slice A 0 c] w fun e w' => e = .returned (.tuple #[]) ∧ w = w' := by
  clear h
  go_enter Try.func36, Try.ntmps36
  go_wp2
  go_end0
  exact ⟨rfl, rfl⟩
theorem put_calls_b {B : Nat} {w : World} {t : Nat} {C : Nat → Prop} {v : Value} {ps : List (List Int)} (h : Tab_b B w t C v ps) (i : Nat) (hi : i ≤ ps.length) (hn : ps.length ≤ 1000000) (A : Option Addr) (c : Nat) (xs : List Int) (hr : Kd.C (Kd.int .u8) w A xs.length xs) (hx : xs.length * 1 ≤ 140737488355328) (hB : B ≤ w.heap.size) :
    Calls Try.prog 36 #[.pointer (some ⟨t, 0, none⟩), .int .i64 i, .slice A xs.length c] w fun e w' => e = .returned (.tuple #[]) ∧ Left_b B t (fun g => C g ∨ w.heap.size ≤ g) v (putS ps i xs) w w' := by
  by_cases h0 : 0 < xs.length
  · exact put_some_b h i hi hn A c xs hr h0 hx hB
  · have e : xs = [] := List.eq_nil_of_length_eq_zero (by omega)
    subst e
    refine (put_none_b h i A c).mono ?_
    rintro e w' ⟨rfl, rfl⟩
    exact ⟨rfl, v, h.weaken fun _ => .inl, Eff_b.refl _ _ _, .inl rfl⟩
set_option maxHeartbeats 1000000 in
/-- New -/
theorem new_calls_b {B : Nat} {w : World} (A : Option Addr) (c : Nat) (xs : List Int) (hr : Kd.C (Kd.int .u8) w A xs.length xs) (hx : xs.length * 1 ≤ 140737488355328) (hB : B ≤ w.heap.size) :
    Calls Try.prog 13 #[.slice A xs.length c] w fun e w' => ∃ t v, e = .returned (.pointer (some ⟨t, 0, none⟩)) ∧ Tab_b B w' t (fun g => w.heap.size ≤ g) v (newS xs) ∧ Below w.heap.size w w' ∧ w.heap.size ≤ t ∧ ∀ b, v.ownBlock = some b → w.heap.size ≤ b := by
  have HC := Aside0.mk hr
  have HT : Aside0 (Tab_b B (w.alloc (.cells #[.bool true, .slice none 0 0] 71)) w.heap.size (fun _ => False) (.slice none 0 0) []) := ⟨⟨hB, heap_alloc_new w _, ⟨[], World.ownsRow_nil _ _ _ _, .nil⟩, full_nil⟩⟩
  clear hr
  go_enter Try.func13, Try.ntmps13
  go_wp2_with (go_at_call 36; refine (put_calls_b HT.out 0 (Nat.le_refl _) (by simp) A c xs (Kd.C_alloc HC.out _) hx (Nat.le_trans hB (by rw [World.size_alloc]; exact Nat.le_succ _))).mono ?_; rintro e w1 ⟨rfl, hl⟩; have HL := Aside0.mk hl; clear hl)
  go_ret
  obtain ⟨v', h1, h2, h3⟩ := HL.out
  rw [putS_new] at h1
  refine ⟨w.heap.size, v', rfl, h1.weaken fun g hg => ?_, ?_, Nat.le_refl _, fun b hb => ?_⟩
  · rcases hg with hg | hg
    · exact hg.elim
    · rw [World.size_alloc] at hg; omega
  · exact h2.to_below (Nat.le_refl _) (fun b e => by cases e) (below_alloc (Below.refl _ w) _) (by rw [World.size_alloc]; exact Nat.le_succ _)
  · rcases h3 with e | ⟨b', e, hb'⟩
    · rw [e] at hb; cases hb
    · rw [e] at hb; cases hb; rw [World.size_alloc] at hb'; omega
--b
set_option maxHeartbeats 1000000 in
/-- Snap -/
theorem snap_calls_b {B : Nat} {w : World} {t : Nat} {C : Nat → Prop} {v : Value} {ps : List (List Int)} (h : Tab_b B w t C v ps) (hn : ps.length ≤ 1000000) (hB : B ≤ w.heap.size) :
    Calls Try.prog 17 #[.pointer (some ⟨t, 0, none⟩)] w fun e w' => ∃ t' v', e = .returned (.pointer (some ⟨t', 0, none⟩)) ∧ Tab_b B w' t' C v' ps ∧ Below w.heap.size w w' ∧ w.heap.size ≤ t' ∧ ∀ b, v'.ownBlock = some b → w.heap.size ≤ b := by
  obtain ⟨-, h1, -⟩ := h.cells
  obtain ⟨vs, ho, hr⟩ := h.row
  have H := Aside0.mk h
  have HO := Aside0.mk ho
  have HR := Aside0.mk hr
  have HX : Aside0 (∀ x ∈ vs, x.oneCell' = true) := ⟨hr.left fun _ _ hb => hb.one⟩
  clear h ho hr
  go_enter Try.func17, Try.ntmps17
  go_wp2_with (first
    | (go_at_call 37; refine (none_calls_b H.out).mono ?_; rintro e w' ⟨rfl, rfl⟩)
    | (go_at_call 38; refine (clone_calls_b B ps.length v vs _ HO.out hn HX.out).mono ?_; rintro e w1 ⟨v1, rfl, ho1, hb1⟩; obtain ⟨A1, c1, rfl⟩ := own_slice ho1; have O1 := Aside0.mk ho1; have S1 := Aside0.mk hb1; clear ho1 hb1))
  go_ret
  have hsz := S1.out.size
  refine ⟨w1.heap.size, .slice A1 ps.length c1, rfl, ⟨Nat.le_trans hB hsz, heap_alloc_new w1 _, ⟨vs, own_lower (pw_own_below O1.out (below_alloc (Below.refl _ w1) _)) hB, ?_⟩, H.out.full⟩, below_alloc S1.out _, hsz, fun b hb => own_base O1.out b hb⟩
  exact HR.out.imp fun u p hb => hb.move (fun _ a => a) fun g hg _ => (below_alloc S1.out _).block g hg
--end
end Go.Proofs.Ytfedlanbmibhkaa.P
