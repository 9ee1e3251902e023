/- A reader in memory; what is asked of it; a copy of bytes. -/
import Derived.Test.YthkmacgjekienaaDoorP1
import Derived.Lib.SliceRun
namespace Go.Proofs.YthkmacgjekienaaDoor.P
attribute [-simp] List.length_drop List.length_take ByteArray.size_append
open Go.RowKit Go.Proofs.YthkmacgjekienaaDoorW.PrintWords Go.Proofs.YthkmacgjekienaaDoorW.PrintLast Go.Proofs.YthkmacgjekienaaDoorW.PrintMore
set_option linter.unusedVariables false
set_option linter.unusedSimpArgs false
/-- the program's reader: block g; its bytes lie in a row of its own -/
structure Rd (lo : Nat) (w : World) (g : Nat) (v : Value) (B : List Int) (cl : Bool) : Prop where
  blk : w.heap[g]? = some (.cells #[v, .bool true, .bool cl] 57 (0, 0))
  row : Kd.R (Kd.int .u8) 5 w lo (fun _ => True) v B
  lo : lo ≤ g
theorem Rd.c1 {lo : Nat} {w : World} {g : Nat} {v : Value} {B : List Int} {cl : Bool} (h : Rd lo w g v B cl) : w.cell? ⟨g, 1, none⟩ = some (.bool true) := (blk_cell h.blk 1).trans rfl
theorem Rd.c2 {lo : Nat} {w : World} {g : Nat} {v : Value} {B : List Int} {cl : Bool} (h : Rd lo w g v B cl) : w.cell? ⟨g, 2, none⟩ = some (.bool cl) := (blk_cell h.blk 2).trans rfl
theorem Rd.c0 {lo : Nat} {w : World} {g : Nat} {v : Value} {B : List Int} {cl : Bool} (h : Rd lo w g v B cl) : w.cell? ⟨g, 0, none⟩ = some v := (blk_cell h.blk 0).trans rfl
theorem Rd.lt {lo : Nat} {w : World} {g : Nat} {v : Value} {B : List Int} {cl : Bool} (h : Rd lo w g v B cl) : g < w.heap.size := blk_lt h.blk
theorem Rd.below {lo : Nat} {w w' : World} {g : Nat} {v : Value} {B : List Int} {cl : Bool} (h : Rd lo w g v B cl) (hb : Below w.heap.size w w') : Rd lo w' g v B cl :=
  ⟨(hb.block g h.lt).trans h.blk, Kd.R_below h.row hb, h.lo⟩
theorem none_calls {w : World} {g : Nat} (h : w.cell? ⟨g, 1, none⟩ = some (.bool true)) : Calls Tryd.prog 29 #[.pointer (some ⟨g, 0, none⟩)] w fun e w' => e = .returned (.bool false) ∧ w = w' := by
  go_enter Tryd.func29, Tryd.ntmps29
  go_wp2
  go_ret
  exact ⟨rfl, rfl⟩
theorem none_nil (w : World) : Calls Tryd.prog 29 #[.pointer none] w fun e w' => e = .returned (.bool true) ∧ w = w' := by
  go_enter Tryd.func29, Tryd.ntmps29
  go_wp2
  go_ret
  exact ⟨rfl, rfl⟩
theorem none_un {w : World} {g : Nat} (h : w.cell? ⟨g, 1, none⟩ = some (.bool false)) : Calls Tryd.prog 29 #[.pointer (some ⟨g, 0, none⟩)] w fun e w' => e = .returned (.bool true) ∧ w = w' := by
  go_enter Tryd.func29, Tryd.ntmps29
  go_wp2
  go_ret
  exact ⟨rfl, rfl⟩
theorem left_calls {lo : Nat} {w : World} {g : Nat} {v : Value} {B : List Int} {cl : Bool} (h : Rd lo w g v B cl) : Calls Tryd.prog 17 #[.pointer (some ⟨g, 0, none⟩)] w fun e w' => e = .returned (.int .i64 B.length) ∧ w = w' := by
  have h1 := h.c1
  have h0 := h.c0
  obtain ⟨A, c, rfl⟩ := Kd.R_slice h.row
  clear h
  go_enter Tryd.func17, Tryd.ntmps17
  go_wp2_with (go_at_call 29; (with_reducible refine (none_calls h1).mono ?_); rintro e w' ⟨rfl, rfl⟩)
  go_ret
  exact ⟨rfl, rfl⟩
theorem closed_calls {lo : Nat} {w : World} {g : Nat} {v : Value} {B : List Int} {cl : Bool} (h : Rd lo w g v B cl) : Calls Tryd.prog 19 #[.pointer (some ⟨g, 0, none⟩)] w fun e w' => e = .returned (.bool cl) ∧ w = w' := by
  have h1 := h.c1
  have h2 := h.c2
  clear h
  go_enter Tryd.func19, Tryd.ntmps19
  go_wp2_with (go_at_call 29; (with_reducible refine (none_calls h1).mono ?_); rintro e w' ⟨rfl, rfl⟩)
  go_ret
  exact ⟨rfl, rfl⟩
set_option maxRecDepth 100000 in
set_option maxHeartbeats 2000000 in
/-- slices.Clone -/
theorem clone_calls (A : Option Addr) (c n : Nat) (l : List Int) (w : World) (hn : l.length = n) (hr : Kd.C (Kd.int .u8) w A n l) (hc : n ≤ c) (hl : n ≤ 140737488351232) :
    Calls Tryd.prog 31 #[.slice A n c] w fun e w' => ∃ v, e = .returned v ∧ Kd.R (Kd.int .u8) 5 w' w.heap.size (fun k => w.heap.size ≤ k) v l ∧ Below w.heap.size w w' := by
  subst hn
  have hu : ∀ (w : World) (a : Option Addr) (n c n' c' : Nat), (binOp .eql 27 (.slice a n c) (.slice none n' c')).run Tryd.prog w = .ok (.bool a.isNone) w := fun w a n c n' c' => Lib.run_eql_slice_nil w _ _ a n c n' c' Tryd.underlying27
  have HR := Aside0.mk hr
  cases A with
  | none =>
    have h0 : l.length = 0 := by
      rcases Nat.eq_zero_or_pos l.length with h | h
      · exact h
      · obtain ⟨ad, e, _⟩ := hr.2.2 h; cases e
    obtain rfl := List.eq_nil_of_length_eq_zero h0
    clear hr HR
    go_enter Tryd.func31, Tryd.ntmps31
    go_wp2
    go_ret
    exact ⟨_, rfl, Kd.R_nil _ _ _ _ _, Below.refl _ _⟩
  | some ad =>
    have HO : Aside0 (Kd.R (Kd.int .u8) 5 (w.alloc (.cells #[] 5)) w.heap.size (fun k => w.heap.size ≤ k) (.slice (some ⟨w.heap.size, 0, none⟩) 0 0) ([] : List Int)) :=
      ⟨Kd.R_of_own (World.ownsRow_made w #[] 0 (Nat.le_refl _) (Nat.zero_le _) (by simp)) (fun k hk => by cases hk; exact Nat.le_refl _)⟩
    have HL := Aside0.mk hl
    clear hr hl
    go_enter Tryd.func31, Tryd.ntmps31
    go_wp2_with (at_builtin; refine Kd.R_append_row (Value.int .u8) 0 (w0 := w) w.heap.size rfl _ _ 27 5 (.int .u8 0) 1 rfl Tryd.underlying27 info5 rfl (by decide) _ _ l _ _ _ (fun k => w.heap.size ≤ k) rfl rfl (fun k hk => Nat.le_trans (Nat.le_succ _) (by simpa using hk)) HO.out (Kd.C_alloc HR.out _) (below_alloc (Below.refl _ w) _) (by simp) (by have := HL.out; simp; omega) ?_; intro v1 w1 ho1 hb1 hg1 ha1)
    go_ret
    exact ⟨_, rfl, ho1, hb1⟩
end Go.Proofs.YthkmacgjekienaaDoor.P
