/- Bodies with their headers, one behind the other: what they are taken as. -/
import Derived.Test.YthkmacgjekienaaDoorG1
namespace Go.Proofs.YthkmacgjekienaaDoor.P
attribute [-simp] List.length_drop List.length_take ByteArray.size_append
open Go.RowKit Go.Shelf Go.Proofs.YthkmacgjekienaaDoor.Pure Go.Proofs.YthkmacgjekienaaDoorW.PrintWords Go.Proofs.YthkmacgjekienaaDoorW.PrintLast Go.Proofs.YthkmacgjekienaaDoorW.PrintMore
set_option linter.unusedVariables false
set_option linter.unusedSimpArgs false
theorem Byt.app {a b : List Int} (ha : Byt a) (hb : Byt b) : Byt (a ++ b) := Byt.append ha hb
theorem byt_hdOf (u : Nat) : Byt (hdOf u) := byt_hd [clOf u] (ln_cl u)
/-- bodies, of m bytes each at most, with their headers, one behind the other -/
def frs (m : Nat) (l : List (List Int)) : List Int := l.flatMap fun x => hdOf (x.take m).length ++ x.take m
end Go.Proofs.YthkmacgjekienaaDoor.P
/- How great what is left can be. -/
namespace Go.Proofs.YthkmacgjekienaaDoor.P
attribute [-simp] List.length_drop List.length_take ByteArray.size_append
open Go.RowKit Go.Shelf Go.Proofs.YthkmacgjekienaaDoor.Pure Go.Proofs.YthkmacgjekienaaDoorW.PrintWords Go.Proofs.YthkmacgjekienaaDoorW.PrintLast Go.Proofs.YthkmacgjekienaaDoorW.PrintMore
set_option linter.unusedVariables false
set_option linter.unusedSimpArgs false
theorem bod_err (l : List Int) : Byt l → l.length ≤ 140737488353792 → (bodT l).2.2 = 3 ∨ (bodT l).2.2 = 5 ∨ (bodT l).2.2 = 60 := by
  refine bod_ind (p := fun l => Byt l → l.length ≤ 140737488353792 → (bodT l).2.2 = 3 ∨ (bodT l).2.2 = 5 ∨ (bodT l).2.2 = 60) (fun l ho ih hb hl => ?_) (fun l ho hb hl => ?_) l
  · rw [bodT_ok ho]
    exact ih hb.rest1 (by have := rest1_lt ho; omega)
  · rw [bodT_no ho]
    rcases no1_form hb hl ho with ⟨_, h2, h3⟩ | ⟨_, _, _, h2, _⟩
    · rw [h2]; exact h3
    · exact .inl h2
theorem bod_count (l : List Int) : (bodT l).1.length ≤ l.length := by
  refine bod_ind (p := fun l => (bodT l).1.length ≤ l.length) (fun l ho ih => ?_) (fun l ho => ?_) l
  · rw [bodT_ok ho]
    have := rest1_lt ho
    simp
    omega
  · rw [bodT_no ho]; simp
theorem bod_left (l : List Int) : Byt l → Byt (bodT l).2.1 ∧ (bodT l).2.1.length ≤ l.length := by
  refine bod_ind (p := fun l => Byt l → Byt (bodT l).2.1 ∧ (bodT l).2.1.length ≤ l.length) (fun l ho ih hb => ?_) (fun l ho hb => ?_) l
  · rw [bodT_ok ho]
    have := rest1_lt ho
    exact ⟨(ih hb.rest1).1, by have := (ih hb.rest1).2; simp; omega⟩
  · rw [bodT_no ho]; exact ⟨hb, Nat.le_refl _⟩
end Go.Proofs.YthkmacgjekienaaDoor.P
/- FrameBroken. -/
namespace Go.Proofs.YthkmacgjekienaaDoor.P
attribute [-simp] List.length_drop List.length_take ByteArray.size_append
open Go.RowKit Go.Shelf Go.Proofs.YthkmacgjekienaaDoor.Pure Go.Proofs.YthkmacgjekienaaDoorW.PrintWords Go.Proofs.YthkmacgjekienaaDoorW.PrintLast Go.Proofs.YthkmacgjekienaaDoorW.PrintMore
attribute [local go_sem] max2_int min2_int max_two min_two
set_option linter.unusedVariables false
set_option linter.unusedSimpArgs false
/-- a new reader, and a row of bytes of one's own -/
structure Bk (w wr : World) (vb : Value) (X : List Int) : Prop where
  blk : wr.heap[w.heap.size]? = some (.cells #[.slice none 0 0, .bool true, .bool false] 57 (0, 0))
  row : Kd.R (Kd.int .u8) 5 wr w.heap.size (fun _ => True) vb X
  be : Below w.heap.size w wr
theorem Bk.new (w : World) : Bk w (w.alloc (.cells #[.slice none 0 0, .bool true, .bool false] 57)) (.slice none 0 0) [] := ⟨heap_alloc_new w _, Kd.R_nil _ _ _ _ _, below_alloc (Below.refl _ _) _⟩
theorem Bk.below {w wr w1 : World} {vb : Value} {X : List Int} (h : Bk w wr vb X) (hb : Below wr.heap.size wr w1) : Bk w w1 vb X :=
  ⟨(hb.block _ (blk_lt h.blk)).trans h.blk, Kd.R_below h.row hb, h.be.trans (hb.mono h.be.size)⟩
theorem Bk.step {w wr w1 : World} {vb v1 : Value} {X X1 : List Int} (h : Bk w wr vb X) (hr : Kd.R (Kd.int .u8) 5 w1 w.heap.size (fun _ => True) v1 X1) (hb : Below w.heap.size w w1) (hg : wr.grownBy w1 vb.ownBlock) : Bk w w1 v1 X1 :=
  ⟨blk_grown h.blk hg (Kd.R_ne h.row h.blk (by decide)), hr, hb⟩
theorem Bk.rd {w wr : World} {vb : Value} {X : List Int} (h : Bk w wr vb X) : Rd w.heap.size wr w.heap.size (.slice none 0 0) [] false := ⟨h.blk, Kd.R_nil _ _ _ _ _, Nat.le_refl _⟩
end Go.Proofs.YthkmacgjekienaaDoor.P
/- FrameBound. -/
namespace Go.Proofs.YthkmacgjekienaaDoor.P
attribute [-simp] List.length_drop List.length_take ByteArray.size_append
open Go.RowKit Go.Shelf Go.Proofs.YthkmacgjekienaaDoor.Pure Go.Proofs.YthkmacgjekienaaDoorW.PrintWords Go.Proofs.YthkmacgjekienaaDoorW.PrintLast Go.Proofs.YthkmacgjekienaaDoorW.PrintMore
set_option linter.unusedVariables false
set_option linter.unusedSimpArgs false
/-- a reader that goes on, and keeps less than one frame can be -/
def RdS (w0 w : World) (g : Nat) : Prop := ∃ B, RdE w0 w g B ∧ Byt B ∧ B.length < 66048
theorem RdS.left {w0 w : World} {g : Nat} (h : RdS w0 w g) : ∃ nb : Nat, nb < 66048 ∧ Calls Tryd.prog 17 #[.pointer (some ⟨g, 0, none⟩)] w fun e w' => e = .returned (.int .i64 nb) ∧ w = w' := by
  obtain ⟨B, h, _, hl⟩ := h
  exact ⟨B.length, hl, leftE h _ rfl⟩
theorem RdS.closed {w0 w : World} {g : Nat} (h : RdS w0 w g) : Calls Tryd.prog 19 #[.pointer (some ⟨g, 0, none⟩)] w fun e w' => e = .returned (.bool false) ∧ w = w' := by
  obtain ⟨B, h, _, hl⟩ := h
  exact closedE h
end Go.Proofs.YthkmacgjekienaaDoor.P
