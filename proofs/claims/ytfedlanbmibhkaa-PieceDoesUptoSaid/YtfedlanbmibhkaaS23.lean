/- The law PieceKnown: what its parts tell. -/
import Derived.Test.YtfedlanbmibhkaaS21
namespace Go.Proofs.Ytfedlanbmibhkaa.P
open Go.RowKit Go.Shelf Go.Proofs.YtfedlanbmibhkaaW.PrintWords Go.Proofs.YtfedlanbmibhkaaW.PrintLast Go.Proofs.YtfedlanbmibhkaaW.PrintMore
set_option linter.unusedVariables false
set_option linter.unusedSimpArgs false
attribute [local go_sem] Oper.semAt_some
set_option maxHeartbeats 1000000 in
theorem nn_stops {w : World} {p : Value} (h : NoT w p) (b : Nat) (hb : w.cell? ⟨b, 0, none⟩ = some p) :
    SeqStopsK Fence.wide 3 Try.prog 48 #[.pointer (some ⟨b, 0, none⟩)] (fun x : Int => #[Value.int .u8 x]) (fun _ _ => True) (fun xs => xs = []) (fun _ => False) 0 w := by
  intro l J Jx W hW _ _ hY h0
  have H := Aside0.mk (h.step hW)
  have hb' := (hW.cell (p := ⟨b, 0, none⟩) (World.block_lt_of_cell? w _ hb)).trans hb
  have HJ := Aside0.mk h0
  clear h hb hW hY h0
  refine callsIn_of_wp Try.func48 rfl trivial ?_ rfl
  simp only [Try.ntmps48, List.size_toArray, List.length_cons, List.length_nil, Nat.reduceAdd, Nat.reduceSub, Array.replicate_succ, Array.replicate_zero, List.push_toArray, List.append_toArray, List.nil_append, List.cons_append]
  gi_wp2_with (refine ⟨trivial, ?_⟩; gi_at_call 37; refine (callsIn_wide.2 (nn_none H.out)).mono ?_; rintro e w' ⟨rfl, rfl⟩)
  refine bodyPost_ret (results_none rfl _ _ _) rfl ?_
  exact ⟨⟨_, rfl⟩, .inl ⟨_, rfl, HJ.out⟩⟩
def kp0 : List (List Int) := [[97, 98, 99, 100, 101, 102]]
def kp1 : List (List Int) := [[97, 98, 99], [100, 101, 102]]
def kp2 : List (List Int) := [[97, 98, 99], [88], [100, 101, 102]]
def kp3 : List (List Int) := [[97, 98, 99], [89, 90], [100, 101, 102]]
def kp4 : List (List Int) := [[97, 98], [101, 102]]
def kp5 : List (List Int) := [[48], [97, 98], [101, 102]]
def kp6 : List (List Int) := [[48], [97, 98], [101, 102], [57]]
def kp7 : List (List Int) := [[113]]
def kp8 : List (List Int) := []
def kp9 : List (List Int) := [[97, 98]]
/-- a box that none of the tables is -/
structure KB (b : Nat) (W : World) : Prop where
  out : W.heap[b]? = some (.cells #[.bool false] 4 (0, 0))
theorem KB.below {b : Nat} {w w' : World} (h : KB b w) (hb : Below w.heap.size w w') : KB b w' := ⟨(hb.block b (blk_lt h.out)).trans h.out⟩
theorem KB.eff {b : Nat} {w0 w w' : World} {t : Nat} {v : Value} {ps : List (List Int)} (h : KB b w) (T : TT_b w0 w t v ps) (e : Eff_b t v.ownBlock w w') : KB b w' := by
  refine ⟨(e.blk b (blk_lt h.out) ?_ ?_).trans h.out⟩
  · rintro rfl
    have := h.out; rw [T.tab.box] at this; injection this with this; injection this with _ this; exact absurd this (by decide)
  · intro eg
    obtain ⟨cs', e'⟩ := T.rowAt b eg.symm
    have := h.out; rw [e'] at this; injection this with this; injection this with _ this; exact absurd this (by decide)
theorem kn_new {w0 w : World} (hb : Below w0.heap.size w0 w) (n : Nat) (cs : Array Value) (fr : Nat × Nat) (xs : List Int) (hx : xs.length = n) (hn : n ≤ 1000) (hc : cs = (xs.map (Value.int .u8)).toArray) (qs : List (List Int)) (hq : newS xs = qs) : Calls Try.prog 13 #[.slice (some ⟨w.heap.size, 0, none⟩) n n] (w.alloc (.cells cs 5 fr)) fun e w' => ∃ t v, e = .returned (.pointer (some ⟨t, 0, none⟩)) ∧ TT_b w0 w' t v qs ∧ ∀ b, KB b w → KB b w' := by
  subst hx hq
  refine (TT_b.newI (hb.alloc hb.size _) (some ⟨w.heap.size, 0, none⟩) _ _ xs rfl (C_lit_b (heap_alloc_new w _) (by omega) (lit_get hc)) (by omega)).mono ?_
  rintro e w2 ⟨t, v, rfl, T_, B_, -⟩
  exact ⟨t, v, rfl, T_, fun b h => (h.below (below_alloc (Below.refl _ w) _)).below B_⟩
theorem kn_new0 {w0 w : World} (hb : Below w0.heap.size w0 w) : Calls Try.prog 13 #[.slice none 0 0] w fun e w' => ∃ t v, e = .returned (.pointer (some ⟨t, 0, none⟩)) ∧ TT_b w0 w' t v kp8 ∧ ∀ b, KB b w → KB b w' := by
  refine (TT_b.newI hb none 0 0 [] rfl (C_nil_b _ _) (by decide)).mono ?_
  rintro e w2 ⟨t, v, rfl, T_, B_, -⟩
  exact ⟨t, v, rfl, T_, fun b h => h.below B_⟩
theorem kn_rep0 {w0 w : World} {t : Nat} {v : Value} {ps : List (List Int)} (h : TT_b w0 w t v ps) (F K : Int) (f k : Nat) (hF : F = (f : Int)) (hK : K = (k : Int)) (qs : List (List Int)) (hq : replS ps f k [] = qs) (hs : f ≤ k ∧ k ≤ ps.flatten.length ∧ ps.flatten.length ≤ 1000 ∧ ps.length ≤ 1000) :
    Calls Try.prog 19 #[.pointer (some ⟨t, 0, none⟩), .int .i64 F, .int .i64 K, .slice none 0 0] w fun e w' => e = .returned (.int .i64 0) ∧ (∃ v', TT_b w0 w' t v' qs) ∧ ∀ b, KB b w → KB b w' := by
  refine (h.repI F K f k hF hK hs.1 hs.2.1 (by omega) (by omega) none 0 0 [] rfl (C_nil_b _ _) (by decide) (fun _ ad e_ => by cases e_) qs hq).mono ?_
  rintro e w' ⟨rfl, v', h', E_, -⟩
  exact ⟨rfl, ⟨v', h'⟩, fun b hb => hb.eff h E_⟩
theorem kn_rep {w0 w : World} {t : Nat} {v : Value} {ps : List (List Int)} (h : TT_b w0 w t v ps) (F K : Int) (f k : Nat) (hF : F = (f : Int)) (hK : K = (k : Int)) (n : Nat) (cs : Array Value) (fr : Nat × Nat) (xs : List Int) (hx : xs.length = n) (hn : n ≤ 1000) (hc : cs = (xs.map (Value.int .u8)).toArray) (qs : List (List Int)) (hq : replS ps f k xs = qs) (hs : f ≤ k ∧ k ≤ ps.flatten.length ∧ ps.flatten.length ≤ 1000 ∧ ps.length ≤ 1000) :
    Calls Try.prog 19 #[.pointer (some ⟨t, 0, none⟩), .int .i64 F, .int .i64 K, .slice (some ⟨w.heap.size, 0, none⟩) n n] (w.alloc (.cells cs 5 fr)) fun e w' => e = .returned (.int .i64 0) ∧ (∃ v', TT_b w0 w' t v' qs) ∧ ∀ b, KB b w → KB b w' := by
  subst hx
  refine ((h.step (below_alloc (Below.refl _ w) _)).repI F K f k hF hK hs.1 hs.2.1 (by omega) (by omega) (some ⟨w.heap.size, 0, none⟩) _ _ xs rfl (C_lit_b (heap_alloc_new w _) (by omega) (lit_get hc)) (by omega) (fun _ ad e_ => by cases e_; exact h.fresh (Nat.le_refl _)) qs hq).mono ?_
  rintro e w' ⟨rfl, v', h', E_, -⟩
  exact ⟨rfl, ⟨v', h'⟩, fun b hb => (hb.below (below_alloc (Below.refl _ w) _)).eff (h.step (below_alloc (Below.refl _ w) _)) E_⟩
theorem kn_tells {w0 w : World} {t : Nat} {v : Value} {ps : List (List Int)} (h : TT_b w0 w t v ps) (s : ByteArray) (k : Int) (he : strOfNums ps.flatten = s) (hk : k = (ps.length : Int)) (hs : ps.flatten.length ≤ 1000) :
    Calls Try.prog 34 #[.pointer (some ⟨t, 0, none⟩), .string s, .int .i64 k] w fun e w' => e = .returned (.bool true) ∧ TT_b w0 w' t v ps ∧ ∀ b, KB b w → KB b w' :=
  (h.tells (by omega) s k he hk).mono fun e w' hh => ⟨hh.1, h.step hh.2, fun b hb => hb.below hh.2⟩
theorem kn_snap {w0 w : World} {t : Nat} {v : Value} {ps : List (List Int)} (h : TT_b w0 w t v ps) (hn : ps.length ≤ 1000) : Calls Try.prog 17 #[.pointer (some ⟨t, 0, none⟩)] w fun e w' => ∃ t' v', e = .returned (.pointer (some ⟨t', 0, none⟩)) ∧ TT_b w0 w' t' v' ps ∧ ∀ b, KB b w → KB b w' :=
  (h.snap (by omega)).mono fun e w' ⟨t', v', e1, h1, B_, _⟩ => ⟨t', v', e1, h1, fun b hb => hb.below B_⟩
end Go.Proofs.Ytfedlanbmibhkaa.P
