/- The law PieceAll: its walk. -/
import Derived.Test.YtfedlanbmibhkaaS14
import Derived.Test.YtfedlanbmibhkaaS15
import Derived.Test.YtfedlanbmibhkaaS19hi
import Derived.Test.YtfedlanbmibhkaaS24h
import Derived.Deep.DeepCutAuto
import Derived.BigRegion
import Derived.Deep.RegionHeld
import Derived.Lib.SliceRun
namespace Go.Proofs.Ytfedlanbmibhkaa.P
open Go.RowKit Go.Shelf Go.Proofs.YtfedlanbmibhkaaW.PrintWords Go.Proofs.YtfedlanbmibhkaaW.PrintLast Go.Proofs.YtfedlanbmibhkaaW.PrintMore
set_option linter.unusedVariables false
set_option linter.unusedSimpArgs false
attribute [local go_sem] Oper.semAt_some
theorem blk_ltf {w : World} {g : Nat} {cs : Array Value} {ty : TypeId} {fr : Nat × Nat} (h : w.heap[g]? = some (.cells cs ty fr)) : g < w.heap.size := (Array.getElem?_eq_some_iff.1 h).1
/-- the boxes of the law's variables -/
structure AB (b : Nat) (d0 d1 d2 st : Int) (W : World) : Prop where
  d : W.heap[b]? = some (.cells #[.int .i64 d0, .int .i64 d1, .int .i64 d2] 46 (0, 0))
  s : W.heap[b + 1]? = some (.cells #[.int .i64 st] 3 (0, 0))
  r : W.heap[b + 1 + 1]? = some (.cells #[.bool false] 4 (0, 0))
theorem AB.below {b : Nat} {d0 d1 d2 st : Int} {W W' : World} (h : AB b d0 d1 d2 st W) (hb : Below W.heap.size W W') : AB b d0 d1 d2 st W' :=
  ⟨(hb.block _ (blk_lt h.d)).trans h.d, (hb.block _ (blk_lt h.s)).trans h.s, (hb.block _ (blk_lt h.r)).trans h.r⟩
theorem all_boxes (w : World) (d0 d1 d2 st : Int) (W : World) (hb : Below (((w.alloc (.cells #[.int .i64 d0, .int .i64 d1, .int .i64 d2] 46)).alloc (.cells #[.int .i64 st] 3)).alloc (.cells #[.bool false] 4)).heap.size (((w.alloc (.cells #[.int .i64 d0, .int .i64 d1, .int .i64 d2] 46)).alloc (.cells #[.int .i64 st] 3)).alloc (.cells #[.bool false] 4)) W) : AB w.heap.size d0 d1 d2 st W := by
  refine AB.below ⟨?_, ?_, ?_⟩ hb
  · rw [Below.heap_alloc _ _ _ (by simp; omega), Below.heap_alloc _ _ _ (by simp)]; exact heap_alloc_new w _
  · rw [Below.heap_alloc _ _ _ (by simp)]
    have := heap_alloc_new (w.alloc (.cells #[.int .i64 d0, .int .i64 d1, .int .i64 d2] 46)) (.cells #[.int .i64 st] 3)
    rwa [World.size_alloc] at this
  · have := heap_alloc_new ((w.alloc (.cells #[.int .i64 d0, .int .i64 d1, .int .i64 d2] 46)).alloc (.cells #[.int .i64 st] 3)) (.cells #[.bool false] 4)
    rwa [World.size_alloc, World.size_alloc] at this
theorem TT_i.box {w0 w w' : World} {t : Nat} {v : Value} {ps : List (List Int)} (h : TT_i w0 w t v ps) (e : Eff_i t v.ownBlock w w') {g : Nat} {cs : Array Value} {ty : TypeId} {fr : Nat × Nat} (hg : w.heap[g]? = some (.cells cs ty fr)) (h1 : ty ≠ 81) (h2 : ty ≠ 51) : w'.heap[g]? = some (.cells cs ty fr) := by
  refine (e.blk g (blk_ltf hg) ?_ ?_).trans hg
  · rintro rfl
    rw [h.tab.box] at hg; injection hg with hg; injection hg with _ hg; exact h1 hg.symm
  · intro eg
    obtain ⟨cs', e'⟩ := h.rowAt g eg.symm
    rw [e'] at hg; injection hg with hg; injection hg with _ hg; exact h2 hg.symm
theorem all_first {w w1 : World} (B1 : Below w.heap.size w w1) (hlo : w.heap.size + 3 ≤ w1.heap.size) {A : Option Addr} {N c : Nat} {xs : List Int} (hx : Kd.C (Kd.int .i64) w A N xs) (hl : xs.length = N) (hN : N ≤ 300) (hc : N ≤ c) :
    Calls Try.prog 27 #[.slice A N c] w1 fun e w' => ∃ t v ps, e = .returned (.pointer (some ⟨t, 0, none⟩)) ∧ TT_i w w' t v ps ∧ ps.flatten = xs ∧ ps.length ≤ 1 ∧ Row_i w' t v A c N xs ∧ Below w1.heap.size w1 w' ∧ Tab_i w.heap.size w' t (fun g => w.heap.size + 3 ≤ g) v ps := by
  subst hl
  refine (new_calls_i A c xs (Kd.C_below hx B1) (by omega) B1.size).mono ?_
  rintro e w2 ⟨t, v, rfl, h1, h2, h3, h4⟩
  have T_ : TT_i w w2 t v (newS xs) := ⟨h1.weaken fun _ _ => trivial, B1.trans (h2.mono B1.size)⟩
  exact ⟨t, v, _, rfl, T_, newS_flat _, by rw [newS_len]; omega, Row_i.of_old T_ rfl hx hc, h2, h1.weaken fun g hg => Nat.le_trans hlo hg⟩
theorem all_rep {w0 w : World} {t : Nat} {v : Value} {ps : List (List Int)} (h : TT_i w0 w t v ps) (hc : Tab_i w0.heap.size w t (fun g => w0.heap.size + 3 ≤ g) v ps) (hlo : w0.heap.size + 3 ≤ w.heap.size) (f k : Nat) (hfk : f ≤ k) (hk : k ≤ ps.flatten.length) (hs : ps.flatten.length ≤ 300) (hn : ps.length ≤ 1) (a b : Int) (F K : Int) (hF : F = (f : Int)) (hK : K = (k : Int)) :
    Calls Try.prog 29 #[.pointer (some ⟨t, 0, none⟩), .int .i64 F, .int .i64 K, .slice (some ⟨w.heap.size, 0, none⟩) 2 2] (w.alloc (.cells #[.int .i64 a, .int .i64 b] 3)) fun e w' => e = .returned (.int .i64 0) ∧ ∃ v' qs, TT_i w0 w' t v' qs ∧ Eff_i t v.ownBlock (w.alloc (.cells #[.int .i64 a, .int .i64 b] 3)) w' ∧ (v'.ownBlock = v.ownBlock ∨ ∃ q, v'.ownBlock = some q ∧ w.heap.size ≤ q) ∧ qs.flatten = ps.flatten.take f ++ [a, b] ++ ps.flatten.drop k ∧ Tab_i w0.heap.size w' t (fun g => w0.heap.size + 3 ≤ g) v' qs := by
  subst hF hK
  have hs1 := h.step (below_alloc (Below.refl _ w) (.cells #[.int .i64 a, .int .i64 b] 3))
  refine (replace_calls_i (hc.below (below_alloc (Below.refl _ w) (.cells #[.int .i64 a, .int .i64 b] 3))) f k hfk hk (by omega) (by omega) (some ⟨w.heap.size, 0, none⟩) 2 [a, b] (C_lit_i (heap_alloc_new w _) (by simp) (fun j x hx => ?_)) (by simp) (fun _ ad e_ => by cases e_; exact h.fresh (Nat.le_refl _)) hs1.be.size).mono ?_
  · match j, hx with
    | 0, hx => cases hx; rfl
    | 1, hx => cases hx; rfl
  · rintro e w' ⟨rfl, v', h1, h2, h3⟩
    refine ⟨rfl, v', _, ⟨h1.weaken fun _ _ => trivial, h2.to_below h.tab.lo (fun b hb => (h.tab.ownB b hb).1) hs1.be hs1.be.size⟩, h2, ?_, replS_flat _ _ _ _ hfk hk h.tab.full, h1.weaken fun g hg => ?_⟩
    · rcases h3 with h3 | ⟨q, h3, hq⟩
      · exact .inl h3
      · exact .inr ⟨q, h3, by rw [World.size_alloc] at hq; omega⟩
    · rcases hg with hg | hg
      · exact hg
      · rw [World.size_alloc] at hg; omega
/-- the wanted list's box, new -/
def WA (b : Nat) (W : World) : Prop := W.heap[b]? = some (.cells #[.slice none 0 0] 51 (0, 0))
theorem WA.new (w : World) : WA w.heap.size (w.alloc (.cells #[.slice none 0 0] 51)) := heap_alloc_new w _
theorem lit_new1 (w : World) (o o' : Obj) : ((w.alloc o).alloc o').heap[w.heap.size + 1]? = some o' := by
  have := heap_alloc_new (w.alloc o) o'
  rwa [World.size_alloc] at this
/-- an object that was laid -/
def GA (o : Obj) (b : Nat) (W : World) : Prop := W.heap[b]? = some o
theorem GA.new (o : Obj) (w : World) : GA o w.heap.size (w.alloc o) := heap_alloc_new w o
theorem GA.new1 (o : Obj) (w : World) (o' : Obj) : GA o (w.heap.size + 1) ((w.alloc o').alloc o) := lit_new1 w o' o
theorem GA.alloc {o : Obj} {b : Nat} {w : World} {o' : Obj} (h : GA o b w) : GA o b (w.alloc o') := (Below.heap_alloc w o' b ((Array.getElem?_eq_some_iff.1 h).1)).trans h
theorem GA.drew {o : Obj} {b : Nat} {w : World} (h : GA o b w) : GA o b w.drew := h
theorem GA.below {o : Obj} {b : Nat} {w w' : World} (h : GA o b w) (hb : Below w.heap.size w w') : GA o b w' := (hb.block b ((Array.getElem?_eq_some_iff.1 h).1)).trans h
theorem WA.of {b : Nat} {W : World} (h : GA (.cells #[.slice none 0 0] 51 (0, 0)) b W) : WA b W := h
theorem WA.new1 (w : World) (o : Obj) : WA (w.heap.size + 1) ((w.alloc o).alloc (.cells #[.slice none 0 0] 51)) := lit_new1 w o _
theorem WA.alloc {b : Nat} {w : World} {o : Obj} (h : WA b w) : WA b (w.alloc o) := (Below.heap_alloc w o b (blk_lt h)).trans h
theorem WA.drew {b : Nat} {w : World} (h : WA b w) : WA b w.drew := h
theorem WA.below {b : Nat} {w w' : World} (h : WA b w) (hb : Below w.heap.size w w') : WA b w' := (hb.block b (blk_lt h)).trans h
theorem WA.grown {b : Nat} {w w' : World} {B n : Nat} {v : Value} {xs : List Value} (h : WA b w) (hg : w.grownBy w' v.ownBlock) (O : w.ownsRow B 3 1 v n xs) : WA b w' := by
  refine blk_grown h hg fun e => ?_
  rcases own_rowAt O with ⟨rfl, -, -⟩ | ⟨q, cap, cur, rfl, hR⟩
  · cases e
  · cases e
    have h1 := hR.blk
    have h2 : w.heap[q]? = some (.cells #[.slice none 0 0] 51 (0, 0)) := h
    rw [h1] at h2; injection h2 with h2; injection h2 with _ h2; exact absurd h2 (by decide)
theorem app_below {w5 w6 W w8 : World} {n : Nat} {v : Value} {xs : List Value} (B6 : Below w5.heap.size w5 w6) (hb : Below w6.heap.size w6 W) (O : W.ownsRow w5.heap.size 3 1 v n xs) (g_ : W.grownBy w8 v.ownBlock) : Below w5.heap.size w5 w8 :=
  (below_step B6 hb).grown g_ (below_size (below_step B6 hb)) (fun k_ e_ => own_base O _ e_)
/-- off the normal way nothing is asked -/
theorem calm_way {P : Program} {c : Code} {K : Act → World → Prop} {Q : Exit → Act → World → Prop} {a : Act} {w : World} (h : c.wp P (Exit.then K (fun _ _ _ => False)) a w) : c.wp P (Exit.then K Q) a w :=
  wp_mono h fun e a w h => by cases e <;> first | exact h | exact h.elim
theorem WA.ofK {w5 W : World} (h2 : Below w5.heap.size w5 (W.alloc (.cells #[.slice none 0 0] 51))) (h1 : Below w5.heap.size w5 W) : WA W.heap.size (W.alloc (.cells #[.slice none 0 0] 51)) ∧ w5.heap.size ≤ W.heap.size := ⟨WA.new W, h1.size⟩
theorem WA.allocS {w5 W : World} {b : Nat} {o : Obj} (h : WA b W) (h2 : Below w5.heap.size w5 (W.alloc o)) : WA b (W.alloc o) := h.alloc
theorem leaf9 {w w5 W : World} {t : Nat} {v5 : Value} {qs : List (List Int)} {b : Nat} {d0 d1 d2 st : Int} {M9 gx : Nat} {A9 : Option Addr} {c9 : Nat} {L : List Int} (T5 : TT_i w w5 t v5 qs) (TC : Tab_i w.heap.size w5 t (fun g => w.heap.size + 3 ≤ g) v5 qs) (BX : AB b d0 d1 d2 st w5)
    (O : W.ownsRow w5.heap.size 3 1 (.slice A9 M9 c9) M9 (nums .i64 L)) (K : WA gx W) (hg : w5.heap.size ≤ gx) (hb : Below w5.heap.size w5 W) (hL : qs.flatten = L) :
    (W.setCell ⟨gx, 0, none⟩ (.slice A9 M9 c9)).heap[gx]? = some (.cells #[.slice A9 M9 c9] 51 (0, 0)) ∧ Row_i (W.setCell ⟨gx, 0, none⟩ (.slice A9 M9 c9)) t v5 A9 c9 M9 qs.flatten ∧ TT_i w (W.setCell ⟨gx, 0, none⟩ (.slice A9 M9 c9)) t v5 qs ∧ AB b d0 d1 d2 st (W.setCell ⟨gx, 0, none⟩ (.slice A9 M9 c9)) ∧ w5.heap.size ≤ gx ∧ (∀ ad, A9 = some ad → w5.heap.size ≤ ad.block) ∧ Tab_i w.heap.size (W.setCell ⟨gx, 0, none⟩ (.slice A9 M9 c9)) t (fun g => w.heap.size + 3 ≤ g) v5 qs := by
  have hs := blk_set K 0 (.slice A9 M9 c9)
  have hbs := hb.setCell (p := ⟨gx, 0, none⟩) hg (.slice A9 M9 c9)
  have O2 := own_setCell O (p := ⟨gx, 0, none⟩) (fun e => by
    obtain ⟨cells, hc⟩ := own_typed O gx e.symm
    have h1 : W.heap[gx]? = _ := K
    rw [h1] at hc; cases hc) (.slice A9 M9 c9)
  refine ⟨by simpa using hs, by rw [hL]; exact Row_i.of_own T5 O2, T5.step hbs, BX.below hbs, hg, fun ad e => own_base O _ ?_, TC.below hbs⟩
  subst e; rfl
theorem leaf9b {w w5 W : World} {t : Nat} {v5 : Value} {qs : List (List Int)} {b : Nat} {d0 d1 d2 st : Int} {M9 : Nat} {A9 : Option Addr} {c9 : Nat} {L : List Int} (T5 : TT_i w w5 t v5 qs) (TC : Tab_i w.heap.size w5 t (fun g => w.heap.size + 3 ≤ g) v5 qs) (BX : AB b d0 d1 d2 st w5)
    (O : W.ownsRow w5.heap.size 3 1 (.slice A9 M9 c9) M9 (nums .i64 L)) (hb : Below w5.heap.size w5 W) (hL : qs.flatten = L) :
    (W.alloc (.cells #[.slice A9 M9 c9] 51)).heap[W.heap.size]? = some (.cells #[.slice A9 M9 c9] 51 (0, 0)) ∧ Row_i (W.alloc (.cells #[.slice A9 M9 c9] 51)) t v5 A9 c9 M9 qs.flatten ∧ TT_i w (W.alloc (.cells #[.slice A9 M9 c9] 51)) t v5 qs ∧ AB b d0 d1 d2 st (W.alloc (.cells #[.slice A9 M9 c9] 51)) ∧ w5.heap.size ≤ W.heap.size ∧ (∀ ad, A9 = some ad → w5.heap.size ≤ ad.block) ∧ Tab_i w.heap.size (W.alloc (.cells #[.slice A9 M9 c9] 51)) t (fun g => w.heap.size + 3 ≤ g) v5 qs := by
  have hbs := below_alloc hb (.cells #[.slice A9 M9 c9] 51)
  refine ⟨heap_alloc_new W _, by rw [hL]; exact Row_i.of_own T5 (pw_own_below O (below_alloc (Below.refl _ _) _)), T5.step hbs, BX.below hbs, hb.size, fun ad e => own_base O _ ?_, TC.below hbs⟩
  subst e; rfl
theorem C_pre_i {w : World} {A : Option Addr} {M : Nat} {xs : List Int} (h : Kd.C (Kd.int .i64) w A M xs) (hl : xs.length = M) (f : Nat) (hf : f ≤ M) : Kd.C (Kd.int .i64) w A f (xs.take f) := by
  subst hl
  have h1 := Kd.C_take h hf
  rwa [show (xs.take f).length = f by rw [List.length_take]; omega] at h1
theorem two_get (a b : Int) : ∀ (j : Nat) (x : Int), ([a, b] : List Int)[j]? = some x → (#[Value.int .i64 a, Value.int .i64 b] : Array Value)[j]? = some (Value.int .i64 x) := fun j x hx => by
  match j, hx with
  | 0, hx => cases hx; rfl
  | 1, hx => cases hx; rfl
theorem beq_no {p s : Nat} (h : p < s) : ((p : Int) == (s : Int)) = false := by simp; omega
theorem beq_yes {p s : Nat} (h : p = s) : ((p : Int) == (s : Int)) = true := by simp [h]
/-- the world where the range begins -/
structure W0F (w W0 : World) (b t gw ga : Nat) (v : Value) (qs : List (List Int)) (A : Option Addr) (M c s : Nat) : Prop where
  tab : Tab_i b W0 t (fun g => b + 3 ≤ g ∧ g < ga) v qs
  at_ : W0.heap[ga]? = some (.cells #[.int .i64 0] 3 (0, 0))
  st : W0.heap[b + 1]? = some (.cells #[.int .i64 s] 3 (0, 0))
  wn : W0.heap[gw]? = some (.cells #[.slice A M c] 51 (0, 0))
  rt : W0.heap[b + 1 + 1]? = some (.cells #[.bool false] 4 (0, 0))
  C : Kd.C (Kd.int .i64) W0 A M qs.flatten
  len : qs.flatten.length = M
  cap : M ≤ c
  ad : 0 < M → ∀ a, A = some a → a.block < ga ∧ b + 3 ≤ a.block
  gwl : gw < ga ∧ b + 3 ≤ gw
  lt : ga < W0.heap.size
  own : ∀ g, v.ownBlock = some g → g < ga
  be : Below b w W0
theorem all_start {w w5 wc : World} {t gw : Nat} {v : Value} {qs : List (List Int)} {d0 d1 d2 st : Int} {A : Option Addr} {M c : Nat} (T : TT_i w wc t v qs) (TC : Tab_i w.heap.size wc t (fun g => w.heap.size + 3 ≤ g) v qs) (BX : AB w.heap.size d0 d1 d2 st wc)
    (HW : wc.heap[gw]? = some (.cells #[.slice A M c] 51 (0, 0))) (HA : ∀ ad, A = some ad → w5.heap.size ≤ ad.block) (R : Row_i wc t v A c M qs.flatten) (hgw : w5.heap.size ≤ gw) (h5 : w.heap.size + 3 ≤ w5.heap.size) (s : Nat) :
    W0F w ((((wc.setCell ⟨w.heap.size + 1, 0, none⟩ (.int .i64 s)).alloc (.cells #[.int .i64 0] 3)).alloc (.cells #[.pointer (some ⟨t, 0, none⟩)] 52)).alloc (.cells #[.pointer (some ⟨t, 0, none⟩)] 52)) w.heap.size t gw wc.heap.size v qs A M c s := by
  obtain ⟨ws, hws⟩ : ∃ ws, wc.setCell ⟨w.heap.size + 1, 0, none⟩ (.int .i64 s) = ws := ⟨_, rfl⟩
  have hsz : ws.heap.size = wc.heap.size := by rw [← hws]; simp [World.setCell]
  have hk : ∀ g, g ≠ w.heap.size + 1 → ws.heap[g]? = wc.heap[g]? := fun g hg => by rw [← hws]; exact Below.heap_setCell wc ⟨w.heap.size + 1, 0, none⟩ _ g hg
  have hst : ws.heap[w.heap.size + 1]? = some (.cells #[.int .i64 s] 3 (0, 0)) := by
    have := blk_set BX.s 0 (.int .i64 s)
    rw [hws] at this
    simpa using this
  have hbs : Below w.heap.size w ws := by rw [← hws]; exact T.be.setCell (p := ⟨w.heap.size + 1, 0, none⟩) (Nat.le_succ _) _
  have hT : Tab_i w.heap.size ws t (fun g => w.heap.size + 3 ≤ g) v qs := TC.move fun g hg hx => hk g (by
    rcases hx with e | e | e
    · rintro rfl
      have h1 := TC.box
      rw [← e, BX.s] at h1; cases h1
    · rintro rfl
      obtain ⟨cs, h1⟩ := T.rowAt _ e
      rw [BX.s] at h1; cases h1
    · rintro rfl; omega)
  have hb3 : Below ws.heap.size ws (((ws.alloc (.cells #[.int .i64 0] 3)).alloc (.cells #[.pointer (some ⟨t, 0, none⟩)] 52)).alloc (.cells #[.pointer (some ⟨t, 0, none⟩)] 52)) := below_alloc (below_alloc (below_alloc (Below.refl ws.heap.size ws) _) _) _
  have hC : Kd.C (Kd.int .i64) ws A M qs.flatten := C_mv_i R.C fun h0 ad e _ => hk _ (by have := HA ad e; omega)
  have hat := heap_alloc_new ws (.cells #[.int .i64 0] 3)
  rw [hws]
  have keep : ∀ {g : Nat} {o : Obj}, ws.heap[g]? = some o → (((ws.alloc (.cells #[.int .i64 0] 3)).alloc (.cells #[.pointer (some ⟨t, 0, none⟩)] 52)).alloc (.cells #[.pointer (some ⟨t, 0, none⟩)] 52)).heap[g]? = some o := fun {g o} h => (hb3.block g (Array.getElem?_eq_some_iff.1 h).1).trans h
  have hT2 := hT.tight.below hb3
  rw [hsz] at hT2
  have hgwl : gw < wc.heap.size := blk_lt HW
  refine ⟨hT2, ?_, keep hst, keep ((hk gw (by omega)).trans HW), keep ((hk _ (by omega)).trans BX.r), Kd.C_below hC hb3, R.len, R.cap, fun h0 a e => ⟨C_lt_i R.C h0 a e, by have := HA a e; omega⟩, ⟨hgwl, by omega⟩, ?_, fun g hg => (T.tab.ownB g hg).2.1, hbs.trans (hb3.mono hbs.size)⟩
  · rw [Below.heap_alloc _ _ _ (by simp; omega), Below.heap_alloc _ _ _ (by simp; omega), ← hsz]; exact hat
  · rw [World.size_alloc, World.size_alloc, World.size_alloc, hsz]; omega
/-- between two rounds -/
structure PI (w W0 : World) (b ga s : Nat) (pre : List Int) (W : World) : Prop where
  ba : Boxed W ga 3 (.int .i64 pre.length)
  le : pre.length ≤ s
  kp : ∀ k, k < W0.heap.size → k ≠ ga → W.heap[k]? = W0.heap[k]?
  be : Below b W0 W
theorem PI.own {w W0 : World} {b ga s : Nat} (hga : ga < W0.heap.size) (hb : b ≤ W0.heap.size) : OwnFrom W0.heap.size (PI w W0 b ga s) := fun pre W W' row hs hg hr => by
  refine ⟨hs.ba.kept hg fun e => ?_, hs.le, fun k hk hk2 => (hg.block k (Nat.lt_of_lt_of_le hk hs.be.size) fun e => ?_).trans (hs.kp k hk hk2), hs.be.grown hg (Nat.le_trans hb hs.be.size) fun j e => Nat.le_trans hb (hr j e).1⟩
  · have := (hr ga e.symm).1; omega
  · have := (hr k e.symm).1; omega
/-- at++ -/
theorem PI.step {w W0 : World} {b ga s : Nat} {pre : List Int} {W : World} (h : PI w W0 b ga s pre W) (x : Int) (hlt : pre.length < s) (hb : b ≤ ga) : PI w W0 b ga s (pre ++ [x]) (W.setCell ⟨ga, 0, none⟩ (.int .i64 ((pre.length + 1 : Nat) : Int))) := by
  have h1 := h.ba.set (.int .i64 ((pre.length + 1 : Nat) : Int))
  refine ⟨by rw [List.length_append]; exact h1, by rw [List.length_append, List.length_singleton]; exact hlt, fun k hk hne => (Below.heap_setCell W ⟨ga, 0, none⟩ _ k hne).trans (h.kp k hk hne), h.be.setCell (p := ⟨ga, 0, none⟩) hb _⟩
/-- how the loop is left -/
structure QX (w W0 : World) (b ga s : Nat) (L : List Int) (c : Code) (pre : List Int) (W : World) : Prop where
  ex : (c = Code.exit 0 ∧ ∃ p0 x, pre = p0 ++ [x] ∧ p0.length = s ∧ PI w W0 b ga s p0 W) ∨ (c = Code.ret ∧ ∃ p0 x, pre = p0 ++ [x] ∧ L[p0.length]? ≠ some x)
theorem QX.own {w W0 : World} {b ga s : Nat} {L : List Int} (hga : ga < W0.heap.size) (hb : b ≤ W0.heap.size) (c : Code) : OwnFrom W0.heap.size (QX w W0 b ga s L c) := fun pre W W' row hs hg hr => by
  rcases hs.ex with ⟨h1, p0, x, h2, h3, h4⟩ | h
  · exact ⟨.inl ⟨h1, p0, x, h2, h3, PI.own hga hb p0 W W' row h4 hg hr⟩⟩
  · exact ⟨.inr h⟩
theorem rd_get (L : List Int) (p : Nat) (hp : p < L.length) : L[p]? = some (rd L (p : Int)) := by
  unfold rd
  rw [List.getElem?_eq_getElem hp]
  simp [List.getD, hp]
theorem slice_all {B : Nat} {W : World} {t : Nat} {C : Nat → Prop} {v : Value} {qs : List (List Int)} {L : List Int} {M : Nat} (h : Tab_i B W t C v qs) (hL : qs.flatten = L) (hM : L.length = M) (hb : M ≤ 302) :
    Calls Try.prog 32 #[.pointer (some ⟨t, 0, none⟩), .int .i64 0, .int .i64 M] W fun e w' => ∃ A c, e = .returned (.tuple #[.slice A M c, .int .i64 0]) ∧ M ≤ c ∧ Kd.C (Kd.int .i64) w' A M L ∧ Below W.heap.size W w' := by
  subst hL hM
  refine (slice_calls_i h 0 qs.flatten.length (Nat.zero_le _) (Nat.le_refl _) (by omega)).mono ?_
  rintro e w' ⟨v', rfl, h1, h2⟩
  rw [List.take_length, List.drop_zero] at h1
  obtain ⟨A, c, rfl, hC, hB⟩ := own_C_i h1
  refine ⟨A, c, rfl, ?_, hC, h2⟩
  rcases own_rowAt h1 with ⟨e, h0, -⟩ | ⟨g, cap, cur, e, hR⟩
  · injection e with _ e2 _; omega
  · injection e with _ _ e3; subst e3; exact hR.nc
theorem eq_ints {w : World} {A A' : Option Addr} {c c' n : Nat} {xs : List Int} (hL : xs.length = n) (h : Kd.C (Kd.int .i64) w A n xs) (hc : n ≤ c) (h' : Kd.C (Kd.int .i64) w A' n xs) (hc' : n ≤ c') (hl : n ≤ 140737488355328) :
    Calls Try.prog 33 #[.slice A n c, .slice A' n c'] w fun e w' => e = .returned (.bool true) ∧ Below w.heap.size w w' := by
  subst hL
  obtain ⟨k, hk⟩ := eq_same_i xs hl xs.length 0 (by omega)
  refine (colophonref00_EqInts.calls k A c xs A' c' xs true w h hc h' hc' (by unfold colophonref00_EqInts.f; rw [if_pos rfl]; exact hk)).mono ?_
  rintro e w' ⟨rfl, hd⟩
  exact ⟨rfl, hd.below⟩
theorem PI.tab {w W0 : World} {b t gw ga : Nat} {v : Value} {qs : List (List Int)} {A : Option Addr} {M c s : Nat} (h0 : W0F w W0 b t gw ga v qs A M c s) {pre : List Int} {W : World} (h : PI w W0 b ga s pre W) : Tab_i b W t (fun g => b + 3 ≤ g ∧ g < ga) v qs :=
  h0.tab.move fun g hg hx => h.kp g hg (by
    rcases hx with e | e | e
    · rintro rfl
      have h1 := h0.tab.box
      rw [← e, h0.at_] at h1; cases h1
    · have := h0.own g e; omega
    · omega)
theorem belowPut {B : Nat} {a w : World} (h : Below B a w) {D : Nat} (hD : B ≤ D) (o : Obj) : Below B a (w.putObj D o) :=
  ⟨h.os, h.tape, h.output, by simpa [World.putObj] using h.size, fun k hk => (World.putObj_heap_other (by omega)).trans (h.block k hk)⟩
set_option maxRecDepth 100000 in
set_option maxHeartbeats 80000000 in
theorem all_walk (l : List Int) (A : Option Addr) (c : Nat) (d0 d1 d2 st : Int) (w : World) (hr : Kd.C (Kd.int .i64) w A l.length l) (hc : l.length ≤ c) : Calls Try.prog 9 #[.slice A l.length c, .agg #[.int .i64 d0, .int .i64 d1, .int .i64 d2], .int .i64 st] w fun e w' => e = .returned (.bool true) ∧ Below w.heap.size w w' := by
  have HR := Aside0.mk hr
  obtain ⟨n, hn⟩ : ∃ n, l.length = n := ⟨_, rfl⟩
  have HN := Aside0.mk hn
  rw [hn] at hc ⊢
  clear hr hn
  refine (callsIn_wide (n := 4)).1 ?_
  refine callsIn_of_wp_marks Try.func9 rfl trivial ?_ rfl
  refine wpIn_wide.2 ?_
  simp only [Try.ntmps9, List.size_toArray, List.length_cons, List.length_nil, Nat.reduceAdd, Nat.reduceSub, Array.replicate_succ, Array.replicate_zero, List.push_toArray, List.append_toArray, List.nil_append, List.cons_append]
  go_upto_region 3 with (first
    | (go_at_call 21; (with_reducible refine (works_calls _).mono ?_); rintro e w1 ⟨rfl, B_⟩; have B1 := Aside0.mk (below_step (below_alloc (below_alloc (below_alloc (Below.refl _ w) (.cells #[.int .i64 d0, .int .i64 d1, .int .i64 d2] 46)) (.cells #[.int .i64 st] 3)) (.cells #[.bool false] 4)) B_); have BX := Aside0.mk (all_boxes w d0 d1 d2 st w1 B_); clear B_))
  go_cut [0, 20, 21] from 15 to 110 (fun s0 s17 s18 wx => ∃ (N : Nat) (xs : List Int), s0 = .slice A N c ∧ s17 = .int .i64 N ∧ s18 = .slice A N c ∧ Aside0 (xs.length = N) ∧ N ≤ 300 ∧ N ≤ c ∧ Aside0 (Kd.C (Kd.int .i64) w A N xs) ∧ Aside0 (Below w.heap.size w wx) ∧ Aside0 (AB w.heap.size d0 d1 d2 st wx))
  case first =>
    go_wp2
    all_goals
      go_meet
      case rel =>
        first
          | (obtain ⟨xs, h1, h2⟩ := C_first HR.out n (by have := HN.out; omega)
             exact ⟨n, xs, rfl, rfl, rfl, ⟨h1⟩, by omega, by omega, ⟨h2⟩, B1, BX⟩)
          | (obtain ⟨xs, h1, h2⟩ := C_first HR.out 300 (by have := HN.out; omega)
             exact ⟨300, xs, rfl, rfl, rfl, ⟨h1⟩, by omega, by omega, ⟨h2⟩, B1, BX⟩)
  case rest =>
    obtain ⟨N, xs, rfl, rfl, rfl, HX, hN, hNc, HC, HB, HBX⟩ := hcut
    have HLO := Aside0.mk (show w.heap.size + 3 ≤ wc.heap.size from blk_lt HBX.out.r)
    obtain ⟨f, hf, hf1⟩ := bring_fits d0 (N + 1) (by omega)
    have hfn : f ≤ N := by omega
    obtain ⟨g, hg, hg1⟩ := bring_fits d1 (N - f + 1) (by omega)
    have hgn : f + g ≤ N := by omega
    have B1_ : ∀ w, Calls Try.prog 28 #[.int .i64 d0, .int .i64 ((N : Int) + 1)] w fun e w' => e = .returned (.int .i64 (f : Int)) ∧ w = w' := fun w => bring_calls w d0 _ f (N + 1) (by omega) (by omega) (by omega) hf
    have B2_ : ∀ w, Calls Try.prog 28 #[.int .i64 d1, .int .i64 ((N : Int) - (f : Int) + 1)] w fun e w' => e = .returned (.int .i64 (g : Int)) ∧ w = w' := fun w => bring_calls w d1 _ g (N - f + 1) (by omega) (by omega) (by omega) hg
    have X1 := Aside0.mk B1_
    have X2 := Aside0.mk B2_
    clear hf hg B1_ B2_ hf1 hg1
    go_upto_region 9 with (first
      | (go_at_call 27; (with_reducible refine (all_first HB.out HLO.out HC.out HX.out hN hNc).mono ?_); rintro e w2 ⟨t, v, ps, rfl, T_, F_, L_, R_, B_, C_⟩; have T := Aside0.mk T_; have TC := Aside0.mk C_; have HL2 := Aside0.mk (Nat.le_trans HLO.out B_.size); have HF := Aside0.mk F_; have HL := Aside0.mk L_; have RF := Aside0.mk R_; have BX2 := Aside0.mk (HBX.out.below B_); have hb0 := blk_cell BX2.out.d 0; have hb1 := blk_cell BX2.out.d 1; have hb2 := blk_cell BX2.out.d 2; simp at hb0 hb1 hb2; clear T_ F_ L_ R_ B_ C_)
      | (go_at_call 28; (with_reducible refine (X1.out _).mono ?_); rintro e w' ⟨rfl, rfl⟩)
      | (go_at_call 28; (with_reducible refine (X2.out _).mono ?_); rintro e w' ⟨rfl, rfl⟩)
      | (go_at_call 29; (with_reducible refine (all_rep T.out TC.out HL2.out f (f + g) (Nat.le_add_right _ _) (by rw [HF.out, HX.out]; exact hgn) (by rw [HF.out, HX.out]; omega) HL.out d2 d0 (f : Int) ((f : Int) + (g : Int)) rfl (by push_cast; rfl)).mono ?_); rintro e w5 ⟨rfl, v5, qs, T_, E_, N_, F_, C_⟩; have T5 := Aside0.mk T_; have TC5 := Aside0.mk C_; have E5 := Aside0.mk E_; have F5 := Aside0.mk F_; clear T_ E_ N_ F_ C_))
    have BX5 : Aside0 (AB w.heap.size d0 d1 d2 st w5) := ⟨by
      have h1 := BX2.out.below (below_alloc (Below.refl _ w2) (.cells #[.int .i64 d2, .int .i64 d0] 3))
      have h2 := T.out.step (below_alloc (Below.refl _ w2) (.cells #[.int .i64 d2, .int .i64 d0] 3))
      exact ⟨h2.box E5.out h1.d (by decide) (by decide), h2.box E5.out h1.s (by decide) (by decide), h2.box E5.out h1.r (by decide) (by decide)⟩⟩
    have HLO5 := Aside0.mk (show w.heap.size + 3 ≤ w5.heap.size from blk_lt BX5.out.r)
    have R5 := Aside0.mk (Row_i.of_old T5.out HX.out HC.out hNc)
    have F5' : Aside0 (qs.flatten = xs.take f ++ [d2, d0] ++ xs.drop (f + g)) := ⟨by rw [F5.out, HF.out]⟩
    clear hb0 hb1 hb2 T HF HL RF BX2 E5 F5 X1 X2
    have hb0 := blk_cell BX5.out.d 0
    have hb2 := blk_cell BX5.out.d 2
    simp at hb0 hb2
    have hfc : f ≤ c := by omega
    have hkc : f + g ≤ c := by omega
    obtain ⟨k, hk⟩ : ∃ k, f + g = k := ⟨_, rfl⟩
    have hkI : (f : Int) + (g : Int) = (k : Int) := by omega
    have hfk : f ≤ k := by omega
    obtain ⟨M9, hM9⟩ : ∃ M9, f + 2 + (N - k) = M9 := ⟨_, rfl⟩
    rw [hk] at hgn hkc F5'
    obtain ⟨i0, hi0, hz0, hz1, hz2⟩ := info_parts infoe_i
    obtain ⟨A6, HZ, hA6⟩ := print_cut (P := Try.prog) 51 3 .i64 rfl hi0 hz1 A N c k hgn
    have HA6 := Aside0.mk (fun (w_ : World) (h_ : Kd.C (Kd.int .i64) w_ A N xs) => (Kd.C_of_reads (h1 := fun _ => rfl) (hA6 w_ .i64 xs hNc (Kd.reads_of_C (enc := Value.int .i64) (d := (0 : Int)) (h1 := fun _ => rfl) h_)) : Kd.C (Kd.int .i64) w_ A6 (N - k) (xs.drop k)))
    have RT := Aside0.mk (C_pre_i R5.out.C HX.out f (by omega))
    have HM9 := Aside0.mk hM9
    clear hA6 hi0 hz0 hz1 hz2 hk hM9
    simp only [hkI]
    go_cut [10] from 50 to 110 (fun s10 wx => ∃ (gw : Nat) (A9 : Option Addr) (c9 : Nat), s10 = .pointer (some ⟨gw, 0, none⟩) ∧ Aside0 (wx.heap[gw]? = some (.cells #[.slice A9 M9 c9] 51 (0, 0))) ∧ Aside0 (Row_i wx t v5 A9 c9 M9 qs.flatten) ∧ Aside0 (TT_i w wx t v5 qs) ∧ Aside0 (AB w.heap.size d0 d1 d2 st wx) ∧ Aside0 (w5.heap.size ≤ gw) ∧ Aside0 (∀ ad, A9 = some ad → w5.heap.size ≤ ad.block) ∧ Aside0 (Tab_i w.heap.size wx t (fun g => w.heap.size + 3 ≤ g) v5 qs))
    case first =>
      refine calm_way ?_
      refine wp_region_held_drew (S := fun W => Below w5.heap.size w5 W) (by kernel_rfl) (below_drew (Below.refl _ _)) (fun hS0 => ?_)
      have hS0 : Below w5.heap.size w5 w5.drew := hS0
      generalize w5.drew = wd at hS0 ⊢
      (refine wpAnyH_take (i := 0) (v := ?_) rfl (by kernel_rfl) (by kernel_rfl) (by kernel_rfl) (fun _ _ _ h => h) (Or.inl ⟨by rfl, ?_⟩) (by assumption) ?_; rotate_left; (focus (intro w_ hSw; have e0_ := (hSw.cell (p := ⟨w.heap.size, 0, none⟩) (blk_lt BX5.out.d)).trans hb0; have e2_ := (hSw.cell (p := ⟨w.heap.size, 2, none⟩) (blk_lt BX5.out.d)).trans hb2; clear hSw; go_simp; try with_reducible rfl)); (try simp only [List.getElem_toArray, List.getElem_cons_zero, List.getElem_cons_succ, Act.put, List.setIfInBounds_toArray, List.set_cons_zero, List.set_cons_succ]))
      (refine wpAnyH_take (i := 1) (v := ?_) rfl (by kernel_rfl) (by kernel_rfl) (by kernel_rfl) (fun _ _ _ h => h) (Or.inl ⟨by rfl, ?_⟩) (by assumption) ?_; rotate_left; (focus (intro w_ hSw; have e0_ := (hSw.cell (p := ⟨w.heap.size, 0, none⟩) (blk_lt BX5.out.d)).trans hb0; have e2_ := (hSw.cell (p := ⟨w.heap.size, 2, none⟩) (blk_lt BX5.out.d)).trans hb2; clear hSw; go_simp; try with_reducible rfl)); (try simp only [List.getElem_toArray, List.getElem_cons_zero, List.getElem_cons_succ, Act.put, List.setIfInBounds_toArray, List.set_cons_zero, List.set_cons_succ]))
      (refine wpAnyH_take (i := 2) (v := ?_) rfl (by kernel_rfl) (by kernel_rfl) (by kernel_rfl) (fun _ _ _ h => h) (Or.inl ⟨by rfl, ?_⟩) (by assumption) ?_; rotate_left; (focus (intro w_ hSw; have e0_ := (hSw.cell (p := ⟨w.heap.size, 0, none⟩) (blk_lt BX5.out.d)).trans hb0; have e2_ := (hSw.cell (p := ⟨w.heap.size, 2, none⟩) (blk_lt BX5.out.d)).trans hb2; clear hSw; go_simp; try with_reducible rfl)); (try simp only [List.getElem_toArray, List.getElem_cons_zero, List.getElem_cons_succ, Act.put, List.setIfInBounds_toArray, List.set_cons_zero, List.set_cons_succ]))
      (refine wpAnyH_take (i := 4) (v := ?_) rfl (by kernel_rfl) (by kernel_rfl) (by kernel_rfl) (fun _ _ _ h => h) (Or.inl ⟨by rfl, ?_⟩) (by assumption) ?_; rotate_left; (focus (intro w_ hSw; have e0_ := (hSw.cell (p := ⟨w.heap.size, 0, none⟩) (blk_lt BX5.out.d)).trans hb0; have e2_ := (hSw.cell (p := ⟨w.heap.size, 2, none⟩) (blk_lt BX5.out.d)).trans hb2; clear hSw; go_simp; try with_reducible rfl)); (try simp only [List.getElem_toArray, List.getElem_cons_zero, List.getElem_cons_succ, Act.put, List.setIfInBounds_toArray, List.set_cons_zero, List.set_cons_succ]))
      (refine wpAnyH_take (i := 5) (v := ?_) rfl (by kernel_rfl) (by kernel_rfl) (by kernel_rfl) (fun _ _ _ h => h) (Or.inl ⟨by rfl, ?_⟩) (by assumption) ?_; rotate_left; (focus (intro w_ hSw; have e0_ := (hSw.cell (p := ⟨w.heap.size, 0, none⟩) (blk_lt BX5.out.d)).trans hb0; have e2_ := (hSw.cell (p := ⟨w.heap.size, 2, none⟩) (blk_lt BX5.out.d)).trans hb2; clear hSw; go_simp; try with_reducible rfl)); (try simp only [List.getElem_toArray, List.getElem_cons_zero, List.getElem_cons_succ, Act.put, List.setIfInBounds_toArray, List.set_cons_zero, List.set_cons_succ]))
      (refine wpAnyH_take (i := 6) (v := ?_) rfl (by kernel_rfl) (by kernel_rfl) (by kernel_rfl) (fun _ _ _ h => h) (Or.inl ⟨by rfl, ?_⟩) (by assumption) ?_; rotate_left; (focus (intro w_ hSw; have e0_ := (hSw.cell (p := ⟨w.heap.size, 0, none⟩) (blk_lt BX5.out.d)).trans hb0; have e2_ := (hSw.cell (p := ⟨w.heap.size, 2, none⟩) (blk_lt BX5.out.d)).trans hb2; clear hSw; go_simp; try with_reducible rfl)); (try simp only [List.getElem_toArray, List.getElem_cons_zero, List.getElem_cons_succ, Act.put, List.setIfInBounds_toArray, List.set_cons_zero, List.set_cons_succ]))
      (refine wpAnyH_take (i := 7) (v := ?_) rfl (by kernel_rfl) (by kernel_rfl) (by kernel_rfl) (fun _ _ _ h => h) (Or.inl ⟨by rfl, ?_⟩) (by assumption) ?_; rotate_left; (focus (intro w_ hSw; have e0_ := (hSw.cell (p := ⟨w.heap.size, 0, none⟩) (blk_lt BX5.out.d)).trans hb0; have e2_ := (hSw.cell (p := ⟨w.heap.size, 2, none⟩) (blk_lt BX5.out.d)).trans hb2; clear hSw; go_simp; try with_reducible rfl)); (try simp only [List.getElem_toArray, List.getElem_cons_zero, List.getElem_cons_succ, Act.put, List.setIfInBounds_toArray, List.set_cons_zero, List.set_cons_succ]))
      (refine wpAnyH_take (i := 10) (v := ?_) rfl (by kernel_rfl) (by kernel_rfl) (by kernel_rfl) (fun _ _ _ h => h) (Or.inl ⟨by rfl, ?_⟩) (by assumption) ?_; rotate_left; (focus (intro w_ hSw; have e0_ := (hSw.cell (p := ⟨w.heap.size, 0, none⟩) (blk_lt BX5.out.d)).trans hb0; have e2_ := (hSw.cell (p := ⟨w.heap.size, 2, none⟩) (blk_lt BX5.out.d)).trans hb2; clear hSw; go_simp; try with_reducible rfl)); (try simp only [List.getElem_toArray, List.getElem_cons_zero, List.getElem_cons_succ, Act.put, List.setIfInBounds_toArray, List.set_cons_zero, List.set_cons_succ]))
      (refine wpAnyH_take (i := 11) (v := ?_) rfl (by kernel_rfl) (by kernel_rfl) (by kernel_rfl) (fun _ _ _ h => h) (Or.inl ⟨by rfl, ?_⟩) (by assumption) ?_; rotate_left; (focus (intro w_ hSw; have e0_ := (hSw.cell (p := ⟨w.heap.size, 0, none⟩) (blk_lt BX5.out.d)).trans hb0; have e2_ := (hSw.cell (p := ⟨w.heap.size, 2, none⟩) (blk_lt BX5.out.d)).trans hb2; clear hSw; go_simp; try with_reducible rfl)); (try simp only [List.getElem_toArray, List.getElem_cons_zero, List.getElem_cons_succ, Act.put, List.setIfInBounds_toArray, List.set_cons_zero, List.set_cons_succ]))
      (refine wpAnyH_take (i := 12) (v := ?_) rfl (by kernel_rfl) (by kernel_rfl) (by kernel_rfl) (fun _ _ _ h => h) (Or.inl ⟨by rfl, ?_⟩) (by assumption) ?_; rotate_left; (focus (intro w_ hSw; have e0_ := (hSw.cell (p := ⟨w.heap.size, 0, none⟩) (blk_lt BX5.out.d)).trans hb0; have e2_ := (hSw.cell (p := ⟨w.heap.size, 2, none⟩) (blk_lt BX5.out.d)).trans hb2; clear hSw; go_simp; try with_reducible rfl)); (try simp only [List.getElem_toArray, List.getElem_cons_zero, List.getElem_cons_succ, Act.put, List.setIfInBounds_toArray, List.set_cons_zero, List.set_cons_succ]))
      repeat' (first
        | exact AllReadyH.nil
        | (refine wpAnyH_done (by decide +kernel) ?_ _)
        | (refine wpAnyH_ready (rs := [3, 8, 14]) (by decide +kernel) (by simp) ?_)
        | (refine wpAnyH_ready (rs := [3, 8]) (by decide +kernel) (by simp) ?_)
        | (refine wpAnyH_ready (rs := [3, 14]) (by decide +kernel) (by simp) ?_)
        | (refine wpAnyH_ready (rs := [3]) (by decide +kernel) (by simp) ?_)
        | (refine wpAnyH_ready (rs := [8, 14]) (by decide +kernel) (by simp) ?_)
        | (refine wpAnyH_ready (rs := [8]) (by decide +kernel) (by simp) ?_)
        | (refine wpAnyH_ready (rs := [9, 14]) (by decide +kernel) (by simp) ?_)
        | (refine wpAnyH_ready (rs := [9]) (by decide +kernel) (by simp) ?_)
        | (refine wpAnyH_ready (rs := [13, 14]) (by decide +kernel) (by simp) ?_)
        | (refine wpAnyH_ready (rs := [13]) (by decide +kernel) (by simp) ?_)
        | (refine wpAnyH_ready (rs := [14]) (by decide +kernel) (by simp) ?_)
        | (refine wpAnyH_ready (rs := [15]) (by decide +kernel) (by simp) ?_)
        | (refine AllReadyH.cons (i := 3) rfl (fun K hK => ?_) ?_; focus (refine step_of rfl ?_; (go_simp; go_at_call 30; (with_reducible refine (copy_for_i (Kd.C_below RT.out (by repeat (first | (with_reducible exact Below.refl _ _) | (with_reducible exact hS0) | (with_reducible apply below_alloc) | (with_reducible apply below_drew) | (with_reducible apply pw_below_drewN)))) (by rw [List.length_take, HX.out]; omega) hfc (by omega)).mono ?_); rintro e w6 ⟨v6, rfl, o_, B_⟩; obtain ⟨A7, c7, rfl⟩ := own_slice o_; have O6 := Aside0.mk (own_lower o_ (below_size (w := w5) (by repeat (first | (with_reducible exact Below.refl _ _) | (with_reducible exact hS0) | (with_reducible apply below_alloc) | (with_reducible apply below_drew) | (with_reducible apply pw_below_drewN))))); have Kw6 := Aside0.mk (fun (o_ : Obj) (b_ : Nat) (h_ : GA o_ b_ _) => h_.below B_); have B6 := Aside0.mk (show Below w5.heap.size w5 w6 from below_step (by repeat (first | (with_reducible exact Below.refl _ _) | (with_reducible exact hS0) | (with_reducible apply below_alloc) | (with_reducible apply below_drew) | (with_reducible apply pw_below_drewN))) B_); have hc0 : w6.cell? ⟨w.heap.size, 0, none⟩ = some (.int .i64 d0) := (B6.out.cell (p := ⟨w.heap.size, 0, none⟩) (blk_lt BX5.out.d)).trans hb0; have hc2 : w6.cell? ⟨w.heap.size, 2, none⟩ = some (.int .i64 d2) := (B6.out.cell (p := ⟨w.heap.size, 2, none⟩) (blk_lt BX5.out.d)).trans hb2; (try (have KX := Aside0.mk (And.intro (WA.of (Kw6.out _ _ KX.out.1)) KX.out.2))); clear o_ B_; have hco := fun (o_ : Obj) => Lib.cell?_alloc_some o_ hc0; have hct := fun (o_ : Obj) => Lib.cell?_alloc_some o_ hc2; refine hK.out _ _ (by repeat (first | (with_reducible exact B9.out) | (with_reducible exact B8.out) | (with_reducible exact B6.out) | (with_reducible exact Below.refl _ _) | (with_reducible exact hS0) | (with_reducible apply below_alloc) | (with_reducible apply below_drew) | (with_reducible apply pw_below_drewN))) (fun hS1 => ?_); clear hK K; (try simp only [List.getElem_toArray, List.getElem_cons_zero, List.getElem_cons_succ, Act.put, List.setIfInBounds_toArray, List.set_cons_zero, List.set_cons_succ]))))
        | (refine AllReadyH.cons (i := 8) rfl (fun K hK => ?_) ?_; focus (refine step_of rfl ?_; (go_simp; refine hK.out _ _ (by repeat (first | (with_reducible exact B9.out) | (with_reducible exact B8.out) | (with_reducible exact B6.out) | (with_reducible exact Below.refl _ _) | (with_reducible exact hS0) | (with_reducible apply below_alloc) | (with_reducible apply below_drew) | (with_reducible apply pw_below_drewN))) (fun hS1 => ?_); clear hK K; (try simp only [List.getElem_toArray, List.getElem_cons_zero, List.getElem_cons_succ, Act.put, List.setIfInBounds_toArray, List.set_cons_zero, List.set_cons_succ]); (try (have KX := Aside0.mk (And.intro (WA.allocS KX.out.1 hS1) KX.out.2))))))
        | (refine AllReadyH.cons (i := 9) rfl (fun K hK => ?_) ?_; focus (refine step_of rfl ?_; (refine wp_append_row_i w5.heap.size (.tmp 53) (.tmp 58) rfl (.slice A7 f c7) f (xs.take f) [d2, d0] _ 2 2 (by simp [Act.eval, Act.put]) rfl (pw_own_below O6.out (by repeat (first | (with_reducible exact Below.refl _ _) | (with_reducible exact hS0) | (with_reducible apply below_alloc) | (with_reducible apply below_drew) | (with_reducible apply pw_below_drewN)))) (C_lit_i (by show GA (.cells #[.int .i64 d2, .int .i64 d0] 3 (0, 0)) _ _; repeat (first | (with_reducible exact GA.new _ _) | (with_reducible exact GA.new1 _ _ _) | (with_reducible apply Kw6.out) | (with_reducible apply GA.alloc) | (with_reducible apply GA.drew))) (by simp) (two_get d2 d0)) rfl (Nat.le_trans B6.out.size (below_size (by repeat (first | (with_reducible exact Below.refl _ _) | (with_reducible exact hS0) | (with_reducible apply below_alloc) | (with_reducible apply below_drew) | (with_reducible apply pw_below_drewN))))) (by omega) ?_; intro v8 w8 o_ g_ a_; obtain ⟨A8, c8, rfl⟩ := own_slice o_; have O8 := Aside0.mk o_; have Kw8 := Aside0.mk (fun (b_ : Nat) (h_ : WA b_ _) => h_.grown g_ (pw_own_below O6.out (by repeat (first | (with_reducible exact Below.refl _ _) | (with_reducible exact hS0) | (with_reducible apply below_alloc) | (with_reducible apply below_drew) | (with_reducible apply pw_below_drewN))))); have B8 := Aside0.mk (app_below B6.out (by repeat (first | (with_reducible exact Below.refl _ _) | (with_reducible exact hS0) | (with_reducible apply below_alloc) | (with_reducible apply below_drew) | (with_reducible apply pw_below_drewN))) (pw_own_below O6.out (by repeat (first | (with_reducible exact Below.refl _ _) | (with_reducible exact hS0) | (with_reducible apply below_alloc) | (with_reducible apply below_drew) | (with_reducible apply pw_below_drewN)))) g_); (try (have KX := Aside0.mk (And.intro (Kw8.out _ KX.out.1) KX.out.2))); clear o_ g_ a_; refine hK.out _ _ (by repeat (first | (with_reducible exact B9.out) | (with_reducible exact B8.out) | (with_reducible exact B6.out) | (with_reducible exact Below.refl _ _) | (with_reducible exact hS0) | (with_reducible apply below_alloc) | (with_reducible apply below_drew) | (with_reducible apply pw_below_drewN))) (fun hS1 => ?_); clear hK K; (try simp only [List.getElem_toArray, List.getElem_cons_zero, List.getElem_cons_succ, Act.put, List.setIfInBounds_toArray, List.set_cons_zero, List.set_cons_succ]))))
        | (refine AllReadyH.cons (i := 13) rfl (fun K hK => ?_) ?_; focus (refine step_of rfl ?_; (refine wp_append_row_i w5.heap.size (.tmp 59) (.tmp 62) rfl (.slice A8 (f + 2) c8) (f + 2) (xs.take f ++ [d2, d0]) (xs.drop k) A6 (N - k) (c - k) (by simp [Act.eval, Act.put]) (by simp [Act.eval, Act.put]) (pw_own_below O8.out (by repeat (first | (with_reducible exact Below.refl _ _) | (with_reducible exact hS0) | (with_reducible apply below_alloc) | (with_reducible apply below_drew) | (with_reducible apply pw_below_drewN)))) (HA6.out _ (Kd.C_below R5.out.C (below_step B8.out (by repeat (first | (with_reducible exact Below.refl _ _) | (with_reducible exact hS0) | (with_reducible apply below_alloc) | (with_reducible apply below_drew) | (with_reducible apply pw_below_drewN)))))) (by rw [List.length_drop, HX.out]) (Nat.le_trans B8.out.size (below_size (by repeat (first | (with_reducible exact Below.refl _ _) | (with_reducible exact hS0) | (with_reducible apply below_alloc) | (with_reducible apply below_drew) | (with_reducible apply pw_below_drewN))))) (by omega) ?_; intro v9 w9 o_ g_ a_; rw [HM9.out] at o_; obtain ⟨A9, c9, rfl⟩ := own_slice o_; have O9 := Aside0.mk o_; have Kw9 := Aside0.mk (fun (b_ : Nat) (h_ : WA b_ _) => h_.grown g_ (pw_own_below O8.out (by repeat (first | (with_reducible exact Below.refl _ _) | (with_reducible exact hS0) | (with_reducible apply below_alloc) | (with_reducible apply below_drew) | (with_reducible apply pw_below_drewN))))); have B9 := Aside0.mk (app_below B8.out (by repeat (first | (with_reducible exact Below.refl _ _) | (with_reducible exact hS0) | (with_reducible apply below_alloc) | (with_reducible apply below_drew) | (with_reducible apply pw_below_drewN))) (pw_own_below O8.out (by repeat (first | (with_reducible exact Below.refl _ _) | (with_reducible exact hS0) | (with_reducible apply below_alloc) | (with_reducible apply below_drew) | (with_reducible apply pw_below_drewN)))) g_); (try (have KX := Aside0.mk (And.intro (Kw9.out _ KX.out.1) KX.out.2))); clear o_ g_ a_; refine hK.out _ _ (by repeat (first | (with_reducible exact B9.out) | (with_reducible exact B8.out) | (with_reducible exact B6.out) | (with_reducible exact Below.refl _ _) | (with_reducible exact hS0) | (with_reducible apply below_alloc) | (with_reducible apply below_drew) | (with_reducible apply pw_below_drewN))) (fun hS1 => ?_); clear hK K; (try simp only [List.getElem_toArray, List.getElem_cons_zero, List.getElem_cons_succ, Act.put, List.setIfInBounds_toArray, List.set_cons_zero, List.set_cons_succ]))))
        | (refine AllReadyH.cons (i := 14) rfl (fun K hK => ?_) ?_; focus (refine step_of rfl ?_; (go_simp; refine hK.out _ _ (by repeat (first | (with_reducible exact B9.out) | (with_reducible exact B8.out) | (with_reducible exact B6.out) | (with_reducible exact Below.refl _ _) | (with_reducible exact hS0) | (with_reducible apply below_alloc) | (with_reducible apply below_drew) | (with_reducible apply pw_below_drewN))) (fun hS1 => ?_); clear hK K; (try simp only [List.getElem_toArray, List.getElem_cons_zero, List.getElem_cons_succ, Act.put, List.setIfInBounds_toArray, List.set_cons_zero, List.set_cons_succ]); obtain ⟨kx_, kg_⟩ := WA.ofK hS1 (by repeat (first | (with_reducible exact B9.out) | (with_reducible exact B8.out) | (with_reducible exact B6.out) | (with_reducible exact Below.refl _ _) | (with_reducible exact hS0) | (with_reducible apply below_alloc) | (with_reducible apply below_drew) | (with_reducible apply pw_below_drewN))); (try simp only [World.size_alloc] at kx_ kg_); have KX := Aside0.mk (And.intro kx_ kg_); clear kx_ kg_)))
        | (refine AllReadyH.cons (i := 15) rfl (fun K hK => ?_) ?_; focus (refine step_of rfl ?_; (have kc_ := blk_cell KX.out.1 0; have kf_ := blk_frozen KX.out.1 0; (try simp at kc_); go_simp; (first | refine hK.out _ _ (Below.setCell (by repeat (first | (with_reducible exact B9.out) | (with_reducible exact B8.out) | (with_reducible exact B6.out) | (with_reducible exact Below.refl _ _) | (with_reducible exact hS0) | (with_reducible apply below_alloc) | (with_reducible apply below_drew) | (with_reducible apply pw_below_drewN))) KX.out.2 _) (fun hS1 => ?_) | refine hK.out _ _ (by repeat (first | (with_reducible exact B9.out) | (with_reducible exact B8.out) | (with_reducible exact B6.out) | (with_reducible exact Below.refl _ _) | (with_reducible exact hS0) | (with_reducible apply below_alloc) | (with_reducible apply below_drew) | (with_reducible apply pw_below_drewN))) (fun hS1 => ?_)); clear hK K; (try simp only [List.getElem_toArray, List.getElem_cons_zero, List.getElem_cons_succ, Act.put, List.setIfInBounds_toArray, List.set_cons_zero, List.set_cons_succ])))))
      all_goals first
        | (obtain ⟨l1_, l2_, l3_, l4_, l5_, l6_, l7_⟩ := leaf9 T5.out TC5.out BX5.out (pw_own_below O9.out (by repeat (first | (with_reducible exact Below.refl _ _) | (with_reducible apply below_alloc) | (with_reducible apply below_drew)))) KX.out.1 KX.out.2 (by repeat (first | (with_reducible exact B9.out) | (with_reducible exact B8.out) | (with_reducible exact B6.out) | (with_reducible exact Below.refl _ _) | (with_reducible exact hS0) | (with_reducible apply below_alloc) | (with_reducible apply below_drew) | (with_reducible apply pw_below_drewN))) F5'.out
           go_wp2
           go_meet
           case rel => exact ⟨_, A9, c9, rfl, ⟨l1_⟩, ⟨l2_⟩, ⟨l3_⟩, ⟨l4_⟩, ⟨l5_⟩, ⟨l6_⟩, ⟨l7_⟩⟩)
        | (obtain ⟨l1_, l2_, l3_, l4_, l5_, l6_, l7_⟩ := leaf9b (W := w9) T5.out TC5.out BX5.out O9.out B9.out F5'.out
           go_wp2
           go_meet
           case rel => exact ⟨_, A9, c9, rfl, ⟨l1_⟩, ⟨l2_⟩, ⟨l3_⟩, ⟨l4_⟩, ⟨l5_⟩, ⟨l6_⟩, ⟨l7_⟩⟩)
    case rest =>
      obtain ⟨gw, A9, c9, rfl, HW, R9, T9, BX9, HG, HAD, TC9⟩ := hcut
      have hM9l : M9 ≤ 302 := by have := HM9.out; omega
      obtain ⟨s, hs, hs1⟩ := bring_fits st (M9 + 1) (by omega)
      have hsl : s ≤ M9 := by omega
      have B3_ : ∀ w, Calls Try.prog 28 #[.int .i64 st, .int .i64 ((M9 : Int) + 1)] w fun e w' => e = .returned (.int .i64 (s : Int)) ∧ w = w' := fun w => bring_calls w st _ s (M9 + 1) (by omega) (by omega) (by omega) hs
      have X3 := Aside0.mk B3_
      have hw0 := blk_cell HW.out 0
      have hwf := blk_frozen HW.out 0
      have hs0 := blk_cell BX9.out.s 0
      have hsf := blk_frozen BX9.out.s 0
      simp at hw0 hs0
      have hfn : ∀ (W : World) (q : Nat) (c : Array Value), (binOp .eql 58 (.func (.func q) #[] c) .nilFunc).run Try.prog W = .ok (.bool false) W := fun W q c => by kernel_rfl
      have HS_ := Aside0.mk hs
      clear hb0 hb2 B3_ hs hs1 HZ HA6 RT R5 BX5 T5 TC5 HM9
      go_wp2_with (first
        | (go_at_call 28; (with_reducible refine (X3.out _).mono ?_); rintro e w' ⟨rfl, rfl⟩)
        | (go_at_call 31; (with_reducible refine (all_calls_i t _).mono ?_); rintro e w' ⟨rfl, rfl⟩))
      have hgw5 : w5.heap.size ≤ gw := HG.out
      have W0f := Aside0.mk (all_start T9.out TC9.out BX9.out HW.out HAD.out R9.out hgw5 (by have := HLO5.out; exact this) s)
      have hbxc := (Boxed.new (((wc.setCell ⟨w.heap.size + 1, 0, none⟩ (.int .i64 s)).alloc (.cells #[.int .i64 0] 3)).alloc (.cells #[.pointer (some ⟨t, 0, none⟩)] 52)) 52 (.pointer (some ⟨t, 0, none⟩))).cell
      obtain ⟨bx, hbx⟩ : ∃ bx, (((wc.setCell ⟨w.heap.size + 1, 0, none⟩ (.int .i64 s)).alloc (.cells #[.int .i64 0] 3)).alloc (.cells #[.pointer (some ⟨t, 0, none⟩)] 52)).heap.size = bx := ⟨_, rfl⟩
      rw [hbx] at hbxc
      obtain ⟨ga, hga⟩ : ∃ ga, wc.heap.size = ga := ⟨_, rfl⟩
      have hbx2 : wc.heap.size + 1 + 1 = bx := by rw [← hbx, World.size_alloc, World.size_alloc]; simp [World.setCell]
      generalize ((((wc.setCell ⟨w.heap.size + 1, 0, none⟩ (.int .i64 s)).alloc (.cells #[.int .i64 0] 3)).alloc (.cells #[.pointer (some ⟨t, 0, none⟩)] 52)).alloc (.cells #[.pointer (some ⟨t, 0, none⟩)] 52)) = W0 at W0f hbxc ⊢
      rw [hbx2]
      rw [hga] at W0f ⊢
      have hgb : w.heap.size + 3 ≤ ga := by rw [← hga]; exact blk_lt BX9.out.r
      have HGB := Aside0.mk hgb
      obtain ⟨L, hL⟩ : ∃ L, qs.flatten = L := ⟨_, rfl⟩
      have HL := Aside0.mk hL
      have HC0 := Aside0.mk (show Kd.C (Kd.int .i64) W0 A9 M9 L by rw [← hL]; exact W0f.out.C)
      have HLL := Aside0.mk (show L.length = M9 by rw [← hL]; exact W0f.out.len)
      have FT := Aside0.mk (fun g (hg : Foot W0 (fun g => w.heap.size + 3 ≤ g ∧ g < ga) v5 g) => (show g < ga from by rcases hg.2 with e | e; exact W0f.out.own g e; exact e.2))
      have hbW : w.heap.size ≤ W0.heap.size := W0f.out.be.size
      have HBW := Aside0.mk hbW
      have HS2 := Aside0.mk hsl
      have HM := Aside0.mk hM9l
      have hkeep : ∀ {W W' : World}, (∀ k, k < W0.heap.size → k ≠ ga → W.heap[k]? = W0.heap[k]?) → (∀ k, k < W0.heap.size → k ≠ ga → W'.heap[k]? = W0.heap[k]?) → Keep (Foot W0 (fun g => w.heap.size + 3 ≤ g ∧ g < ga) v5) W W' := fun {W W'} h1 h2 g hg => by
        have h3 := FT.out g hg
        have h4 := W0f.out.lt
        exact (h2 g (by omega) (by omega)).trans (h1 g (by omega) (by omega)).symm
      have HKP := Aside0.mk @hkeep
      clear T9 TC9 BX9 HW HAD R9 hgw5 hbx hga hbx2 hs0 hw0 hwf hsf hL hkeep hgb hM9l hsl HLO5 HG
      refine (wpIn_wide (n := 4)).1 ?_
      refine wpIn_rangeFunc_ownG rfl (by decide) (gf := 47) (lb := #[.pointer (some ⟨bx, 0, none⟩)]) rfl trivial (enters_of Try.func47 (by kernel_rfl) rfl)
        (all_stops_i W0f.out.tab (by rw [HL.out, HLL.out]; have := HM.out; omega) bx hbxc) Keep.trans (fun W l o o' hl _ _ _ g hg => World.putObj_heap_other (by have := FT.out g hg; have := W0f.out.lt; omega)) (Below.refl _ _) (fun _ => rfl)
        (fun pre W => PI w W0 w.heap.size ga s pre W) (fun c pre W => QX w W0 w.heap.size ga s L c pre W) (PI.own W0f.out.lt hbW) (fun c => QX.own W0f.out.lt hbW c) ⟨W0f.out.at_, Nat.zero_le _, fun _ _ _ => rfl, Below.refl _ _⟩ ?a1 ?assign ?body ?done ?stop
      case assign =>
        intro l x W K hK
        gi_wp2
        exact hK
      case body =>
        rintro l' pre x W hI hlen
        obtain ⟨p, hp⟩ : ∃ p, pre.length = p := ⟨_, rfl⟩
        rw [HL.out, HLL.out, hp] at hlen
        have hba := hI.ba
        rw [hp] at hba
        have hca := hba.cell
        have hfa := hba.frozen
        have z1 := W0f.out.lt
        have z2 := HGB.out
        have z3 := W0f.out.gwl
        have hcs := blk_cell ((hI.kp (w.heap.size + 1) (by omega) (by omega)).trans W0f.out.st) 0
        have hcw := blk_cell ((hI.kp gw (by omega) (by omega)).trans W0f.out.wn) 0
        have hrt := (hI.kp (w.heap.size + 1 + 1) (by omega) (by omega)).trans W0f.out.rt
        have hcr := blk_cell hrt 0
        have hfr := blk_frozen hrt 0
        simp at hcs hcw hcr
        have hCW : Kd.C (Kd.int .i64) W A9 M9 L := C_mv_i HC0.out fun h0 ad e _ => hI.kp _ (by have := W0f.out.ad h0 ad e; omega) (by have := W0f.out.ad h0 ad e; omega)
        obtain ⟨ad, hA, hcell⟩ := Kd.at_int hCW (p : Int) (by omega) (by omega)
        simp only [Int.toNat_natCast] at hcell
        have hget := rd_get L p (by rw [HLL.out]; exact hlen)
        obtain ⟨y, hy⟩ : ∃ y, rd L (p : Int) = y := ⟨_, rfl⟩
        rw [hy] at hcell hget
        rw [hA] at hcw
        have hle : p ≤ s := by have := hI.le; omega
        have HP := Aside0.mk hp
        have HI := Aside0.mk hI
        have HLN := Aside0.mk hlen
        have HGET := Aside0.mk hget
        have t2 : decide (M9 ≤ p) = false := decide_eq_false (by omega)
        have i1 : (p : Int) < (M9 : Int) := by omega
        have i0 : (0 : Int) ≤ (p : Int) := by omega
        have hw1 : wrap64 ((p : Int) + 1) = ((p + 1 : Nat) : Int) := by have := HM.out; unfold wrap64; omega
        clear hCW hrt hI hba z1 z2 z3 hy hget hp
        rcases Nat.eq_or_lt_of_le hle with e_ | hlt
        · have e9 : ((p : Int) == (s : Int)) = true := beq_yes e_
          have HE9 := Aside0.mk e_
          clear hle e_ hlen
          gi_wp2
          exact ⟨KeepsFrom.refl _ _, ⟨.inl ⟨rfl, pre, x, rfl, by rw [HP.out, HE9.out], HI.out⟩⟩⟩
        · have e9 : ((p : Int) == (s : Int)) = false := beq_no hlt
          have HLT := Aside0.mk hlt
          clear hle hlt hlen
          by_cases hxy : x = y
          · have e10 : (x != y) = false := by simp [hxy]
            clear hxy
            gi_wp2
            have hst := HI.out.step x (by rw [HP.out]; exact HLT.out) (Nat.le_trans (Nat.le_add_right _ _) HGB.out)
            rw [HP.out] at hst
            rw [hw1]
            exact ⟨(KeepsOthers.setCell _ _ _).from _, HKP.out HI.out.kp hst.kp, hst⟩
          · have e10 : (x != y) = true := by simpa using hxy
            have HXY := Aside0.mk hxy
            clear hxy
            gi_wp2
            refine ⟨(KeepsOthers.setCell _ _ _).from _, ⟨.inr ⟨rfl, pre, x, rfl, ?_⟩⟩⟩
            rw [HP.out, HGET.out]
            intro e; exact HXY.out (Option.some.inj e).symm
      case done =>
        rintro D ys W hD hys hI hDef
        have hys2 : ys.length = M9 := by rw [hys, HL.out]; exact HLL.out
        have hsM : s = M9 := by have := hI.le; have := HS2.out; omega
        have hp0 : ys.length = s := by omega
        clear hys hys2 hsM
        have z1 := W0f.out.lt
        have z2 := HGB.out
        have z3 := W0f.out.gwl
        have hbat := hI.ba
        rw [hp0] at hbat
        have BA := Aside0.mk hbat
        have ST := Aside0.mk ((hI.kp (w.heap.size + 1) (by omega) (by omega)).trans W0f.out.st)
        have WN := Aside0.mk ((hI.kp gw (by omega) (by omega)).trans W0f.out.wn)
        have RT_ := Aside0.mk ((hI.kp (w.heap.size + 1 + 1) (by omega) (by omega)).trans W0f.out.rt)
        have CW_ := Aside0.mk (show Kd.C (Kd.int .i64) W A9 M9 L from C_mv_i HC0.out fun h0 ad e _ => hI.kp _ (by have := W0f.out.ad h0 ad e; omega) (by have := W0f.out.ad h0 ad e; omega))
        have TB := Aside0.mk (PI.tab W0f.out hI)
        have BEW := Aside0.mk (W0f.out.be.trans hI.be)
        have hcw := blk_cell WN.out 0
        simp at hcw
        have e9 : ((s : Int) == (s : Int)) = true := beq_yes rfl
        have e8 : ((0 : Int) == 0) = true := rfl
        have HD := Aside0.mk hD
        have HDef := Aside0.mk hDef
        have HLB := Aside0.mk (show w.heap.size + 1 + 1 < W0.heap.size by omega)
        clear z1 z2 z3 hbat hI hp0 hD hDef
        go_wp2_with (first
          | (go_at_call 32; (with_reducible refine (slice_all TB.out HL.out HLL.out HM.out).mono ?_); rintro e w20 ⟨A20, c20, rfl, k1_, k2_, b_⟩; have K1 := Aside0.mk k1_; have K2 := Aside0.mk k2_; have B20 := Aside0.mk b_; have hca := blk_cell ((b_.block _ BA.out.lt).trans BA.out) 0; have hcs := blk_cell ((b_.block _ (blk_lt ST.out)).trans ST.out) 0; have hcw2 := blk_cell ((b_.block _ (blk_lt WN.out)).trans WN.out) 0; simp at hca hcs hcw2; clear k1_ k2_ b_)
          | (go_at_call 33; (with_reducible refine (eq_ints HLL.out K2.out K1.out (Kd.C_below CW_.out B20.out) W0f.out.cap (by have := HM.out; omega)).mono ?_); rintro e w21 ⟨rfl, b_⟩; have B21 := Aside0.mk (below_step B20.out b_); have RT2 := Aside0.mk ((B21.out.block _ (blk_lt RT_.out)).trans RT_.out); have hcr := blk_cell RT2.out 0; have hfr := blk_frozen RT2.out 0; simp at hcr; clear b_))
        have hDb : D ≠ w.heap.size + 1 + 1 := by have := HD.out; have := HLB.out; omega
        have e2 := (Below.heap_setCell w21 ⟨w.heap.size + 1 + 1, 0, none⟩ (.bool true) D hDb).trans ((B21.out.block D (blk_lt HDef.out)).trans HDef.out)
        have hset := blk_set RT2.out 0 (.bool true)
        refine ⟨by simp, .inl ⟨_, _, rfl, run_takeDeferred e2, ?_⟩⟩
        refine ⟨_, results_bool (b := true) rfl rfl ((blk_cell ((World.putObj_heap_other (by omega)).trans hset) 0).trans rfl), rfl, ?_⟩
        exact belowPut (BEW.out.trans ((B21.out.mono BEW.out.size).setCell (p := ⟨w.heap.size + 1 + 1, 0, none⟩) (by show w.heap.size ≤ w.heap.size + 1 + 1; omega) _)) (Nat.le_trans HBW.out HD.out) _
      case stop =>
        rintro D cd pre W hD hpre hQ hDef
        rcases hQ.ex with ⟨rfl, p0, x, rfl, hp0, hI⟩ | ⟨rfl, p0, x, rfl, hne⟩
        · clear hQ hpre
          have z1 := W0f.out.lt
          have z2 := HGB.out
          have z3 := W0f.out.gwl
          have hbat := hI.ba
          rw [hp0] at hbat
          have BA := Aside0.mk hbat
          have ST := Aside0.mk ((hI.kp (w.heap.size + 1) (by omega) (by omega)).trans W0f.out.st)
          have WN := Aside0.mk ((hI.kp gw (by omega) (by omega)).trans W0f.out.wn)
          have RT_ := Aside0.mk ((hI.kp (w.heap.size + 1 + 1) (by omega) (by omega)).trans W0f.out.rt)
          have CW_ := Aside0.mk (show Kd.C (Kd.int .i64) W A9 M9 L from C_mv_i HC0.out fun h0 ad e _ => hI.kp _ (by have := W0f.out.ad h0 ad e; omega) (by have := W0f.out.ad h0 ad e; omega))
          have TB := Aside0.mk (PI.tab W0f.out hI)
          have BEW := Aside0.mk (W0f.out.be.trans hI.be)
          have hcw := blk_cell WN.out 0
          simp at hcw
          have e9 : ((s : Int) == (s : Int)) = true := beq_yes rfl
          have e8 : ((0 : Int) == 0) = true := rfl
          have HD := Aside0.mk hD
          have HDef := Aside0.mk hDef
          have HLB := Aside0.mk (show w.heap.size + 1 + 1 < W0.heap.size by omega)
          clear z1 z2 z3 hbat hI hp0 hD hDef
          refine wpIn_wide.2 ?_
          go_wp2_with (first
            | (go_at_call 32; (with_reducible refine (slice_all TB.out HL.out HLL.out HM.out).mono ?_); rintro e w20 ⟨A20, c20, rfl, k1_, k2_, b_⟩; have K1 := Aside0.mk k1_; have K2 := Aside0.mk k2_; have B20 := Aside0.mk b_; have hca := blk_cell ((b_.block _ BA.out.lt).trans BA.out) 0; have hcs := blk_cell ((b_.block _ (blk_lt ST.out)).trans ST.out) 0; have hcw2 := blk_cell ((b_.block _ (blk_lt WN.out)).trans WN.out) 0; simp at hca hcs hcw2; clear k1_ k2_ b_)
            | (go_at_call 33; (with_reducible refine (eq_ints HLL.out K2.out K1.out (Kd.C_below CW_.out B20.out) W0f.out.cap (by have := HM.out; omega)).mono ?_); rintro e w21 ⟨rfl, b_⟩; have B21 := Aside0.mk (below_step B20.out b_); have RT2 := Aside0.mk ((B21.out.block _ (blk_lt RT_.out)).trans RT_.out); have hcr := blk_cell RT2.out 0; have hfr := blk_frozen RT2.out 0; simp at hcr; clear b_))
          have hDb : D ≠ w.heap.size + 1 + 1 := by have := HD.out; have := HLB.out; omega
          have e2 := (Below.heap_setCell w21 ⟨w.heap.size + 1 + 1, 0, none⟩ (.bool true) D hDb).trans ((B21.out.block D (blk_lt HDef.out)).trans HDef.out)
          have hset := blk_set RT2.out 0 (.bool true)
          refine ⟨by simp, .inl ⟨_, _, rfl, run_takeDeferred e2, ?_⟩⟩
          refine ⟨_, results_bool (b := true) rfl rfl ((blk_cell ((World.putObj_heap_other (by omega)).trans hset) 0).trans rfl), rfl, ?_⟩
          exact belowPut (BEW.out.trans ((B21.out.mono BEW.out.size).setCell (p := ⟨w.heap.size + 1 + 1, 0, none⟩) (by show w.heap.size ≤ w.heap.size + 1 + 1; omega) _)) (Nat.le_trans HBW.out HD.out) _
        · exfalso
          obtain ⟨r, hr⟩ := hpre
          rw [HL.out] at hr
          exact hne (by rw [← hr]; simp)
end Go.Proofs.Ytfedlanbmibhkaa.P
