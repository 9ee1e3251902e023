/- same: a table and the document's are the same. -/
import Derived.Test.YtfedlanbmibhkaaS24h
import Derived.Test.YtfedlanbmibhkaaS12tb
import Derived.Deep.DeepCutAuto
import Derived.OwnWalkIn
import Derived.Sort.BigQuietIn
import Derived.Sort.CutIn
import Derived.Test.YtfedlanbmibhkaaS19hb
import Derived.Test.YtfedlanbmibhkaaS12ti
import Derived.Deep.RegionHeld
import Derived.Test.YtfedlanbmibhkaaS19hi
namespace Go.Proofs.Ytfedlanbmibhkaa.P
open Go.RowKit Go.Shelf Go.Proofs.YtfedlanbmibhkaaW.PrintWords Go.Proofs.YtfedlanbmibhkaaW.PrintLast Go.Proofs.YtfedlanbmibhkaaW.PrintMore
set_option linter.unusedVariables false
set_option linter.unusedSimpArgs false
attribute [local go_sem] Oper.semAt_some wide_fn
theorem calm_way' {P : Program} {c : Code} {K : Act → World → Prop} {Q : Exit → Act → World → Prop} {a : Act} {w : World} (h : c.wp P (Exit.then K (fun _ _ _ => False)) a w) : c.wp P (Exit.then K Q) a w :=
  wp_mono h fun e a w h => by cases e <;> first | exact h | exact h.elim
def Region.noDefer (ls : List Oper) : Bool := ls.all fun o => match o.op with | .defer _ => false | _ => true
theorem noDefer_spec {ls : List Oper} (h : Region.noDefer ls = true) (i : Nat) (o : Oper) (ho : ls.toArray[i]? = some o) : ∀ c, o.op ≠ .defer c := by
  intro c e
  have hm : o ∈ ls := by simpa using Array.mem_of_getElem? ho
  have := List.all_eq_true.1 h o hm
  rw [e] at this
  cases this
/-! A region that only reads, within a round. -/
section
variable {F : Fence} {n l : Nat} {P : Program} {ops : Array Oper} {Q : Exit → Act → World → Prop} {md : Region.Mode}
theorem uponIn_round {o : Oper} {a : Act} {K K' : Act → World → Prop} (hK : ∀ a w, K a w → K' a w) (r : Result Next) (h : o.uponIn F n P a K Q r) : o.uponIn (F.inRound l) n P a K' Q r := by
  cases r with
  | ok x w' =>
    cases x <;> simp only [Oper.uponIn] at h ⊢ <;>
      first
        | exact hK _ _ h
        | exact ⟨h.1, CallsIn.mono (show CallsIn (F.inRound l) _ _ _ _ _ _ from h.2) (fun e w'' he => by cases e <;> first | exact hK _ _ he | exact he)⟩
        | exact ⟨h.1, RowsIn.mono (show RowsIn (F.inRound l) _ _ _ _ _ _ from h.2) (fun _ _ he => hK _ _ he)⟩
        | exact ⟨h.1, RoundIn.mono (show RoundIn (F.inRound l) _ _ _ _ _ _ _ _ _ from h.2) (fun e w'' he => by cases e <;> first | exact hK _ _ he | exact he)⟩
  | halt x w' => cases x <;> simp only [Oper.uponIn] at h ⊢ <;> exact h
theorem wpIn_round {o : Oper} {a : Act} {w : World} {K K' : Act → World → Prop} (hd : ∀ c, o.op ≠ .defer c) (hK : ∀ a w, K a w → K' a w) (h : o.wpIn F n P a w K Q) : o.wpIn (F.inRound l) n P a w K' Q := by
  unfold Oper.wpIn at h ⊢
  refine ⟨h.1, ?_⟩
  have h2 := h.2
  rw [Oper.semAt_plain F _ _ hd] at h2
  rw [Oper.semAt_plain (F.inRound l) _ _ hd]
  exact uponIn_round hK _ h2
theorem wpAnyIn_round (hd : ∀ (i : Nat) (o : Oper) c, ops[i]? = some o → o.op ≠ .defer c) : ∀ (fuel : Nat) (listed : Array Bool) (a : Act) (w : World), wpAnyIn F n P md ops Q fuel listed a w → wpAnyIn (F.inRound l) n P md ops Q fuel listed a w
  | 0, _, _, _, h => h
  | fuel + 1, listed, a, w, h => ⟨h.1, fun i hi => by
    have h2 := h.2 i hi
    unfold wpOpIn at h2 ⊢
    split
    · rename_i ho; simp only [ho] at h2; exact wpAnyIn_round hd fuel _ _ _ h2
    · rename_i o ho
      simp only [ho] at h2
      split
      · rename_i hw; simp only [hw, if_true] at h2; exact wpIn_round (fun c => hd i o c ho) (fun a w => wpAnyIn_round hd fuel _ a w) h2
      · rename_i hw; simp only [hw] at h2; exact ⟨h2.1, wpAnyIn_round hd fuel _ _ _ h2.2⟩⟩
theorem quiet_round {id : Nat} {a : Act} {w : World} {ls : List Oper} (hro : F.round = none) (hm : P.follows .mixedOrders = true) (hB : Region.lexB .any ls.toArray = true) (hs : Region.noDefer ls = true)
    (h : wpQuietIn F n P ls.toArray (fun w' => ∃ n, w' = w.drewN n) (fun a' => ∀ w', (∃ n, w' = w.drewN n) → Q .normal a' w') ls a) : (Code.region id ls.toArray true).wpIn (F.inRound l) n P Q a w := by
  simp only [Region.lexB, Bool.and_eq_true] at hB
  refine wpIn_region_any hm (wpAnyIn_round (fun i o c ho => noDefer_spec hs i o ho c) _ _ _ _ (wpAnyIn_of_quiet (C := fun w' => ∃ n, w' = w.drewN n) (Q := fun a' => ∀ w', (∃ n, w' = w.drewN n) → Q .normal a' w') hro (fun _ w' hw' h => h w' hw') _ _ _ _ ⟨1, rfl⟩ ?_))
  have := wpAnyQIn_lex (F := F) (n := n) (C := fun w' => ∃ n, w' = w.drewN n) (md := .any) hB.1 ls.toArray.toList 0 (Array.replicate ls.toArray.size false) a (by simp) (by simpa using hB.2) (by simpa using h)
  simpa using this
end
/-- the document's table: block rb -/
structure Rt (W : World) (rb : Nat) (A : Option Addr) (c : Nat) (Al : Option Addr) (cl : Nat) (B L : List Int) : Prop where
  blk : W.heap[rb]? = some (.cells #[.slice A B.length c, .slice Al L.length cl] 74 (0, 0))
  cap : B.length ≤ c
  C : Kd.C (Kd.int .u8) W A B.length B
  capL : L.length ≤ cl
  CL : Kd.C (Kd.int .i64) W Al L.length L
  tyB : ∀ ad, A = some ad → ∃ cs fr, W.heap[ad.block]? = some (.cells cs 5 fr)
  tyL : ∀ ad, Al = some ad → ∃ cs fr, W.heap[ad.block]? = some (.cells cs 3 fr)
theorem blk_ltF {w : World} {g : Nat} {cs : Array Value} {ty : TypeId} {fr : Nat × Nat} (h : w.heap[g]? = some (.cells cs ty fr)) : g < w.heap.size := (Array.getElem?_eq_some_iff.1 h).1
theorem ty_below {w W : World} {A : Option Addr} {e : TypeId} (h : ∀ ad, A = some ad → ∃ cs fr, w.heap[ad.block]? = some (.cells cs e fr)) (hb : Below w.heap.size w W) : ∀ ad, A = some ad → ∃ cs fr, W.heap[ad.block]? = some (.cells cs e fr) := fun ad ea => by
  obtain ⟨cs, fr, h⟩ := h ad ea
  exact ⟨cs, fr, (hb.block _ (blk_ltF h)).trans h⟩
theorem own_lo {w : World} {B n c : Nat} {e : TypeId} {A : Option Addr} {vs : List Value} (h : w.ownsRow B e 1 (.slice A n c) n vs) (ad : Addr) (ea : A = some ad) : B ≤ ad.block := by
  rcases own_rowAt h with ⟨ev, -, -⟩ | ⟨g, cap, cur, ev, hR⟩
  · injection ev with e1 _ _; rw [ea] at e1; cases e1
  · injection ev with e1 _ _; rw [ea] at e1; cases e1; exact hR.lo
theorem ty_own {w : World} {B n c : Nat} {e : TypeId} {A : Option Addr} {vs : List Value} (h : w.ownsRow B e 1 (.slice A n c) n vs) : ∀ ad, A = some ad → ∃ cs fr, w.heap[ad.block]? = some (.cells cs e fr) := fun ad ea => by
  rcases own_rowAt h with ⟨ev, -, -⟩ | ⟨g, cap, cur, ev, hR⟩
  · injection ev with e1 _ _; rw [ea] at e1; cases e1
  · injection ev with e1 _ _; rw [ea] at e1; cases e1; exact ⟨cur, _, hR.blk⟩
theorem Rt.below {W W' : World} {rb : Nat} {A : Option Addr} {c : Nat} {Al : Option Addr} {cl : Nat} {B L : List Int} (h : Rt W rb A c Al cl B L) (hb : Below W.heap.size W W') : Rt W' rb A c Al cl B L :=
  ⟨(hb.block _ (blk_lt h.blk)).trans h.blk, h.cap, Kd.C_below h.C hb, h.capL, Kd.C_below h.CL hb, ty_below h.tyB hb, ty_below h.tyL hb⟩
/-- between two rounds -/
structure PS (B : Nat) (W0 : World) (ga : Nat) (pre : List Int) (W : World) : Prop where
  ba : Boxed W ga 3 (.int .i64 pre.length)
  kp : ∀ k, k < W0.heap.size → k ≠ ga → W.heap[k]? = W0.heap[k]?
  be : Below B W0 W
theorem PS.own {B : Nat} {W0 : World} {ga : Nat} (hga : ga < W0.heap.size) (hb : B ≤ W0.heap.size) : OwnFrom W0.heap.size (PS B W0 ga) := fun pre W W' row hs hg hr => by
  refine ⟨hs.ba.kept hg fun e => ?_, fun k hk hk2 => (hg.block k (Nat.lt_of_lt_of_le hk hs.be.size) fun e => ?_).trans (hs.kp k hk hk2), hs.be.grown hg (Nat.le_trans hb hs.be.size) fun j e => Nat.le_trans hb (hr j e).1⟩
  · have := (hr ga e.symm).1; omega
  · have := (hr k e.symm).1; omega
theorem PS.step {B : Nat} {W0 : World} {ga : Nat} {pre : List Int} {W : World} (h : PS B W0 ga pre W) (x : Int) (hb : B ≤ ga) : PS B W0 ga (pre ++ [x]) (W.setCell ⟨ga, 0, none⟩ (.int .i64 ((pre.length + 1 : Nat) : Int))) := by
  have h1 := h.ba.set (.int .i64 ((pre.length + 1 : Nat) : Int))
  exact ⟨by rw [List.length_append]; exact h1, fun k hk hne => (Below.heap_setCell W ⟨ga, 0, none⟩ _ k hne).trans (h.kp k hk hne), h.be.setCell (p := ⟨ga, 0, none⟩) hb _⟩
theorem PS.drewN {B : Nat} {W0 : World} {ga : Nat} {pre : List Int} {W : World} (h : PS B W0 ga pre W) (q : Nat) : PS B W0 ga pre (W.drewN q) := ⟨h.ba, h.kp, pw_below_drewN h.be q⟩
theorem putB {B : Nat} {a w : World} (h : Below B a w) {D : Nat} (hD : B ≤ D) (o : Obj) : Below B a (w.putObj D o) :=
  ⟨h.os, h.tape, h.output, by simpa [World.putObj] using h.size, fun k hk => (World.putObj_heap_other (by omega)).trans (h.block k hk)⟩
theorem ko_drewN (W : World) (q : Nat) : KeepsOthers W (W.drewN q) := ⟨Nat.le_refl _, fun _ _ h _ => h⟩
structure QS (L : List Int) (c : Code) (pre : List Int) (W : World) : Prop where
  ex : c = Code.ret ∧ ∃ p0 x, pre = p0 ++ [x] ∧ L[p0.length]? ≠ some x
theorem QS.own {L : List Int} {B : Nat} (c : Code) : OwnFrom B (QS L c) := fun pre W W' row hs hg hr => ⟨hs.ex⟩
theorem rd_get' (L : List Int) (p : Nat) (hp : p < L.length) : L[p]? = some (rd L (p : Int)) := by
  unfold rd
  rw [List.getElem?_eq_getElem hp]
  simp [List.getD, hp]
/-- the world where the range begins -/
structure S0 (w W0 : World) (rb t ga : Nat) (v : Value) (ps : List (List Int)) (A : Option Addr) (c : Nat) (Al : Option Addr) (cl : Nat) (L : List Int) (C : Nat → Prop) (B0 : Nat) : Prop where
  tab : Tab_b B0 W0 t (fun g => C g ∧ g < w.heap.size) v ps
  bx : W0.heap[w.heap.size]? = some (.cells #[.pointer (some ⟨rb, 0, none⟩)] 27 (0, 0))
  rt : W0.heap[w.heap.size + 1]? = some (.cells #[.bool false] 4 (0, 0))
  at_ : W0.heap[ga]? = some (.cells #[.int .i64 0] 3 (0, 0))
  ref : Rt W0 rb A c Al cl ps.flatten L
  rl : rb < w.heap.size
  ga_ : ga = w.heap.size + 1 + 1
  lt : ga < W0.heap.size
  own : ∀ g, v.ownBlock = some g → g < w.heap.size
  ad : 0 < ps.flatten.length → ∀ a, A = some a → a.block < w.heap.size
  be : Below w.heap.size w W0
  bxc : W0.cell? ⟨w.heap.size + 1 + 1 + 1 + 1, 0, none⟩ = some (.pointer (some ⟨t, 0, none⟩))
theorem S0.start {w : World} {B0 rb t : Nat} {C : Nat → Prop} {v : Value} {ps : List (List Int)} {A : Option Addr} {c : Nat} {Al : Option Addr} {cl : Nat} {L : List Int} (h : Tab_b B0 w t C v ps) (hr : Rt w rb A c Al cl ps.flatten L) (q : Nat) :
    S0 w ((((((w.alloc (.cells #[.pointer (some ⟨rb, 0, none⟩)] 27)).alloc (.cells #[.bool false] 4)).drewN q).alloc (.cells #[.int .i64 0] 3)).alloc (.cells #[.pointer (some ⟨t, 0, none⟩)] 25)).alloc (.cells #[.pointer (some ⟨t, 0, none⟩)] 25)) rb t (w.heap.size + 1 + 1) v ps A c Al cl L C B0 := by
  have hbe : Below w.heap.size w ((((((w.alloc (.cells #[.pointer (some ⟨rb, 0, none⟩)] 27)).alloc (.cells #[.bool false] 4)).drewN q).alloc (.cells #[.int .i64 0] 3)).alloc (.cells #[.pointer (some ⟨t, 0, none⟩)] 25)).alloc (.cells #[.pointer (some ⟨t, 0, none⟩)] 25)) :=
    below_alloc (below_alloc (below_alloc (pw_below_drewN (below_alloc (below_alloc (Below.refl w.heap.size w) _) _) _) _) _) _
  have b1 := Boxed.new w 27 (.pointer (some ⟨rb, 0, none⟩))
  have b2 := Boxed.new (w.alloc (.cells #[.pointer (some ⟨rb, 0, none⟩)] 27)) 4 (.bool false)
  have b3 := Boxed.new (((w.alloc (.cells #[.pointer (some ⟨rb, 0, none⟩)] 27)).alloc (.cells #[.bool false] 4)).drewN q) 3 (.int .i64 0)
  have d1 : ∀ {b : Nat} {t : TypeId} {u : Value}, Boxed ((w.alloc (.cells #[.pointer (some ⟨rb, 0, none⟩)] 27)).alloc (.cells #[.bool false] 4)) b t u → Boxed (((w.alloc (.cells #[.pointer (some ⟨rb, 0, none⟩)] 27)).alloc (.cells #[.bool false] 4)).drewN q) b t u := fun h => h
  have s0 : (((w.alloc (.cells #[.pointer (some ⟨rb, 0, none⟩)] 27)).alloc (.cells #[.bool false] 4)).drewN q).heap.size = w.heap.size + 1 + 1 := by
    show ((w.alloc (.cells #[.pointer (some ⟨rb, 0, none⟩)] 27)).alloc (.cells #[.bool false] 4)).heap.size = _
    rw [World.size_alloc, World.size_alloc]
  rw [World.size_alloc] at b2
  rw [s0] at b3
  have hat := ((b3.alloc (.cells #[.pointer (some ⟨t, 0, none⟩)] 25)).alloc (.cells #[.pointer (some ⟨t, 0, none⟩)] 25))
  refine ⟨h.tight.below hbe, (((d1 (b1.alloc _)).alloc _).alloc _).alloc _, (((d1 b2).alloc _).alloc _).alloc _, hat, hr.below hbe, blk_lt hr.blk, rfl, hat.lt, fun g hg => (h.ownB g hg).2.1, fun h0 a e => C_lt_b hr.C h0 a e, hbe, ?_⟩
  have b5 := (Boxed.new (((((w.alloc (.cells #[.pointer (some ⟨rb, 0, none⟩)] 27)).alloc (.cells #[.bool false] 4)).drewN q).alloc (.cells #[.int .i64 0] 3)).alloc (.cells #[.pointer (some ⟨t, 0, none⟩)] 25)) 25 (.pointer (some ⟨t, 0, none⟩))).cell
  rw [World.size_alloc, World.size_alloc, s0] at b5
  exact b5
theorem beq_selfI (n : Int) : (n == n) = true := by simp
set_option maxRecDepth 100000 in
set_option maxHeartbeats 4000000 in
theorem same_calls {w : World} {B0 rb t : Nat} {C : Nat → Prop} {v : Value} {ps : List (List Int)} {A : Option Addr} {c : Nat} {Al : Option Addr} {cl : Nat} {L : List Int} (h : Tab_b B0 w t C v ps) (hr : Rt w rb A c Al cl ps.flatten L) (hL : L.length = ps.length) (hs : ps.flatten.length ≤ 4000000) :
    Calls Try.prog 15 #[.pointer (some ⟨t, 0, none⟩), .pointer (some ⟨rb, 0, none⟩)] w fun e w' => e = .returned (.bool true) ∧ Below w.heap.size w w' := by
  have HT := Aside0.mk h
  have HRT := Aside0.mk hr
  obtain ⟨N, hN⟩ : ∃ N, ps.flatten.length = N := ⟨_, rfl⟩
  obtain ⟨m, hm⟩ : ∃ m, ps.length = m := ⟨_, rfl⟩
  have HS := Aside0.mk hs
  have HN := Aside0.mk hN
  have HM := Aside0.mk hm
  have hbe2 := below_alloc (below_alloc (Below.refl w.heap.size w) (.cells #[.pointer (some ⟨rb, 0, none⟩)] 27)) (.cells #[.bool false] 4)
  have HB2 := Aside0.mk hbe2
  have hk := (hbe2.block rb (blk_lt hr.blk)).trans hr.blk
  rw [hN, hL, hm] at hk
  have hc0 := blk_cell hk 0
  have hc1 := blk_cell hk 1
  simp at hc0 hc1
  have n1 : ((N : Int) != (N : Int)) = false := by simp
  have n2 : ((m : Int) != (m : Int)) = false := by simp
  have hfn : ∀ (W : World) (q : Nat) (c : Array Value), (binOp .eql 67 (.func (.func q) #[] c) .nilFunc).run Try.prog W = .ok (.bool false) W := fun W q c => by kernel_rfl
  clear h hr hs hN hm hbe2 hk
  refine (callsIn_wide (n := 4)).1 ?_
  refine callsIn_of_wp_marks Try.func15 rfl trivial ?_ rfl
  refine wpIn_wide.2 ?_
  simp only [Try.ntmps15, List.size_toArray, List.length_cons, List.length_nil, Nat.reduceAdd, Nat.reduceSub, Array.replicate_succ, Array.replicate_zero, List.push_toArray, List.append_toArray, List.nil_append, List.cons_append]
  go_upto_region 1 with (fail)
  refine calm_way' ?_
  go_quiet (first
    | (go_at_call 25; refine Calls.quiet_of_same ((len_calls_b (HT.out.below (pw_below_drewN HB2.out _)) (by have := HS.out; omega) N HN.out).mono fun e w' hh => ⟨hh.1, hh.2.symm⟩))
    | (go_at_call 26; refine Calls.quiet_of_same ((pieces_calls_b (HT.out.below (pw_below_drewN HB2.out _))).mono fun e w' hh => ⟨by rw [hh.1, HM.out], hh.2.symm⟩)))
  go_wp2_with (go_at_call 35; (with_reducible refine (all_calls_b t _).mono ?_); rintro e w' ⟨rfl, rfl⟩)
  have hS := Aside0.mk (S0.start HT.out HRT.out nq)
  generalize ((((((w.alloc (.cells #[.pointer (some ⟨rb, 0, none⟩)] 27)).alloc (.cells #[.bool false] 4)).drewN nq).alloc (.cells #[.int .i64 0] 3)).alloc (.cells #[.pointer (some ⟨t, 0, none⟩)] 25)).alloc (.cells #[.pointer (some ⟨t, 0, none⟩)] 25)) = W0 at hS ⊢
  have hbW : w.heap.size ≤ W0.heap.size := hS.out.be.size
  have HBW := Aside0.mk hbW
  have FT := Aside0.mk (fun g (hg : Foot W0 (fun g => C g ∧ g < w.heap.size) v g) => (show g < w.heap.size from by rcases hg.2 with e | e; exact hS.out.own g e; exact e.2))
  have hkeep : ∀ {W W' : World}, (∀ k, k < W0.heap.size → k ≠ w.heap.size + 1 + 1 → W.heap[k]? = W0.heap[k]?) → (∀ k, k < W0.heap.size → k ≠ w.heap.size + 1 + 1 → W'.heap[k]? = W0.heap[k]?) → Keep (Foot W0 (fun g => C g ∧ g < w.heap.size) v) W W' := fun {W W'} h1 h2 g hg => by
    have h3 := FT.out g hg
    exact (h2 g (by omega) (by omega)).trans (h1 g (by omega) (by omega)).symm
  have HKP := Aside0.mk @hkeep
  clear hkeep hc0 hc1 n1 n2
  refine (wpIn_wide (n := 4)).1 ?_
  refine wpIn_rangeFunc_ownG rfl (by decide) (gf := 48) (lb := #[.pointer (some ⟨w.heap.size + 1 + 1 + 1 + 1, 0, none⟩)]) rfl trivial (enters_of Try.func48 (by kernel_rfl) rfl)
    (all_stops_b hS.out.tab (by have := HS.out; omega) _ hS.out.bxc) Keep.trans (fun W l o o' hl _ _ _ g hg => World.putObj_heap_other (by have := FT.out g hg; omega)) (Below.refl _ _) (fun _ => rfl)
    (fun pre W => PS w.heap.size W0 (w.heap.size + 1 + 1) pre W) (fun c pre W => QS ps.flatten c pre W) (PS.own hS.out.lt hbW) (fun c => QS.own c) ⟨hS.out.at_, fun _ _ _ => rfl, Below.refl _ _⟩ ?a1 ?assign ?body ?done ?stop
  case assign =>
    intro l x W K hK
    gi_wp2
    exact hK
  case body =>
    rintro l' pre x W hI hlen
    obtain ⟨p, hp⟩ : ∃ p, pre.length = p := ⟨_, rfl⟩
    have hget := rd_get' ps.flatten p (by rw [← hp]; exact hlen)
    have hlp : p < ps.flatten.length := by rw [← hp]; exact hlen
    rw [HN.out] at hlp
    have hba := hI.ba
    rw [hp] at hba
    have hca := hba.cell
    have hfa := hba.frozen
    have z1 := hS.out.lt
    have z2 := hS.out.rl
    have hrf := (hI.kp rb (by omega) (by omega)).trans hS.out.ref.blk
    rw [HN.out] at hrf
    have hcb := blk_cell hrf 0
    have hcx := blk_cell ((hI.kp w.heap.size (by omega) (by omega)).trans hS.out.bx) 0
    have hrt := (hI.kp (w.heap.size + 1) (by omega) (by omega)).trans hS.out.rt
    have hcr := blk_cell hrt 0
    have hfr := blk_frozen hrt 0
    simp at hcb hcx hcr
    have hCW : Kd.C (Kd.int .u8) W A ps.flatten.length ps.flatten := C_mv_b hS.out.ref.C fun h0 ad e _ => hI.kp _ (by have := hS.out.ad h0 ad e; omega) (by have := hS.out.ad h0 ad e; omega)
    rw [HN.out] at hCW
    obtain ⟨ad, hA, hcell⟩ := Kd.at_int hCW (p : Int) (by omega) (by omega)
    simp only [Int.toNat_natCast] at hcell
    obtain ⟨y, hy⟩ : ∃ y, rd ps.flatten (p : Int) = y := ⟨_, rfl⟩
    rw [hy] at hcell hget
    rw [hA] at hcb
    have HP := Aside0.mk hp
    have HI := Aside0.mk hI
    have HGET := Aside0.mk hget
    have t2 : decide (N ≤ p) = false := decide_eq_false (by omega)
    have i1 : (p : Int) < (N : Int) := by omega
    have i0 : (0 : Int) ≤ (p : Int) := by omega
    have hw1 : wrap64 ((p : Int) + 1) = ((p + 1 : Nat) : Int) := by have := HS.out; have := HN.out; unfold wrap64; omega
    clear hCW hrt hI hba z1 z2 hy hget hp hrf hlen hlp
    by_cases hxy : x = y
    · have e10 : (x != y) = false := by simp [hxy]
      clear hxy
      gi_upto_region 8 with (fail)
      refine quiet_round (F := Fence.wide) rfl (by kernel_rfl) (by kernel_rfl) (by kernel_rfl) ?_
      repeat (gi_big_quiet_step (fail))
      refine wpQuietIn_nil ?_
      intro _ hw'
      obtain ⟨nq, hw''⟩ := hw'
      subst hw''
      gi_wp2
      have hst := (HI.out.drewN nq).step x (by omega)
      rw [HP.out] at hst
      rw [hw1]
      exact ⟨((ko_drewN W nq).trans (KeepsOthers.setCell _ _ _)).from _, HKP.out HI.out.kp hst.kp, hst⟩
    · have e10 : (x != y) = true := by simpa using hxy
      have HXY := Aside0.mk hxy
      clear hxy
      gi_upto_region 8 with (fail)
      refine quiet_round (F := Fence.wide) rfl (by kernel_rfl) (by kernel_rfl) (by kernel_rfl) ?_
      repeat (gi_big_quiet_step (fail))
      refine wpQuietIn_nil ?_
      intro _ hw'
      obtain ⟨nq, hw''⟩ := hw'
      subst hw''
      gi_wp2
      refine ⟨((ko_drewN W nq).trans (KeepsOthers.setCell _ _ _)).from _, ⟨rfl, pre, x, rfl, ?_⟩⟩
      rw [HP.out, HGET.out]
      intro e; exact HXY.out (Option.some.inj e).symm
  case done =>
    intro D ys W hD hys hI hDef
    have hba := hI.ba
    rw [hys, HN.out] at hba
    have z1 := hS.out.lt
    have z2 := hS.out.rl
    have hca := hba.cell
    have hrf := (hI.kp rb (by omega) (by omega)).trans hS.out.ref.blk
    rw [HN.out] at hrf
    have hcb := blk_cell hrf 0
    have hcx := blk_cell ((hI.kp w.heap.size (by omega) (by omega)).trans hS.out.bx) 0
    have hrt := (hI.kp (w.heap.size + 1) (by omega) (by omega)).trans hS.out.rt
    have hcr := blk_cell hrt 0
    have hfr := blk_frozen hrt 0
    simp at hcb hcx hcr
    have e9 : ((N : Int) == (N : Int)) = true := beq_selfI _
    have BEW := Aside0.mk (hS.out.be.trans hI.be)
    have HRTW := Aside0.mk hrt
    have HD := Aside0.mk hD
    have HDef := Aside0.mk hDef
    have HL1 := Aside0.mk (show w.heap.size + 1 < W0.heap.size by omega)
    clear hys hI hba z1 z2 hrf hrt hD hDef
    go_upto_region 11 with (fail)
    refine calm_way' ?_
    go_region
    go_wp2
    have hDb : D ≠ w.heap.size + 1 := by have := HD.out; have := HL1.out; omega
    have e2 := (Below.heap_setCell W.drew ⟨w.heap.size + 1, 0, none⟩ (.bool true) D hDb).trans HDef.out
    have hset := blk_set (show W.drew.heap[w.heap.size + 1]? = _ from HRTW.out) 0 (.bool true)
    refine ⟨by simp, .inl ⟨_, _, rfl, run_takeDeferred e2, ?_⟩⟩
    refine ⟨_, results_bool (b := true) rfl rfl ((blk_cell ((World.putObj_heap_other (by omega)).trans hset) 0).trans rfl), rfl, ?_⟩
    exact putB ((below_drew BEW.out).setCell (p := ⟨w.heap.size + 1, 0, none⟩) (Nat.le_succ _) _) (Nat.le_trans HBW.out HD.out) _
  case stop =>
    rintro D cd pre W hD hpre hQ hDef
    obtain ⟨rfl, p0, x, rfl, hne⟩ := hQ.ex
    exfalso
    obtain ⟨r, hr⟩ := hpre
    exact hne (by rw [← hr]; simp)
end Go.Proofs.Ytfedlanbmibhkaa.P
/- The document's table: New, Slice. -/
namespace Go.Proofs.Ytfedlanbmibhkaa.P
open Go.RowKit Go.Shelf Go.Proofs.YtfedlanbmibhkaaW.PrintWords Go.Proofs.YtfedlanbmibhkaaW.PrintLast Go.Proofs.YtfedlanbmibhkaaW.PrintMore
set_option linter.unusedVariables false
set_option linter.unusedSimpArgs false
theorem copy_up {w : World} {A : Option Addr} {c n : Nat} {xs : List Int} (hC : Kd.C (Kd.int .u8) w A n xs) (hl : xs.length = n) (hc : n ≤ c) (hn : n ≤ 4000000) :
    Calls Try.prog 12 #[.slice A n c] w fun e w' => ∃ v, e = .returned v ∧ w'.ownsRow w.heap.size 5 1 v n (nums .u8 xs) ∧ Below w.heap.size w w' := by
  subst hl
  refine (colophonref00_CopyBytes.calls A c xs xs w hC hc (by unfold colophonref00_CopyBytes.f; rw [if_pos (by simp only [List.length_nil]; omega)]; rfl)).mono ?_
  rintro e w' ⟨v, rfl, h1, h2⟩
  exact ⟨v, rfl, Kd.own_of_R (enc := Value.int .u8) (h1 := fun _ => rfl) h1, h2⟩
theorem own_bytes {w1 W : World} {B n c : Nat} {A : Option Addr} {l : List Int} (h : w1.ownsRow B 5 1 (.slice A n c) n (nums .u8 l)) (hl : l.length = n) (hb : Below w1.heap.size w1 W) : n ≤ c ∧ Kd.C (Kd.int .u8) W A n l := by
  subst hl
  obtain ⟨A', c', e, hC, _⟩ := own_C_b h
  injection e with e1 e2 e3
  subst e1; subst e3
  refine ⟨?_, Kd.C_below hC hb⟩
  rcases own_rowAt h with ⟨e, h0, -⟩ | ⟨g, cap, cur, e, hR⟩
  · injection e with _ e2 _; omega
  · injection e with _ _ e3; subst e3; exact hR.nc
set_option maxRecDepth 100000 in
set_option maxHeartbeats 4000000 in
theorem new14_calls {w : World} {A : Option Addr} {n c : Nat} {l : List Int} (hn : l.length = n) (hr : Kd.C (Kd.int .u8) w A n l) (hc : n ≤ c) (hl : n ≤ 4000000) :
    Calls Try.prog 14 #[.slice A n c] w fun e w' => ∃ rb Ab cb Al cl, e = .returned (.pointer (some ⟨rb, 0, none⟩)) ∧ Rt w' rb Ab cb Al cl l (if 0 < n then [(n : Int)] else []) ∧ Below w.heap.size w w' ∧ w.heap.size ≤ rb ∧ ∀ ad, Ab = some ad → w.heap.size ≤ ad.block := by
  subst hn
  have HR := Aside0.mk hr
  have HL := Aside0.mk hl
  have HC := Aside0.mk hc
  obtain ⟨n, hn⟩ : ∃ n, l.length = n := ⟨_, rfl⟩
  have HN := Aside0.mk hn
  rw [hn] at HR HL HC ⊢
  clear hr hl hc hn
  by_cases h0 : 0 < n
  · have t1 : decide (0 < n) = true := decide_eq_true h0
    have H0 := Aside0.mk h0
    rw [if_pos h0]
    clear h0
    go_enter Try.func14, Try.ntmps14
    go_wp2_with (go_at_call 12; (with_reducible refine (copy_up HR.out HN.out HC.out HL.out).mono ?_); rintro e w1 ⟨v1, rfl, o_, b_⟩; obtain ⟨A1, c1, rfl⟩ := own_slice o_; have O1 := Aside0.mk o_; have B1 := Aside0.mk b_; clear o_ b_)
    go_ret
    have hb := below_alloc (below_alloc (Below.refl w1.heap.size w1) (.cells #[.slice A1 n c1, .slice (some ⟨w1.heap.size + 1, 0, none⟩) 1 1] 74)) (.cells #[.int .i64 n] 3)
    have h1 := heap_alloc_new w1 (.cells #[.slice A1 n c1, .slice (some ⟨w1.heap.size + 1, 0, none⟩) 1 1] 74)
    have h2 := heap_alloc_new (w1.alloc (.cells #[.slice A1 n c1, .slice (some ⟨w1.heap.size + 1, 0, none⟩) 1 1] 74)) (.cells #[.int .i64 n] 3)
    rw [World.size_alloc] at h2
    obtain ⟨z1, z2⟩ := own_bytes O1.out HN.out hb
    refine ⟨w1.heap.size, A1, c1, some ⟨w1.heap.size + 1, 0, none⟩, 1, rfl, ⟨?_, by rw [HN.out]; exact z1, by rw [HN.out]; exact z2, Nat.le_refl _, C_lit_i h2 (by simp) (fun j x hx => ?_), ty_below (ty_own O1.out) hb, fun ad ea => ?_⟩, below_step B1.out hb, B1.out.size, fun ad ea => own_lo O1.out ad ea⟩
    · rw [HN.out]; exact (Below.heap_alloc _ _ _ (by simp)).trans h1
    · cases j with
      | zero => cases hx; rfl
      | succ j => cases hx
    · cases ea; exact ⟨_, _, h2⟩
  · have t1 : decide (0 < n) = false := decide_eq_false h0
    have H0 := Aside0.mk h0
    rw [if_neg h0]
    clear h0
    go_enter Try.func14, Try.ntmps14
    go_wp2_with (go_at_call 12; (with_reducible refine (copy_up HR.out HN.out HC.out HL.out).mono ?_); rintro e w1 ⟨v1, rfl, o_, b_⟩; obtain ⟨A1, c1, rfl⟩ := own_slice o_; have O1 := Aside0.mk o_; have B1 := Aside0.mk b_; clear o_ b_)
    go_ret
    have hb := below_alloc (Below.refl w1.heap.size w1) (.cells #[.slice A1 n c1, .slice none 0 0] 74)
    have h1 := heap_alloc_new w1 (.cells #[.slice A1 n c1, .slice none 0 0] 74)
    obtain ⟨z1, z2⟩ := own_bytes O1.out HN.out hb
    exact ⟨w1.heap.size, A1, c1, none, 0, rfl, ⟨by rw [HN.out]; exact h1, by rw [HN.out]; exact z1, by rw [HN.out]; exact z2, Nat.le_refl _, C_nil_i _ _, ty_below (ty_own O1.out) hb, fun ad ea => by cases ea⟩, below_step B1.out hb, B1.out.size, fun ad ea => own_lo O1.out ad ea⟩
end Go.Proofs.Ytfedlanbmibhkaa.P
/- The document's table: Slice. -/
namespace Go.Proofs.Ytfedlanbmibhkaa.P
open Go.RowKit Go.Shelf Go.Proofs.YtfedlanbmibhkaaW.PrintWords Go.Proofs.YtfedlanbmibhkaaW.PrintLast Go.Proofs.YtfedlanbmibhkaaW.PrintMore
set_option linter.unusedVariables false
set_option linter.unusedSimpArgs false
set_option maxRecDepth 100000 in
set_option maxHeartbeats 4000000 in
theorem slice14_no {W : World} {rb : Nat} {A : Option Addr} {c : Nat} {Al : Option Addr} {cl : Nat} {B L : List Int} (h : Rt W rb A c Al cl B L) (f k : Int) (hbad : ¬ (0 ≤ f ∧ f ≤ k ∧ k ≤ (B.length : Int))) :
    Calls Try.prog 23 #[.pointer (some ⟨rb, 0, none⟩), .int .i64 f, .int .i64 k] W fun e w' => e = .returned (.tuple #[.slice none 0 0, .int .i64 9]) ∧ W = w' := by
  have hc0 := blk_cell h.blk 0
  simp at hc0
  obtain ⟨n, hn⟩ : ∃ n, B.length = n := ⟨_, rfl⟩
  rw [hn] at hc0 hbad
  clear h hn
  by_cases h1 : f < 0
  · have e1 : decide (f < 0) = true := decide_eq_true h1
    clear hbad
    go_enter Try.func23, Try.ntmps23
    go_wp2
    go_ret2
    exact ⟨rfl, rfl⟩
  · have e1 : decide (f < 0) = false := decide_eq_false h1
    by_cases h2 : k < f
    · have e2 : decide (k < f) = true := decide_eq_true h2
      clear hbad
      go_enter Try.func23, Try.ntmps23
      go_wp2
      go_ret2
      exact ⟨rfl, rfl⟩
    · have e2 : decide (k < f) = false := decide_eq_false h2
      have e3 : decide ((n : Int) < k) = true := decide_eq_true (by omega)
      clear hbad
      go_enter Try.func23, Try.ntmps23
      go_wp2
      go_ret2
      exact ⟨rfl, rfl⟩
set_option maxRecDepth 100000 in
set_option maxHeartbeats 4000000 in
theorem slice14 {W : World} {rb : Nat} {A : Option Addr} {c : Nat} {Al : Option Addr} {cl : Nat} {B L : List Int} (h : Rt W rb A c Al cl B L) (f k : Nat) (hfk : f ≤ k) (hk : k ≤ B.length) (hb : B.length ≤ 4000000) (x : List Int) (xn : Nat) (hx : (B.take k).drop f = x) (hxn : x.length = xn) :
    Calls Try.prog 23 #[.pointer (some ⟨rb, 0, none⟩), .int .i64 f, .int .i64 k] W fun e w' => ∃ Ax cx, e = .returned (.tuple #[.slice Ax xn cx, .int .i64 0]) ∧ w'.ownsRow W.heap.size 5 1 (.slice Ax xn cx) xn (nums .u8 x) ∧ Below W.heap.size W w' := by
  obtain ⟨i0, hi0, hz0, hz1, hz2⟩ := info_parts infoe_b
  obtain ⟨A', h1, h2, h3⟩ := print_mid_of (P := Try.prog) (Value.int .u8) (0 : Int) 22 5 .i64 .i64 Try.underlying22 hi0 hz1 A c B (f : Int) (k : Int) (by omega) (by omega) (by omega) h.cap
  have hC := Kd.C_of_reads (h1 := fun _ => rfl) (h2 W (Kd.reads_of_C (enc := Value.int .u8) (d := (0 : Int)) (h1 := fun _ => rfl) h.C))
  simp only [Int.toNat_natCast] at h1 h3 hC
  rw [hx, hxn] at h1 h3 hC
  have hl : xn ≤ 4000000 := by rw [← hxn, ← hx, List.length_drop, List.length_take]; omega
  have hc0 := blk_cell h.blk 0
  simp at hc0
  obtain ⟨n, hn⟩ : ∃ n, B.length = n := ⟨_, rfl⟩
  rw [hn] at hc0 hk h1
  have HC := Aside0.mk (show Kd.C (Kd.int .u8) W A' xn x from hC)
  have HX := Aside0.mk hxn
  have H3 := Aside0.mk h3
  have HL := Aside0.mk hl
  have e1 : decide ((f : Int) < 0) = false := decide_eq_false (by omega)
  have e2 : decide (k < f) = false := decide_eq_false (by omega)
  have e3 : decide (n < k) = false := decide_eq_false (by omega)
  clear h h2 h3 hC hl hi0 hz0 hz1 hz2 hfk hk hn hx hxn
  go_enter Try.func23, Try.ntmps23
  go_wp2_with (go_at_call 12; (with_reducible refine (copy_up HC.out HX.out H3.out HL.out).mono ?_); rintro e w1 ⟨v1, rfl, o_, b_⟩; obtain ⟨A1, c1, rfl⟩ := own_slice o_; have O1 := Aside0.mk o_; have B1 := Aside0.mk b_; clear o_ b_)
  go_ret2
  exact ⟨A1, c1, rfl, O1.out, B1.out⟩
end Go.Proofs.Ytfedlanbmibhkaa.P
/- The document's table: Snap. -/
namespace Go.Proofs.Ytfedlanbmibhkaa.P
open Go.RowKit Go.Shelf Go.Proofs.YtfedlanbmibhkaaW.PrintWords Go.Proofs.YtfedlanbmibhkaaW.PrintLast Go.Proofs.YtfedlanbmibhkaaW.PrintMore
set_option linter.unusedVariables false
set_option linter.unusedSimpArgs false
theorem own_ints {w1 W : World} {B n c : Nat} {A : Option Addr} {l : List Int} (h : w1.ownsRow B 3 1 (.slice A n c) n (nums .i64 l)) (hl : l.length = n) (hb : Below w1.heap.size w1 W) : n ≤ c ∧ Kd.C (Kd.int .i64) W A n l := by
  subst hl
  obtain ⟨A', c', e, hC, _⟩ := own_C_i h
  injection e with e1 e2 e3
  subst e1; subst e3
  refine ⟨?_, Kd.C_below hC hb⟩
  rcases own_rowAt h with ⟨e, h0, -⟩ | ⟨g, cap, cur, e, hR⟩
  · injection e with _ e2 _; omega
  · injection e with _ _ e3; subst e3; exact hR.nc
set_option maxRecDepth 100000 in
set_option maxHeartbeats 4000000 in
theorem snap14 {W : World} {rb : Nat} {A : Option Addr} {c : Nat} {Al : Option Addr} {cl : Nat} {B L : List Int} (h : Rt W rb A c Al cl B L) (hb : B.length ≤ 4000000) (hl : L.length ≤ 1000000) :
    Calls Try.prog 18 #[.pointer (some ⟨rb, 0, none⟩)] W fun e w' => ∃ rb2 A2 c2 Al2 cl2, e = .returned (.pointer (some ⟨rb2, 0, none⟩)) ∧ Rt w' rb2 A2 c2 Al2 cl2 B L ∧ Below W.heap.size W w' ∧ W.heap.size ≤ rb2 ∧ ∀ ad, A2 = some ad → W.heap.size ≤ ad.block := by
  have hc0 := blk_cell h.blk 0
  have hc1 := blk_cell h.blk 1
  simp at hc0 hc1
  obtain ⟨n, hn⟩ : ∃ n, B.length = n := ⟨_, rfl⟩
  obtain ⟨m, hm⟩ : ∃ m, L.length = m := ⟨_, rfl⟩
  have HB := Aside0.mk h.blk
  have HC := Aside0.mk h.C
  have HCL := Aside0.mk h.CL
  have HP := Aside0.mk h.cap
  have HPL := Aside0.mk h.capL
  have HN := Aside0.mk hn
  have HM := Aside0.mk hm
  have H1 := Aside0.mk hb
  have H2 := Aside0.mk hl
  rw [hn] at hc0 HC HP H1
  rw [hm] at hc1 HCL HPL H2
  clear h hb hl hn hm
  go_enter Try.func18, Try.ntmps18
  go_upto_region 1 with (fail)
  refine calm_way' ?_
  refine wp_region_held_drew (S := fun W' => Below W.heap.size W W') (by kernel_rfl) (below_drew (Below.refl _ _)) (fun hS0 => ?_)
  have hS0 : Below W.heap.size W W.drew := hS0
  generalize W.drew = wd at hS0 ⊢
  (refine wpAnyH_take (i := 0) (v := ?_) rfl (by kernel_rfl) (by kernel_rfl) (by kernel_rfl) (fun _ _ _ h => h) (Or.inl ⟨by rfl, ?_⟩) (by assumption) ?_; rotate_left; (focus (intro w_ hSw; have e0_ := (hSw.cell (p := ⟨rb, 0, none⟩) (blk_lt HB.out)).trans hc0; have e1_ := (hSw.cell (p := ⟨rb, 1, none⟩) (blk_lt HB.out)).trans hc1; clear hSw; go_simp; try with_reducible rfl)); (try simp only [List.getElem_toArray, List.getElem_cons_zero, List.getElem_cons_succ, Act.put, List.setIfInBounds_toArray, List.set_cons_zero, List.set_cons_succ]))
  (refine wpAnyH_take (i := 1) (v := ?_) rfl (by kernel_rfl) (by kernel_rfl) (by kernel_rfl) (fun _ _ _ h => h) (Or.inl ⟨by rfl, ?_⟩) (by assumption) ?_; rotate_left; (focus (intro w_ hSw; have e0_ := (hSw.cell (p := ⟨rb, 0, none⟩) (blk_lt HB.out)).trans hc0; have e1_ := (hSw.cell (p := ⟨rb, 1, none⟩) (blk_lt HB.out)).trans hc1; clear hSw; go_simp; try with_reducible rfl)); (try simp only [List.getElem_toArray, List.getElem_cons_zero, List.getElem_cons_succ, Act.put, List.setIfInBounds_toArray, List.set_cons_zero, List.set_cons_succ]))
  (refine wpAnyH_take (i := 2) (v := ?_) rfl (by kernel_rfl) (by kernel_rfl) (by kernel_rfl) (fun _ _ _ h => h) (Or.inl ⟨by rfl, ?_⟩) (by assumption) ?_; rotate_left; (focus (intro w_ hSw; have e0_ := (hSw.cell (p := ⟨rb, 0, none⟩) (blk_lt HB.out)).trans hc0; have e1_ := (hSw.cell (p := ⟨rb, 1, none⟩) (blk_lt HB.out)).trans hc1; clear hSw; go_simp; try with_reducible rfl)); (try simp only [List.getElem_toArray, List.getElem_cons_zero, List.getElem_cons_succ, Act.put, List.setIfInBounds_toArray, List.set_cons_zero, List.set_cons_succ]))
  (refine wpAnyH_take (i := 3) (v := ?_) rfl (by kernel_rfl) (by kernel_rfl) (by kernel_rfl) (fun _ _ _ h => h) (Or.inl ⟨by rfl, ?_⟩) (by assumption) ?_; rotate_left; (focus (intro w_ hSw; have e0_ := (hSw.cell (p := ⟨rb, 0, none⟩) (blk_lt HB.out)).trans hc0; have e1_ := (hSw.cell (p := ⟨rb, 1, none⟩) (blk_lt HB.out)).trans hc1; clear hSw; go_simp; try with_reducible rfl)); (try simp only [List.getElem_toArray, List.getElem_cons_zero, List.getElem_cons_succ, Act.put, List.setIfInBounds_toArray, List.set_cons_zero, List.set_cons_succ]))
  (refine wpAnyH_take (i := 5) (v := ?_) rfl (by kernel_rfl) (by kernel_rfl) (by kernel_rfl) (fun _ _ _ h => h) (Or.inl ⟨by rfl, ?_⟩) (by assumption) ?_; rotate_left; (focus (intro w_ hSw; have e0_ := (hSw.cell (p := ⟨rb, 0, none⟩) (blk_lt HB.out)).trans hc0; have e1_ := (hSw.cell (p := ⟨rb, 1, none⟩) (blk_lt HB.out)).trans hc1; clear hSw; go_simp; try with_reducible rfl)); (try simp only [List.getElem_toArray, List.getElem_cons_zero, List.getElem_cons_succ, Act.put, List.setIfInBounds_toArray, List.set_cons_zero, List.set_cons_succ]))
  (refine wpAnyH_take (i := 6) (v := ?_) rfl (by kernel_rfl) (by kernel_rfl) (by kernel_rfl) (fun _ _ _ h => h) (Or.inl ⟨by rfl, ?_⟩) (by assumption) ?_; rotate_left; (focus (intro w_ hSw; have e0_ := (hSw.cell (p := ⟨rb, 0, none⟩) (blk_lt HB.out)).trans hc0; have e1_ := (hSw.cell (p := ⟨rb, 1, none⟩) (blk_lt HB.out)).trans hc1; clear hSw; go_simp; try with_reducible rfl)); (try simp only [List.getElem_toArray, List.getElem_cons_zero, List.getElem_cons_succ, Act.put, List.setIfInBounds_toArray, List.set_cons_zero, List.set_cons_succ]))
  (refine wpAnyH_take (i := 7) (v := ?_) rfl (by kernel_rfl) (by kernel_rfl) (by kernel_rfl) (fun _ _ _ h => h) (Or.inl ⟨by rfl, ?_⟩) (by assumption) ?_; rotate_left; (focus (intro w_ hSw; have e0_ := (hSw.cell (p := ⟨rb, 0, none⟩) (blk_lt HB.out)).trans hc0; have e1_ := (hSw.cell (p := ⟨rb, 1, none⟩) (blk_lt HB.out)).trans hc1; clear hSw; go_simp; try with_reducible rfl)); (try simp only [List.getElem_toArray, List.getElem_cons_zero, List.getElem_cons_succ, Act.put, List.setIfInBounds_toArray, List.set_cons_zero, List.set_cons_succ]))
  (refine wpAnyH_take (i := 8) (v := ?_) rfl (by kernel_rfl) (by kernel_rfl) (by kernel_rfl) (fun _ _ _ h => h) (Or.inl ⟨by rfl, ?_⟩) (by assumption) ?_; rotate_left; (focus (intro w_ hSw; have e0_ := (hSw.cell (p := ⟨rb, 0, none⟩) (blk_lt HB.out)).trans hc0; have e1_ := (hSw.cell (p := ⟨rb, 1, none⟩) (blk_lt HB.out)).trans hc1; clear hSw; go_simp; try with_reducible rfl)); (try simp only [List.getElem_toArray, List.getElem_cons_zero, List.getElem_cons_succ, Act.put, List.setIfInBounds_toArray, List.set_cons_zero, List.set_cons_succ]))
  refine wpAnyH_ready (rs := [4]) (by decide +kernel) (by simp) ?_
  refine AllReadyH.cons rfl (fun K hK => ?_) AllReadyH.nil
  refine step_of rfl ?_
  (go_simp; go_at_call 12; (with_reducible refine (copy_up (Kd.C_below HC.out hS0) HN.out HP.out H1.out).mono ?_); rintro e w1 ⟨v1, rfl, o_, b_⟩; obtain ⟨A1, c1, rfl⟩ := own_slice o_; have O1 := Aside0.mk o_; have B1 := Aside0.mk (below_step hS0 b_); clear o_ b_; refine hK.out _ _ B1.out (fun hS1 => ?_); clear hK K; (try simp only [List.getElem_toArray, List.getElem_cons_zero, List.getElem_cons_succ, Act.put, List.setIfInBounds_toArray, List.set_cons_zero, List.set_cons_succ]))
  refine wpAnyH_ready (rs := [9]) (by decide +kernel) (by simp) ?_
  refine AllReadyH.cons rfl (fun K hK => ?_) AllReadyH.nil
  refine step_of rfl ?_
  (go_simp; go_at_call 30; (with_reducible refine (copy_for_i (Kd.C_below HCL.out B1.out) HM.out HPL.out H2.out).mono ?_); rintro e w2 ⟨v2, rfl, o_, b_⟩; obtain ⟨A2, c2, rfl⟩ := own_slice o_; have O2 := Aside0.mk o_; have B12 := Aside0.mk b_; have B2 := Aside0.mk (below_step B1.out b_); clear o_ b_; refine hK.out _ _ B2.out (fun hS1 => ?_); clear hK K; (try simp only [List.getElem_toArray, List.getElem_cons_zero, List.getElem_cons_succ, Act.put, List.setIfInBounds_toArray, List.set_cons_zero, List.set_cons_succ]))
  (refine wpAnyH_take (i := 10) (v := ?_) rfl (by kernel_rfl) (by kernel_rfl) (by kernel_rfl) (fun _ _ _ h => h) (Or.inl ⟨by rfl, ?_⟩) (by assumption) ?_; rotate_left; (focus (intro w_ hSw; have e0_ := (hSw.cell (p := ⟨rb, 0, none⟩) (blk_lt HB.out)).trans hc0; have e1_ := (hSw.cell (p := ⟨rb, 1, none⟩) (blk_lt HB.out)).trans hc1; clear hSw; go_simp; try with_reducible rfl)); (try simp only [List.getElem_toArray, List.getElem_cons_zero, List.getElem_cons_succ, Act.put, List.setIfInBounds_toArray, List.set_cons_zero, List.set_cons_succ]))
  refine wpAnyH_ready (rs := [11]) (by decide +kernel) (by simp) ?_
  refine AllReadyH.cons rfl (fun K hK => ?_) AllReadyH.nil
  refine step_of rfl ?_
  (go_simp; refine hK.out _ _ (below_alloc B2.out _) (fun hS1 => ?_); clear hK K; (try simp only [List.getElem_toArray, List.getElem_cons_zero, List.getElem_cons_succ, Act.put, List.setIfInBounds_toArray, List.set_cons_zero, List.set_cons_succ]))
  (refine wpAnyH_take (i := 12) (v := ?_) rfl (by kernel_rfl) (by kernel_rfl) (by kernel_rfl) (fun _ _ _ h => h) (Or.inl ⟨by rfl, ?_⟩) (by assumption) ?_; rotate_left; (focus (intro w_ hSw; have e0_ := (hSw.cell (p := ⟨rb, 0, none⟩) (blk_lt HB.out)).trans hc0; have e1_ := (hSw.cell (p := ⟨rb, 1, none⟩) (blk_lt HB.out)).trans hc1; clear hSw; go_simp; try with_reducible rfl)); (try simp only [List.getElem_toArray, List.getElem_cons_zero, List.getElem_cons_succ, Act.put, List.setIfInBounds_toArray, List.set_cons_zero, List.set_cons_succ]))
  refine wpAnyH_done (by decide +kernel) ?_ _
  go_wp2
  go_ret
  have hb3 := below_alloc (Below.refl w2.heap.size w2) (.cells #[.slice A1 n c1, .slice A2 m c2] 74)
  obtain ⟨z1, z2⟩ := own_bytes O1.out HN.out (below_step B12.out hb3)
  obtain ⟨y1, y2⟩ := own_ints O2.out HM.out hb3
  refine ⟨w2.heap.size, A1, c1, A2, c2, rfl, ⟨?_, by rw [HN.out]; exact z1, by rw [HN.out]; exact z2, by rw [HM.out]; exact y1, by rw [HM.out]; exact y2, ty_below (ty_own O1.out) (below_step B12.out hb3), ty_below (ty_own O2.out) hb3⟩, below_alloc B2.out _, B2.out.size, fun ad ea => Nat.le_trans hS0.size (own_lo O1.out ad ea)⟩
  rw [HN.out, HM.out]
  exact heap_alloc_new w2 _
end Go.Proofs.Ytfedlanbmibhkaa.P
