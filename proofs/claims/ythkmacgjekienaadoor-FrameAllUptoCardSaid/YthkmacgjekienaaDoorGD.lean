/- The document's Bodies. -/
import Derived.Test.YthkmacgjekienaaDoorGC
import Derived.Test.YthkmacgjekienaaDoorP8
import Derived.Test.YthkmacgjekienaaDoorGB
import Derived.BigRegionIn
import Derived.Sort.CutIn
import Derived.Stop.RegionWithIn
namespace Go.Proofs.YthkmacgjekienaaDoor.P
attribute [-simp] List.length_drop List.length_take ByteArray.size_append
open Go.RowKit Go.Shelf Go.Proofs.YthkmacgjekienaaDoor.Pure Go.Proofs.YthkmacgjekienaaDoorW.PrintWords Go.Proofs.YthkmacgjekienaaDoorW.PrintLast Go.Proofs.YthkmacgjekienaaDoorW.PrintMore
set_option linter.unusedVariables false
set_option linter.unusedSimpArgs false
/-- the document's First -/
theorem first_ev (l : List Int) (hb : Byt l) (hl : l.length ≤ 5000000000000) : (ok1 l → Ev (fun k => colophonref07_First.f k l) (body1 l, ((sz l + bn l : Nat) : Int), 0)) ∧ (¬ ok1 l → ∃ x y, Ev (fun k => colophonref07_First.f k l) (x, y, err1 l)) := by
  have hp1 := hp_ref hb (by omega : l.length ≤ 140737488353792)
  refine ⟨fun ho => ?_, fun ho => ?_⟩
  · obtain ⟨n, s, h1, h2, h3, h4, h5, h6⟩ := ok1_ref hb (by omega) ho
    rw [h1] at hp1
    unfold colophonref07_First.f
    refine Ev.bind hp1 ?_
    simp only [if_true]
    have e1 : wrap64 ((l.length : Int) - (s : Int)) = (l.length : Int) - s := by unfold wrap64; omega
    have e2 : wrap64 ((s : Int) + (n : Int)) = ((s + n : Nat) : Int) := by unfold wrap64; omega
    rw [e1, e2, if_neg (by omega), if_pos (by omega), if_pos (by omega), if_pos (by omega)]
    simp only [Int.toNat_natCast]
    rw [copy_some _ (by rw [List.length_drop, List.length_take]; omega)]
    rw [Option.bind_some]
    have hb1 : body1 l = (l.take (s + n)).drop s := by unfold body1; rw [h2, h3]
    rw [hb1, h2, h3]
    exact Ev.now _
  · rcases no1_form hb (by omega) ho with ⟨k1, k2, k3⟩ | ⟨n, s, k1, k2, k3, k4, k5, k6⟩
    · refine ⟨[], 0, ?_⟩
      unfold colophonref07_First.f
      refine Ev.bind hp1 ?_
      rw [if_neg k1, k2]
      exact Ev.now _
    · refine ⟨[], 0, ?_⟩
      rw [k1] at hp1
      unfold colophonref07_First.f
      refine Ev.bind hp1 ?_
      simp only [if_true]
      have e1 : wrap64 ((l.length : Int) - (s : Int)) = (l.length : Int) - s := by unfold wrap64; omega
      rw [e1, if_pos (by omega), k2]
      exact Ev.now _
theorem bodies_loop (l : List Int) : ∀ acc : List (List Int), Byt l → acc.length + l.length ≤ 5000000000000 → Ev (fun k => colophonref07_Bodies.l0 k l acc) (acc ++ (bodT l).1, (bodT l).2.1, (bodT l).2.2) := by
  refine bod_ind (p := fun l => ∀ acc : List (List Int), Byt l → acc.length + l.length ≤ 5000000000000 → Ev (fun k => colophonref07_Bodies.l0 k l acc) (acc ++ (bodT l).1, (bodT l).2.1, (bodT l).2.2)) (fun l ho ih acc hb hl => ?_) (fun l ho acc hb hl => ?_) l
  · have hlt := rest1_lt ho
    have h := (first_ev l hb (by omega)).1 ho
    obtain ⟨_, g1, g2⟩ := ho
    rw [bodT_ok ⟨by assumption, g1, g2⟩]
    refine Ev.step (f := fun k => _) (fun k => by rw [colophonref07_Bodies.l0]) ?_
    refine Ev.bind h ?_
    simp only [if_true]
    simp only [if_pos (show acc.length < 5864062014805 by omega), if_pos (show (0 : Int) ≤ ((sz l + bn l : Nat) : Int) by omega), if_pos (show ((sz l + bn l : Nat) : Int) ≤ (l.length : Int) by omega), Int.toNat_natCast]
    have := ih (acc ++ [body1 l]) hb.rest1 (by simp; omega)
    simpa [rest1] using this
  · rw [bodT_no ho]
    obtain ⟨x, y, h⟩ := (first_ev l hb (by omega)).2 ho
    refine Ev.step (f := fun k => _) (fun k => by rw [colophonref07_Bodies.l0]) ?_
    refine Ev.bind h ?_
    have hne : err1 l ≠ 0 := by
      rcases no1_form hb (by omega) ho with ⟨k1, k2, k3⟩ | ⟨n, s, k1, k2, k3, k4, k5, k6⟩
      · rw [k2]; exact k1
      · rw [k2]; decide
    simp only [if_neg hne, copy_some l (by omega), Option.bind_some, List.append_nil]
    exact Ev.now _
theorem bodies_calls {w : World} {A : Option Addr} {n c : Nat} {l : List Int} (hn : l.length = n) (h1 : Kd.C (Kd.int .u8) w A n l) (hc : n ≤ c) (hb : Byt l) (hl : n ≤ 5000000000000) :
    Calls Tryd.prog 22 #[.slice A n c] w fun e w' => ∃ Ab cb v1, e = .returned (.tuple #[.slice Ab (bodT l).1.length cb, v1, .int .i64 (bodT l).2.2]) ∧ (bodT l).1.length ≤ cb ∧ Kd.C (Kd.slice 5 (Kd.int .u8)) w' Ab (bodT l).1.length (bodT l).1 ∧ Kd.R (Kd.int .u8) 5 w' w.heap.size (fun _ => True) v1 (bodT l).2.1 ∧ Below w.heap.size w w' := by
  subst hn
  obtain ⟨k, hk⟩ := (bodies_loop l [] hb (by simpa using hl)).rounds
  refine (colophonref07_Bodies.calls k (fun k_ => k_ < w.heap.size) A c l (bodT l).1 (bodT l).2.1 (bodT l).2.2 w (Kd.V_mk hc (Kd.C_F ⟨fun _ h => h⟩ h1)) (by unfold colophonref07_Bodies.f; rw [hk]; rfl)).mono ?_
  rintro e w' ⟨v0, v1, rfl, h2, h3, h4⟩
  obtain ⟨Ab, cb, rfl⟩ := Kd.R_slice (Kd.S_R h2)
  obtain ⟨k1, k2, k3⟩ := Kd.R_reads' (Kd.S_R h2)
  exact ⟨Ab, cb, v1, rfl, k2, k3, Kd.R_mono h3 (fun _ _ => trivial), h4⟩
end Go.Proofs.YthkmacgjekienaaDoor.P
/- FrameAll: what a round does to what was got; an append within a round as an operation. -/
namespace Go.Proofs.YthkmacgjekienaaDoor.P
attribute [-simp] List.length_drop List.length_take ByteArray.size_append
open Go.RowKit Go.Shelf Go.Proofs.YthkmacgjekienaaDoor.Pure Go.Proofs.YthkmacgjekienaaDoorW.PrintWords Go.Proofs.YthkmacgjekienaaDoorW.PrintLast Go.Proofs.YthkmacgjekienaaDoorW.PrintMore
set_option linter.unusedVariables false
set_option linter.unusedSimpArgs false
theorem callsIn_round {l n : Nat} {P : Program} {g : FuncId} {args : Array Value} {w : World} {R : Ending → World → Prop} (h : Calls P g args w R) : CallsIn (Fence.wide.inRound l) n P g args w R := (callsIn_wide (n := n)).2 h
theorem grown_set (w : World) (b i : Nat) (v : Value) : w.grownBy (w.setCell ⟨b, i, none⟩ v) (some b) :=
  ⟨rfl, rfl, rfl, by simp [World.setCell], fun k _ hk => Below.heap_setCell _ _ _ _ (fun e => hk (by simp [e]))⟩
section
variable {F : Fence} {n : Nat} {P : Program} {o : Oper} {a : Act} {Q : Exit → Act → World → Prop} {K : Act → World → Prop} {α : Type}
/-- append(v, x) within a round, as an operation. -/
theorem in_append_op (d : Kd α) {W : World} (base : Nat) (s x : Operand) (t e : TypeId) (z : Value) (bytes : Nat)
    (ho : o.op = .call { callee := .builtin .append, args := #[s, x], argTypes := #[t, t] })
    (ht : P.underlying t = some (.slice e)) (hinfo : (P.info? e).map (fun i => (i.zero, i.size, i.bytes)) = some (some z, d.sz, bytes)) (hz : z.cells.size = d.sz) (hs0 : 0 < d.sz) (hb0 : 0 < bytes)
    (v : Value) (xs : List α) (p : α) (cs : List Value) (ok okp : Nat → Prop) (hs : a.eval s = v) (hx : a.eval x = .slice (some ⟨W.heap.size, 0, none⟩) 1 1) (hp : d.M W base okp p cs) (hokp : ∀ k, okp k → ok k ∧ some k ≠ v.ownBlock) (hfresh : ∀ k, W.heap.size ≤ k → ok k)
    (HO : d.R e W base ok v xs) (hbase : base ≤ W.heap.size) (hl : (xs.length + 1) * bytes ≤ 140737488355328)
    (h : ∀ v1 w1, d.R e w1 base ok v1 (xs ++ [p]) → W.grownBy w1 v.ownBlock → K (a.put o.dst v1) w1) :
    o.wpIn F n P a (W.alloc (.cells cs.toArray e)) K Q := by
  obtain ⟨h0, inner, hown, hr⟩ := HO
  obtain ⟨i0, hi, hzz⟩ := Option.map_eq_some_iff.1 hinfo
  simp only [Prod.mk.injEq] at hzz
  obtain ⟨hz0, hz1, hz2⟩ := hzz
  have hlen : xs.length + 1 ≤ 140737488355328 := Nat.le_trans (Nat.le_mul_of_pos_right _ hb0) hl
  have hcl := d.K_len (d.K_of_M hp)
  obtain ⟨v', w', hrun, r1, r2, _, r4⟩ := run_append_own_at (P := P) (W.alloc (.cells cs.toArray e)) base t o.type e i0 z d.sz bytes ht hi hz0 hz1 hz2 hz hs0 v xs.length inner (hown.alloc _) ⟨W.heap.size, 0, none⟩ 1 1 cs (by rw [hcl]; simp)
    (by simpa using World.news_of_block (cs := cs.toArray) (t := e) (fr := (0, 0)) (heap_alloc_new W (.cells cs.toArray e))) (d.K_one (d.K_of_M hp)) (by simp only [maxLen]; omega) hl (by simp; omega)
  have hg : W.grownBy w' v.ownBlock := World.grownBy.trans (World.grownBy_alloc W _ _) r2
  have hat : v'.ownBlock = v.ownBlock ∨ ∃ b, v'.ownBlock = some b ∧ W.heap.size ≤ b := by
    rcases r4 with r4 | r4
    · exact .inl r4
    · exact .inr ⟨_, r4, by simp⟩
  unfold Oper.wpIn
  refine ⟨?_, ?_⟩
  · simp [Oper.about, ho, resolve, Target.leads, Sem.run_pure]
  · rw [Oper.semAt_plain F _ _ (by rw [ho]; intro c hc'; cases hc')]
    simp [execOp, ho, resolve, invoke, builtin, hs, hx, hrun, Result.andThen]
    exact h v' w' (Kd.R_appended h0 hr hp hokp hfresh r1 hg hat) hg
end
/-- between two rounds: what was got lies below m, where the round ahead ended -/
structure AI (w wS : World) (bo j m : Nat) (pre : List (Value × List Int)) (W : World) : Prop where
  box : ∃ vo, Boxed W bo 22 vo ∧ Kd.R (Kd.slice 5 (Kd.int .u8)) 27 W wS.heap.size (fun k => wS.heap.size ≤ k ∧ k < m) vo (pre.map (·.2))
  le : pre.length ≤ j
  kp : ∀ k, k < wS.heap.size → k ≠ bo → W.heap[k]? = wS.heap[k]?
  be : Below w.heap.size wS W
theorem AI.start {w wS : World} {bo j m : Nat} (h : Boxed wS bo 22 (.slice none 0 0)) : AI w wS bo j m [] wS := ⟨⟨_, h, Kd.R_nil _ _ _ _ _⟩, Nat.zero_le _, fun _ _ _ => rfl, Below.refl _ _⟩
theorem AI.own {w wS : World} {bo j m : Nat} (hbo : bo < wS.heap.size) (h0 : w.heap.size ≤ wS.heap.size) : OwnFrom wS.heap.size (AI w wS bo j m) := fun pre W W' row hs hg hr => by
  obtain ⟨vo, h1, h2⟩ := hs.box
  refine ⟨⟨vo, h1.kept hg fun e => ?_, R_ownFrom h2 hg fun r e => (hr r e).2⟩, hs.le, fun k hk hb => (hg.block k (Nat.lt_of_lt_of_le hk hs.be.size) fun e => ?_).trans (hs.kp k hk hb), hs.be.grown hg (Nat.le_trans h0 hs.be.size) fun j e => Nat.le_trans h0 (hr j e).1⟩
  · have := (hr bo e.symm).1; omega
  · have := (hr k e.symm).1; omega
/-- a body is got, its element is spoilt -/
theorem AI.step {w wS : World} {bo j m : Nat} {pre : List (Value × List Int)} {W : World} (hs : AI w wS bo j m pre W) (hbo : bo < wS.heap.size) (h0 : w.heap.size ≤ bo) {g : Nat} (hg : g < wS.heap.size) (hgb : g ≠ bo) {vo v1 : Value} (h1 : Boxed W bo 22 vo) (h2 : Kd.R (Kd.slice 5 (Kd.int .u8)) 27 W wS.heap.size (fun k => wS.heap.size ≤ k ∧ k < m) vo (pre.map (·.2)))
    {x : Value × List Int} (hx : Kd.R (Kd.int .u8) 5 W wS.heap.size (fun k => m ≤ k) x.1 x.2) {Wc wa wr : World} (hc : Below W.heap.size W Wc) (r1 : Kd.R (Kd.slice 5 (Kd.int .u8)) 27 wa wS.heap.size (fun k => wS.heap.size ≤ k ∧ some k ≠ x.1.ownBlock) v1 (pre.map (·.2) ++ [x.2])) (r2 : Wc.grownBy wa vo.ownBlock)
    (hr : (wa.setCell ⟨bo, 0, none⟩ v1).grownBy wr x.1.ownBlock) (hj : pre.length < j) :
    KeepsFrom wS.heap.size W wr ∧ Kpp w g W wr ∧ AI w wS bo j wr.heap.size (pre ++ [x]) wr := by
  have hvo : ∀ k, vo.ownBlock = some k → wS.heap.size ≤ k := fun k e => Kd.R_base h2 k e
  have hxo : ∀ k, x.1.ownBlock = some k → wS.heap.size ≤ k := fun k e => Kd.R_base hx k e
  have hwS : wS.heap.size ≤ W.heap.size := hs.be.size
  have hw : w.heap.size ≤ W.heap.size := by omega
  have sa : W.heap.size ≤ wa.heap.size := Nat.le_trans hc.size r2.size
  have ss : (wa.setCell ⟨bo, 0, none⟩ v1).heap.size = wa.heap.size := by simp
  have kp : ∀ k, k < W.heap.size → k ≠ bo → some k ≠ vo.ownBlock → some k ≠ x.1.ownBlock → wr.heap[k]? = W.heap[k]? := fun k hk hb hv hxk =>
    (hr.block k (by rw [ss]; omega) hxk).trans ((Below.heap_setCell wa ⟨bo, 0, none⟩ v1 k hb).trans ((r2.block k (Nat.lt_of_lt_of_le hk hc.size) hv).trans (hc.block k hk)))
  have hbe : Below w.heap.size W wr := (((hc.mono hw).grown r2 (Nat.le_trans hw hc.size) fun k e => by have := hvo k e; omega).setCell (p := ⟨bo, 0, none⟩) h0 v1).grown hr (by rw [ss]; omega) fun k e => by have := hxo k e; omega
  have b1 : Boxed Wc bo 22 vo := (hc.block bo h1.lt).trans h1
  have b2 := b1.kept r2 (fun e => by have := hvo bo e.symm; omega)
  have b3 := (b2.set v1).kept hr (fun e => by have := hxo bo e.symm; omega)
  refine ⟨⟨?_, fun k o hk ho hoc => ?_⟩, ⟨hbe, fun hgl => kp g hgl hgb (fun e => by have := hvo g e.symm; omega) fun e => by have := hxo g e.symm; omega⟩, ⟨⟨v1, b3, ?_⟩, by rw [List.length_append, List.length_singleton]; exact hj, fun k hk hb => (kp k (by omega) hb (fun e => by have := hvo k e.symm; omega) fun e => by have := hxo k e.symm; omega).trans (hs.kp k hk hb), hs.be.trans hbe⟩⟩
  · have := hr.size; omega
  · refine (kp k (Array.getElem?_eq_some_iff.1 ho).1 ?_ ?_ ?_).trans ho
    · rintro rfl
      have h3 : W.heap[k]? = _ := h1
      rw [h3] at ho; cases ho; cases hoc
    · intro e
      obtain ⟨cells, h3⟩ := Kd.R_typed h2 k e.symm
      rw [h3] at ho; cases ho; cases hoc
    · intro e
      obtain ⟨cells, h3⟩ := Kd.R_typed hx k e.symm
      rw [h3] at ho; cases ho; cases hoc
  · rw [List.map_append]
    have r3 := Kd.R_far r1 (p := ⟨bo, 0, none⟩) (fun k hk e => by have e2 : k = bo := e; have := hk.1; omega) v1
    exact Kd.R_mono (Kd.R_bound (Kd.R_grown r3 hr fun k hk => hk.2)) fun k hk => ⟨hk.1.1, hk.2.2.1⟩
end Go.Proofs.YthkmacgjekienaaDoor.P
/- FrameAll. -/
namespace Go.Proofs.YthkmacgjekienaaDoor.P
attribute [-simp] List.length_drop List.length_take ByteArray.size_append
open Go.RowKit Go.Shelf Go.Proofs.YthkmacgjekienaaDoor.Pure Go.Proofs.YthkmacgjekienaaDoorW.PrintWords Go.Proofs.YthkmacgjekienaaDoorW.PrintLast Go.Proofs.YthkmacgjekienaaDoorW.PrintMore
set_option linter.unusedVariables false
set_option linter.unusedSimpArgs false
attribute [local go_sem] Oper.semAt_some max2_int min2_int max_two min_two
theorem bring_nat2 (a : Int) (nb : Nat) (hn : nb ≤ 140737488355000) : ∃ j : Nat, j ≤ nb + 1 ∧ ∀ w : World, Calls Tryd.prog 23 #[.int .i64 a, .int .i64 (nb + 2)] w fun e w' => e = .returned (.int .i64 j) ∧ Drawn0 w w' := by
  obtain ⟨t, h1, h2, h3⟩ := bring_some a (nb + 2) (by omega) (by omega)
  obtain ⟨j, rfl⟩ := Int.eq_ofNat_of_zero_le h2
  exact ⟨j, by omega, fun w => colophonref00_Bring.calls a (nb + 2) j w h1⟩
theorem want_calls {w : World} {A : Option Addr} {n c : Nat} {l : List Int} (hn : l.length = n) (h1 : Kd.C (Kd.int .u8) w A n l) (hc : n ≤ c) (hb : Byt l) (hl : n ≤ 5000000000000) (bs : List (List Int)) (k : Nat) (hbs : (bodT l).1 = bs) (hk : bs.length = k) :
    Calls Tryd.prog 22 #[.slice A n c] w fun e w' => ∃ Ab cb Al nl cl er, e = .returned (.tuple #[.slice Ab k cb, .slice Al nl cl, .int .i64 er]) ∧ k ≤ cb ∧ Kd.C (Kd.slice 5 (Kd.int .u8)) w' Ab k bs ∧ Below w.heap.size w w' := by
  refine (bodies_calls hn h1 hc hb hl).mono ?_
  rintro e w' ⟨Ab, cb, v1, rfl, h2, h3, h4, h5⟩
  obtain ⟨Al, cl, rfl⟩ := Kd.R_slice h4
  rw [hbs, hk] at h2 h3 ⊢
  exact ⟨Ab, cb, Al, _, cl, _, rfl, h2, h3, h5⟩
theorem calm_way {P : Program} {c : Code} {K : Act → World → Prop} {Q : Exit → Act → World → Prop} {a : Act} {w : World} (h : c.wp P (Exit.then K (fun _ _ _ => False)) a w) : c.wp P (Exit.then K Q) a w :=
  wp_mono h fun e a w h => by cases e <;> first | exact h | exact h.elim
set_option maxRecDepth 100000 in
set_option maxHeartbeats 4000000 in
theorem all_walk (l : List Int) (A : Option Addr) (c : Nat) (a1 : Int) (w : World) (hr : Kd.C (Kd.int .u8) w A l.length l) (hc : l.length ≤ c) (hby : Byt l) (hsz : l.length ≤ 2000000) (hT : TAB w) :
    Calls Tryd.prog 4 #[.slice A l.length c, .int .i64 a1] w fun e w' => e = .returned (.bool true) ∧ Below w.heap.size w w' := by
  have hmem := bod_mem l
  have hcnt := bod_count l
  obtain ⟨n, hn⟩ : ∃ n, l.length = n := ⟨_, rfl⟩
  obtain ⟨bs, hbs⟩ : ∃ bs, (bodT l).1 = bs := ⟨_, rfl⟩
  obtain ⟨k, hk⟩ : ∃ k, bs.length = k := ⟨_, rfl⟩
  rw [hn] at hr hc hsz hmem hcnt ⊢
  rw [hbs] at hmem hcnt
  rw [hk] at hcnt
  obtain ⟨j, hj, hB⟩ := bring_nat2 a1 k (by omega)
  have HBR := Aside0.mk hB
  have HJ := Aside0.mk hj
  have HN := Aside0.mk hn
  have HR := Aside0.mk hr
  have HT := Aside0.mk hT
  have HBy := Aside0.mk hby
  have HSZ := Aside0.mk hsz
  have HBS := Aside0.mk hbs
  have HK := Aside0.mk hk
  have HCN := Aside0.mk (show k ≤ 2000000 by omega)
  have HMEM := Aside0.mk (fun x (hx : x ∈ bs) => (show x.length ≤ 140737488353792 by have := hmem x hx; omega))
  have HMEM2 := Aside0.mk (fun x (hx : x ∈ bs) => (show x.length ≤ 2000000 by have := hmem x hx; omega))
  have HNC := Aside0.mk hc
  have hw2 : wrap64 ((k : Int) + 2) = (k : Int) + 2 := by unfold wrap64; omega
  clear hn hr hT hby hsz hbs hk hcnt hmem hc hB hj
  refine (callsIn_wide (n := 4)).1 ?_
  refine callsIn_of_wp_marks Tryd.func4 rfl trivial ?_ rfl
  refine wpIn_wide.2 ?_
  simp only [Tryd.ntmps4, List.size_toArray, List.length_cons, List.length_nil, Nat.reduceAdd, Nat.reduceSub, Array.replicate_succ, Array.replicate_zero, List.push_toArray, List.append_toArray, List.nil_append, List.cons_append]
  go_upto_region 3 with (first
    | (go_at_call 13; (with_reducible refine (copy_calls HN.out HR.out HNC.out (by have := HSZ.out; omega)).mono ?_); rintro e w2 ⟨A2, c2, rfl, h1_, h2_⟩; have R2 := Aside0.mk h1_; have B2 := Aside0.mk h2_; clear h1_ h2_)
    | (go_at_call 22; (with_reducible refine (want_calls HN.out (Kd.C_below HR.out B2.out) HNC.out HBy.out (by have := HSZ.out; omega) bs k HBS.out HK.out).mono ?_); rintro e w3 ⟨A3, c3, Al, nl, cl, er, rfl, h1_, h2_, h3_⟩; have R3 := Aside0.mk h1_; have C3 := Aside0.mk h2_; have B3 := Aside0.mk h3_; clear h1_ h2_ h3_))
  have hb3 : Below w.heap.size w w3 := B2.out.trans (B3.out.mono B2.out.size)
  have BW3 := Aside0.mk hb3
  have RI := Aside0.mk (Kd.R_below R2.out B3.out)
  have hfn := func_nil
  clear hb3 R2
  go_upto_region 5 with (go_at_call 23; (with_reducible refine (HBR.out _).mono ?_); rintro e w4 ⟨rfl, ⟨nd, rfl⟩⟩; have ha1 : ((w3.drewN nd).alloc (.cells #[.int .i64 0] 3)).cell? ⟨w3.heap.size, 0, none⟩ = some (.int .i64 0) := (heap_new_cell (w3.drewN nd) 3 _).1; have ha2 : ((w3.drewN nd).alloc (.cells #[.int .i64 0] 3)).frozen? ⟨w3.heap.size, 0, none⟩ = false := (heap_new_cell (w3.drewN nd) 3 _).2)
  have hbn : Boxed (((w3.drewN nd).alloc (.cells #[.int .i64 0] 3)).setCell ⟨w3.heap.size, 0, none⟩ (.int .i64 j)) w3.heap.size 3 (.int .i64 j) := (Boxed.new (w3.drewN nd) 3 (.int .i64 0)).set _
  have hbe : Below w3.heap.size w3 (((w3.drewN nd).alloc (.cells #[.int .i64 0] 3)).setCell ⟨w3.heap.size, 0, none⟩ (.int .i64 j)) := (below_alloc (pw_below_drewN (Below.refl w3.heap.size w3) nd) _).setCell (p := ⟨w3.heap.size, 0, none⟩) (Nat.le_refl _) _
  have hsz : (((w3.drewN nd).alloc (.cells #[.int .i64 0] 3)).setCell ⟨w3.heap.size, 0, none⟩ (.int .i64 j)).heap.size = w3.heap.size + 1 := by simp
  have BN5 := Aside0.mk (hbn.alloc (.cells #[.slice none 0 0] 22))
  have hbo5 := Boxed.new (((w3.drewN nd).alloc (.cells #[.int .i64 0] 3)).setCell ⟨w3.heap.size, 0, none⟩ (.int .i64 j)) 22 (.slice none 0 0)
  rw [hsz] at hbo5
  have BO5 := Aside0.mk hbo5
  have B5 := Aside0.mk (below_alloc hbe (.cells #[.slice none 0 0] 22))
  clear ha1 ha2 hbn hbe hsz hbo5
  obtain ⟨bn, hbn⟩ : ∃ bn, w3.heap.size = bn := ⟨_, rfl⟩
  rw [hbn] at BN5 BO5 B5 ⊢
  have HBNN := Aside0.mk hbn
  clear hbn
  obtain ⟨bo, hbo⟩ : ∃ bo, bn + 1 = bo := ⟨_, rfl⟩
  rw [hbo] at BO5 ⊢
  have HBOO := Aside0.mk hbo
  clear hbo
  generalize (((w3.drewN nd).alloc (.cells #[.int .i64 0] 3)).setCell ⟨bn, 0, none⟩ (.int .i64 j)).alloc (.cells #[.slice none 0 0] 22) = w5 at BN5 BO5 B5 ⊢
  have SZ5 := Aside0.mk (show bo < w5.heap.size from BO5.out.lt)
  go_upto_region 7 with (go_at_call 24; (with_reducible refine (all_calls A2 n c2 w5).mono ?_); rintro e w6 ⟨rfl, rfl⟩)
  have BN6 := Aside0.mk (BN5.out.alloc (.cells #[.slice A2 n c2] 27))
  have BO6 := Aside0.mk (BO5.out.alloc (.cells #[.slice A2 n c2] 27))
  have B6 := Aside0.mk (B5.out.trans ((below_alloc (Below.refl w5.heap.size w5) (.cells #[.slice A2 n c2] 27)).mono (by have := SZ5.out; have := HBOO.out; omega)))
  have SZ6 := Aside0.mk (show bo < (w5.alloc (.cells #[.slice A2 n c2] 27)).heap.size from BO6.out.lt)
  clear BN5 BO5 B5 SZ5
  generalize w5.alloc (.cells #[.slice A2 n c2] 27) = w6 at BN6 BO6 B6 SZ6 ⊢
  go_wp2_with (go_at_call 24; (with_reducible refine (all_calls A2 n c2 w6).mono ?_); rintro e w7 ⟨rfl, rfl⟩)
  have BN7 := Aside0.mk (BN6.out.alloc (.cells #[.slice A2 n c2] 27))
  have BO7 := Aside0.mk (BO6.out.alloc (.cells #[.slice A2 n c2] 27))
  have BX7 := Aside0.mk (Boxed.new w6 27 (.slice A2 n c2)).cell
  have B7 := Aside0.mk (B6.out.trans ((below_alloc (Below.refl w6.heap.size w6) (.cells #[.slice A2 n c2] 27)).mono (by have := SZ6.out; have := HBOO.out; omega)))
  have SZ7 := Aside0.mk (show bo < (w6.alloc (.cells #[.slice A2 n c2] 27)).heap.size from BO7.out.lt)
  have HBXN := Aside0.mk (show bo < w6.heap.size from SZ6.out)
  clear BN6 BO6 B6 SZ6
  generalize w6.heap.size = bx at BX7 HBXN ⊢
  generalize w6.alloc (.cells #[.slice A2 n c2] 27) = w7 at BN7 BO7 BX7 B7 SZ7 ⊢
  have HW0 := Aside0.mk (show w.heap.size ≤ bn by rw [← HBNN.out]; exact BW3.out.size)
  have HG0 := Aside0.mk (show w.heap.size ≤ w7.heap.size by have := HW0.out; have := HBOO.out; have := SZ7.out; omega)
  have BW7 := Aside0.mk (show Below w.heap.size w w7 from BW3.out.trans (B7.out.mono HW0.out))
  have RI7 := Aside0.mk (show Kd.R (Kd.int .u8) 5 w7 w.heap.size (fun _ => True) (.slice A2 n c2) l from Kd.R_below RI.out (by rw [HBNN.out]; exact B7.out))
  obtain ⟨e1_, e2_, e3_⟩ := R_C RI7.out
  obtain ⟨gb, hgb, hview, hne⟩ : ∃ gb, gb < w7.heap.size ∧ Vw gb w7 A2 n c2 l ∧ gb ≠ bo := by
    have hbx := World.block_lt_of_cell? _ _ BX7.out
    cases A2 with
    | none => exact ⟨bx, hbx, ⟨e1_, e3_, e2_, fun _ ad e => by cases e⟩, by have := HBXN.out; omega⟩
    | some ad =>
      obtain ⟨gb, rfl⟩ := Kd.R_head RI7.out
      obtain ⟨cells, hc⟩ := Kd.R_typed RI7.out gb rfl
      refine ⟨gb, blk_lt hc, ⟨e1_, e3_, e2_, fun _ ad e => by cases e; rfl⟩, ?_⟩
      rintro rfl
      have := BO7.out
      unfold Boxed at this
      rw [hc] at this; cases this
  have HV7 := Aside0.mk hview
  have HGB := Aside0.mk hgb
  have HNE := Aside0.mk hne
  clear hview hgb hne e1_ e2_ e3_
  refine (wpIn_wide (n := 4)).1 ?_
  refine rangeX rfl (by decide) (gf := 34) (lb := #[.pointer (some ⟨bx, 0, none⟩)]) rfl trivial (enters_of Tryd.func34 (by kernel_rfl) rfl) (all1_seq HV7.out HGB.out HBy.out (by have := HSZ.out; omega) HT.out BW7.out bx BX7.out) (fun m pre x => Hx_own m pre x) Kpp.trans (fun W l o o' => Kpp_book HG0.out HGB.out W l o o') (fun _ => rfl)
    (fun m pre W => AI w w7 bo j m pre W) (fun c pre W => c = Code.exit 0 ∧ ∃ p0 x m, pre = p0 ++ [x] ∧ p0.length = j ∧ AI w w7 bo j m p0 W) (fun m => AI.own SZ7.out HG0.out) ?own (AI.start BO7.out) ?a1 ?assign ?body ?done ?stop
  case own =>
    intro cd pre W W' row hs hg hr
    obtain ⟨h1, p0, x, m, h2, h3, h4⟩ := hs
    exact ⟨h1, p0, x, m, h2, h3, AI.own SZ7.out HG0.out p0 W W' row h4 hg hr⟩
  case assign =>
    intro l x W K hK
    gi_wp2
    exact hK
  case body =>
    rintro l' pre ⟨xv, xb⟩ m W hI hx
    obtain ⟨vo, h1, h2⟩ := hI.box
    obtain ⟨Ax, cx, rfl⟩ := Kd.R_slice (show Kd.R (Kd.int .u8) 5 W w7.heap.size (fun k => m ≤ k) xv xb from hx.1)
    have hXR : Kd.R (Kd.int .u8) 5 W w7.heap.size (fun k => m ≤ k) (.slice Ax xb.length cx) xb := hx.1
    have hlen : pre.length < k := by
      have h3 := (List.getElem?_eq_some_iff.1 hx.2.1).1
      rw [HBS.out, HK.out] at h3; exact h3
    have hxl : xb.length ≤ 2000000 := HMEM2.out xb (by have := List.mem_of_getElem? hx.2.1; rwa [HBS.out] at this)
    obtain ⟨xn, hxn⟩ : ∃ n, xb.length = n := ⟨_, rfl⟩
    obtain ⟨bp, hbp⟩ : ∃ bp, pre.map (·.2) = bp := ⟨_, rfl⟩
    obtain ⟨p, hp⟩ : ∃ p, pre.length = p := ⟨_, rfl⟩
    have hbl : bp.length = p := by rw [← hbp, List.length_map]; exact hp
    rw [hbp] at h2
    rw [hxn] at hXR hxl
    have hxn' := hxn
    obtain ⟨Ao, co, rfl⟩ := Kd.R_slice h2
    rw [hbl] at h1 h2
    rw [hp] at hlen
    have hle : p ≤ j := by have := hI.le; omega
    have HBP := Aside0.mk hbp
    have HP := Aside0.mk hp
    have HBL := Aside0.mk hbl
    have HXN := Aside0.mk hxn
    clear hbp hp hbl
    have hco := h1.cell
    have hcf := h1.frozen
    have BW := Aside0.mk (show Below w3.heap.size w3 W by rw [HBNN.out]; exact B7.out.trans ⟨hI.be.os, hI.be.tape, hI.be.output, hI.be.size, fun q hq => hI.kp q (by have := SZ7.out; have := HBOO.out; omega) (by have := HBOO.out; omega)⟩)
    have hcn : W.cell? ⟨bn, 0, none⟩ = some (.int .i64 j) := by
      have := BN7.out.cell
      have hnum : W.heap[bn]? = w7.heap[bn]? := hI.kp bn (by have := SZ7.out; have := HBOO.out; omega) (by have := HBOO.out; omega)
      unfold World.cell? at this ⊢
      rw [hnum]; exact this
    have H1 := Aside0.mk h1
    have H2 := Aside0.mk h2
    have HI := Aside0.mk hI
    have HX := Aside0.mk hXR
    have HXL := Aside0.mk hxl
    have HLN := Aside0.mk hlen
    have HXC := Aside0.mk (show xn = xn ∧ xn ≤ cx ∧ Kd.C (Kd.int .u8) W Ax xn xb from by have h5 := Kd.R_reads' hXR; rw [hxn'] at h5; exact h5)
    clear hI hx h1 h2 hlen hxl hXR
    dsimp only
    rw [hxn]
    clear hxn hxn'
    rcases Nat.eq_or_lt_of_le hle with e_ | hlt
    · have e9 : ((p : Int) == (j : Int)) = true := by rw [e_]; simp
      have HE9 := Aside0.mk e_
      clear hle e_
      gi_wp2
      exact ⟨KeepsFrom.refl _ _, rfl, pre, ⟨_, _, rfl⟩, by rw [HP.out, HE9.out], m, HI.out⟩
    · have e9 : ((p : Int) == (j : Int)) = false := by simp; omega
      have HLT := Aside0.mk hlt
      clear hle hlt
      gi_upto_region 10 with (fail)
      have hxo := Aside0.mk (fun k e => HX.out.1 k e)
      have hxl := Aside0.mk (fun k e => Kd.R_lt HX.out k e)
      have hvl := Aside0.mk (fun k e => Kd.R_lt H2.out k e)
      have HAP := Aside0.mk (fun k (hk : W.heap.size ≤ k) => (show (w7.heap.size ≤ k ∧ some k ≠ (Value.slice Ax xn cx).ownBlock) ∧ some k ≠ (Value.slice Ao p co).ownBlock from ⟨⟨Nat.le_trans HI.out.be.size hk, fun e => Nat.lt_irrefl _ (Nat.lt_of_lt_of_le (hxl.out k e.symm) hk)⟩, fun e => Nat.lt_irrefl _ (Nat.lt_of_lt_of_le (hvl.out k e.symm) hk)⟩))
      have H2' := Aside0.mk (show Kd.R (Kd.slice 5 (Kd.int .u8)) 27 W w7.heap.size (fun k => w7.heap.size ≤ k ∧ some k ≠ (Value.slice Ax xn cx).ownBlock) (.slice Ao p co) bp from Kd.R_mono H2.out fun k hk => ⟨hk.1, fun e => Nat.lt_irrefl _ (Nat.lt_of_lt_of_le hk.2 (hxo.out k e.symm))⟩)
      clear hxo hxl hvl
      refine wpIn_region_any (by kernel_rfl) ?_
      change wpAnyIn _ _ _ _ _ _ _ _ _ (World.drew _)
      repeat' (first
        | exact AllReadyIn.nil
        | (refine wpAnyIn_done (by decide +kernel) ?_ _)
        | (refine wpAnyIn_ready (rs := [0, 1]) (by decide +kernel) (by simp) ?_)
        | (refine wpAnyIn_ready (rs := [1]) (by decide +kernel) (by simp) ?_)
        | (refine wpAnyIn_ready (rs := [0, 2]) (by decide +kernel) (by simp) ?_)
        | (refine wpAnyIn_ready (rs := [2]) (by decide +kernel) (by simp) ?_)
        | (refine wpAnyIn_ready (rs := [0, 3]) (by decide +kernel) (by simp) ?_)
        | (refine wpAnyIn_ready (rs := [3]) (by decide +kernel) (by simp) ?_)
        | (refine wpAnyIn_ready (rs := [0]) (by decide +kernel) (by simp) ?_)
        | (refine wpAnyIn_ready (rs := [4]) (by decide +kernel) (by simp) ?_)
        | (refine wpAnyIn_ready (rs := [5]) (by decide +kernel) (by simp) ?_)
        | (refine BigFrame.allReadyIn_want rfl (by rfl) (fun K hK => ?_) ?_)
        | (refine in_append_op (Kd.slice 5 (Kd.int .u8)) w7.heap.size (.tmp 36) (.tmp 39) 22 27 (.slice none 0 0) 24 rfl Tryd.underlying22 info27 rfl (by decide) (by decide) (.slice Ao p co) bp xb [.slice Ac xn cc] (fun k => w7.heap.size ≤ k ∧ some k ≠ (Value.slice Ax xn cx).ownBlock) (fun k => W.heap.size ≤ k) rfl rfl CM.out HAP.out (fun k hk => (HAP.out k (Nat.le_trans BC.out.size hk)).1) HOc.out (Nat.le_trans HI.out.be.size BC.out.size) (by have := HBL.out; have := HLN.out; have := HCN.out; omega) ?_; intro v1 wa r1 r2; obtain ⟨A1, c1, e1⟩ := Kd.R_slice r1; rw [List.length_append, List.length_singleton, HBL.out] at e1; subst e1; have R1 := Aside0.mk r1; have R2 := Aside0.mk r2; have kb := (show Boxed wc bo 22 (.slice Ao p co) from (BC.out.block bo H1.out.lt).trans H1.out).kept r2 (fun e_ => by have := Kd.R_base H2.out _ e_.symm; have := SZ7.out; omega); have kc := kb.cell; have kf := kb.frozen; clear r1 r2 kb; refine hK _ _ ?_; clear hK K)
        | (go_simp; refine hK _ _ ?_; clear hK K)
        | (go_simp; refine ⟨trivial, ?_⟩; gi_at_call 13; ((with_reducible refine (callsIn_round (copy_calls HXN.out (Kd.C_below HXC.out.2.2 (by repeat (first | (with_reducible exact Below.refl _ _) | apply below_drew | apply pw_below_drewN))) HXC.out.2.1 (by have := HXL.out; omega))).mono ?_); rintro e wc ⟨Ac, cc, rfl, h1_, h2_⟩; have BC := Aside0.mk (show Below W.heap.size W wc from below_step (by repeat (first | (with_reducible exact Below.refl _ _) | apply below_drew | apply pw_below_drewN)) h2_); have hcc := (BC.out.cell (p := ⟨bo, 0, none⟩) H1.out.lt).trans hco; have hca := fun (o_ : Obj) => Lib.cell?_alloc_some o_ hcc; have CM := Aside0.mk (show (Kd.slice 5 (Kd.int .u8)).M wc w7.heap.size (fun k => W.heap.size ≤ k) xb [.slice Ac xn cc] from ⟨_, rfl, Kd.R_lower (Kd.R_mono (Kd.R_bound h1_) fun k hk => hk.2.1) HI.out.be.size⟩); have HOc := Aside0.mk (Kd.R_below H2'.out BC.out); clear h1_ h2_); refine hK _ _ ?_; clear hK K))
      all_goals
        have hxr : Kd.R (Kd.int .u8) 5 (wa.setCell ⟨bo, 0, none⟩ (.slice A1 (p + 1) c1)) w7.heap.size (fun _ => True) (.slice Ax xn cx) xb := by
          have q1 := Kd.R_bound (Kd.R_below HX.out BC.out)
          have q2 := Kd.R_grown (Kd.R_mono q1 fun k hk => (show m ≤ k ∧ w7.heap.size ≤ k from ⟨hk.1, hk.2.1⟩)) R2.out fun k hk e => by have h8 := (H2.out.1 k e.symm).2; have h9 := hk.1; omega
          exact Kd.R_mono (Kd.R_far q2 (p := ⟨bo, 0, none⟩) (fun k hk e => by have e2 : k = bo := e; have := hk.2; have := SZ7.out; omega) _) fun _ _ => trivial
        have HXR := Aside0.mk hxr
        clear hxr kc kf hcc hca hco hcf hcn
        gi_wp2
        gi_loopw [12] (fun i wr => ∃ (q : Nat) (ys : List Int), q ≤ xn ∧ i = .int .i64 q ∧ Aside0 (Kd.R (Kd.int .u8) 5 wr w7.heap.size (fun _ => True) (.slice Ax xn cx) ys) ∧ Aside0 ((wa.setCell ⟨bo, 0, none⟩ (.slice A1 (p + 1) c1)).grownBy wr (Value.slice Ax xn cx).ownBlock)) (fun i _ => xn - (intOf i).toNat)
        case atStart => exact ⟨0, xb, Nat.zero_le _, rfl, HXR, ⟨World.grownBy.refl _ _⟩⟩
        case round =>
          obtain ⟨q, ys, hq, rfl, HR', HG'⟩ := hrel
          by_cases hlt : q < xn
          · obtain ⟨g, hg⟩ : ∃ g, Ax = some ⟨g, 0, none⟩ := by
              cases Ax with
              | none =>
                obtain ⟨z1, z2, z3⟩ := Kd.R_reads' HR'.out
                obtain ⟨ad, e, _⟩ := z3.2.2 (by omega)
                cases e
              | some ad =>
                obtain ⟨g, rfl⟩ := Kd.R_head HR'.out
                exact ⟨g, rfl⟩
            subst hg
            obtain ⟨q1, q2⟩ := Kd.R_celln (0 : Int) HR'.out (q : Int) (by omega) (by omega)
            have q4 : ((q : Int)).toNat = q := rfl
            rw [q4] at q1 q2
            have t1 : decide (q < xn) = true := decide_eq_true hlt
            have z1 : (q : Int) < (xn : Int) := by omega
            have z0 : (0 : Int) ≤ (q : Int) := by omega
            have hw1 : wrap64 ((q : Int) + 1) = ((q + 1 : Nat) : Int) := by have := HXL.out; unfold wrap64; omega
            have HLT' := Aside0.mk hlt
            clear hlt
            gi_wp2
            refine ⟨⟨q + 1, _, HLT'.out, by rw [hw1], ⟨Kd.R_putn HR'.out (q : Int) _⟩, ⟨World.grownBy.trans HG'.out (grown_set wr g q _)⟩⟩, ?_⟩
            have := HLT'.out
            rw [hw1]
            simp only [intOf, Int.toNat_natCast]
            omega
          · have hqn : q = xn := by omega
            have t1 : decide (q < xn) = false := decide_eq_false hlt
            clear hlt
            gi_wp2
            exact AI.step HI.out SZ7.out (by have := HW0.out; have := HBOO.out; omega) HGB.out HNE.out H1.out (by rw [HBP.out]; exact H2.out) HX.out BC.out (by rw [HBP.out]; exact R1.out) R2.out HG'.out (by rw [HP.out]; exact HLT.out)
  case stop =>
    rintro D cd pre W hD ⟨k2, hk2⟩ ⟨rfl, p0, x, m, hp0, hp1, hI⟩ hDef
    obtain ⟨vo, h1, h2⟩ := hI.box
    rw [HBS.out, hp0, List.map_append] at hk2
    have hl2 := congrArg List.length hk2
    rw [List.length_append, List.length_map, List.length_take, HK.out, hp1] at hl2
    simp only [List.map_cons, List.map_nil, List.length_cons, List.length_nil] at hl2
    have hjk : j < k := by omega
    have hbp : p0.map (·.2) = bs.take j := by
      have h3 := congrArg (List.take j) hk2
      rw [List.take_take, List.take_append_of_le_length (by rw [List.length_map, hp1]; exact Nat.le_refl _), List.take_of_length_le (by rw [List.length_map, hp1]; exact Nat.le_refl _), Nat.min_eq_left (by omega)] at h3
      exact h3
    rw [hbp] at h2
    have htl : (bs.take j).length = j := by rw [List.length_take, HK.out]; omega
    obtain ⟨A7, c7, rfl⟩ := Kd.R_slice h2
    rw [htl] at h1 h2
    have hco := h1.cell
    have hBW : Below bn w3 W := B7.out.trans ⟨hI.be.os, hI.be.tape, hI.be.output, hI.be.size, fun q hq => hI.kp q (by have := SZ7.out; have := HBOO.out; omega) (by have := HBOO.out; omega)⟩
    have hnum : W.heap[bn]? = w7.heap[bn]? := hI.kp bn (by have := SZ7.out; have := HBOO.out; omega) (by have := HBOO.out; omega)
    have hcn : W.cell? ⟨bn, 0, none⟩ = some (.int .i64 j) := by
      have := BN7.out.cell
      unfold World.cell? at this ⊢
      rw [hnum]; exact this
    have BW := Aside0.mk (show Below w3.heap.size w3 W by rw [HBNN.out]; exact hBW)
    have BWW := Aside0.mk (BW3.out.trans (BW.out.mono BW3.out.size))
    have C7 := Aside0.mk (Kd.R_reads' h2)
    have HTL := Aside0.mk htl
    have CA := Aside0.mk (show Kd.C (Kd.slice 5 (Kd.int .u8)) W A3 j (bs.take j) by have h4 := Kd.C_below C3.out BW.out; rw [← HK.out] at h4; have h5 := Kd.C_take h4 (m := j) (by rw [HK.out]; omega); rwa [htl] at h5)
    have CI := Aside0.mk (Kd.C_below (R_C RI.out).2.2 BW.out)
    have CR := Aside0.mk (Kd.C_below HR.out BWW.out)
    have TW := Aside0.mk (HT.out.below BWW.out)
    have RC2 := Aside0.mk (R_C RI.out).2.1
    have HD := Aside0.mk hD
    have HDef := Aside0.mk hDef
    have HMT := Aside0.mk (fun x (hx : x ∈ bs.take j) => HMEM.out x (List.mem_of_mem_take hx))
    have HJ5 := Aside0.mk (show j ≤ 2000000 by have := HCN.out; omega)
    have HJC := Aside0.mk (show j ≤ c3 by have := R3.out; omega)
    have c8 : (j : Int) ≤ (c3 : Int) := by have := R3.out; omega
    have c9 : ((k : Int) < (j : Int)) = False := eq_false (by omega)
    have c10 : ((j : Int) < (k : Int)) = True := eq_true (by omega)
    have c11 : ((j : Int) ≤ (k : Int)) = True := eq_true (by omega)
    clear h1 h2 hI hD hDef hBW hnum hk2 hl2 hbp htl hp0 hp1 hjk
    refine wpIn_wide.2 ?_
    go_upto_region 15 with (fail)
    refine calm_way ?_
    go_region_with (first
      | (go_at_call 16; (with_reducible refine (same_calls HTL.out (by have := HJ5.out; omega) HMT.out (Kd.C_below (by have := C7.out.2.2; rwa [HTL.out] at this) (by repeat (first | (with_reducible exact Below.refl _ _) | apply below_drew | apply pw_below_drewN))) C7.out.2.1 (Kd.C_below CA.out (by repeat (first | (with_reducible exact Below.refl _ _) | apply below_drew | apply pw_below_drewN))) HJC.out).mono ?_); rintro e wa ⟨rfl, d1, rfl⟩)
      | (go_at_call 20; (with_reducible refine (eq_calls HN.out (Kd.C_below CI.out (by repeat (first | (with_reducible exact Below.refl _ _) | apply below_drew | apply pw_below_drewN))) RC2.out (Kd.C_below CR.out (by repeat (first | (with_reducible exact Below.refl _ _) | apply below_drew | apply pw_below_drewN))) HNC.out (by have := HSZ.out; omega)).mono ?_); rintro e wb ⟨rfl, d2, rfl⟩)
      | (go_at_call 21; (with_reducible refine (awake_calls TW.out (by repeat (first | (with_reducible exact Below.refl _ _) | apply below_drew | apply pw_below_drewN))).mono ?_); rintro e w9 ⟨rfl, b_⟩; have B9 := Aside0.mk b_; clear b_))
    all_goals
      go_wp2
      have e2 := (B9.out.block D (blk_lt HDef.out)).trans HDef.out
      refine ⟨by simp, .inl ⟨_, _, rfl, run_takeDeferred e2, ?_⟩⟩
      exact ⟨_, results_tmp rfl _ _ _, rfl, Below_put (BWW.out.trans (B9.out.mono BWW.out.size)) (Nat.le_trans HG0.out HD.out) _⟩
  case done =>
    intro D xs m W hD hxs hI hDef
    obtain ⟨vo, h1, h2⟩ := hI.box
    have hlj : k ≤ j := by
      have h3 := hI.le
      have h4 := congrArg List.length hxs
      rw [List.length_map, HBS.out, HK.out] at h4
      omega
    rw [hxs, HBS.out] at h2
    obtain ⟨A7, c7, rfl⟩ := Kd.R_slice h2
    rw [HK.out] at h1 h2
    have hco := h1.cell
    have hBW : Below bn w3 W := B7.out.trans ⟨hI.be.os, hI.be.tape, hI.be.output, hI.be.size, fun q hq => hI.kp q (by have := SZ7.out; have := HBOO.out; omega) (by have := HBOO.out; omega)⟩
    have hnum : W.heap[bn]? = w7.heap[bn]? := hI.kp bn (by have := SZ7.out; have := HBOO.out; omega) (by have := HBOO.out; omega)
    have hcn : W.cell? ⟨bn, 0, none⟩ = some (.int .i64 j) := by
      have := BN7.out.cell
      unfold World.cell? at this ⊢
      rw [hnum]; exact this
    have BW := Aside0.mk (show Below w3.heap.size w3 W by rw [HBNN.out]; exact hBW)
    have BWW := Aside0.mk (BW3.out.trans (BW.out.mono BW3.out.size))
    have C7 := Aside0.mk (Kd.R_reads' h2)
    have CA := Aside0.mk (Kd.C_below C3.out BW.out)
    have CI := Aside0.mk (Kd.C_below (R_C RI.out).2.2 BW.out)
    have CR := Aside0.mk (Kd.C_below HR.out BWW.out)
    have TW := Aside0.mk (HT.out.below BWW.out)
    have RC2 := Aside0.mk (R_C RI.out).2.1
    have HD := Aside0.mk hD
    have HDef := Aside0.mk hDef
    clear h1 h2 hI hD hDef hxs hBW hnum
    have c8 : (k : Int) ≤ (c3 : Int) := by have := R3.out; omega
    have c9 : ((k : Int) < (j : Int)) = True ∨ k = j := by
      rcases Nat.lt_or_ge k j with h | h
      · exact .inl (eq_true (by omega))
      · exact .inr (by omega)
    clear hlj
    rcases c9 with c9 | rfl
    all_goals
      go_upto_region 15 with (fail)
      refine calm_way ?_
      go_region_with (first
        | (go_at_call 16; (with_reducible refine (same_calls HK.out (by have := HCN.out; omega) HMEM.out (Kd.C_below (by have := C7.out.2.2; rwa [HK.out] at this) (by repeat (first | (with_reducible exact Below.refl _ _) | apply below_drew | apply pw_below_drewN))) C7.out.2.1 (Kd.C_below CA.out (by repeat (first | (with_reducible exact Below.refl _ _) | apply below_drew | apply pw_below_drewN))) R3.out).mono ?_); rintro e wa ⟨rfl, d1, rfl⟩)
        | (go_at_call 20; (with_reducible refine (eq_calls HN.out (Kd.C_below CI.out (by repeat (first | (with_reducible exact Below.refl _ _) | apply below_drew | apply pw_below_drewN))) RC2.out (Kd.C_below CR.out (by repeat (first | (with_reducible exact Below.refl _ _) | apply below_drew | apply pw_below_drewN))) HNC.out (by have := HSZ.out; omega)).mono ?_); rintro e wb ⟨rfl, d2, rfl⟩)
        | (go_at_call 21; (with_reducible refine (awake_calls TW.out (by repeat (first | (with_reducible exact Below.refl _ _) | apply below_drew | apply pw_below_drewN))).mono ?_); rintro e w9 ⟨rfl, b_⟩; have B9 := Aside0.mk b_; clear b_))
      all_goals
        go_wp2
        have e2 := (B9.out.block D (blk_lt HDef.out)).trans HDef.out
        refine ⟨by simp, .inl ⟨_, _, rfl, run_takeDeferred e2, ?_⟩⟩
        exact ⟨_, results_tmp rfl _ _ _, rfl, Below_put (BWW.out.trans (B9.out.mono BWW.out.size)) (Nat.le_trans HG0.out HD.out) _⟩
end Go.Proofs.YthkmacgjekienaaDoor.P
