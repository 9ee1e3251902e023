/- A loop over the bodies that collects them: what stays and what it leaves. -/
import Derived.Test.YthkmacgjekienaaDoorF4
import Derived.RangeFuncBox
namespace Go.Proofs.YthkmacgjekienaaDoor.P
attribute [-simp] List.length_drop List.length_take ByteArray.size_append
open Go.RowKit Go.Shelf Go.Proofs.YthkmacgjekienaaDoor.Pure Go.Proofs.YthkmacgjekienaaDoorW.PrintWords Go.Proofs.YthkmacgjekienaaDoorW.PrintLast Go.Proofs.YthkmacgjekienaaDoorW.PrintMore
set_option linter.unusedVariables false
set_option linter.unusedSimpArgs false
/-- a walk's stop -/
theorem tstop {p : Prop} (h : p) : p := h
section
variable {F : Fence} {n : Nat} {P : Program} {ops : Array Oper} {rest : List Oper} {o : Oper} {a : Act} {Q : Exit → Act → World → Prop} {α : Type}
/-- append(v, x) within a round. -/
theorem in_append (d : Kd α) {W : World} (base : Nat) (hgd : o.guard = none) (s x : Operand) (t e : TypeId) (z : Value) (bytes : Nat)
    (ho : o.op = .call { callee := .builtin .append, args := #[s, x], argTypes := #[t, t] })
    (ht : P.underlying t = some (.slice e)) (hinfo : (P.info? e).map (fun i => (i.zero, i.size, i.bytes)) = some (some z, d.sz, bytes)) (hz : z.cells.size = d.sz) (hs0 : 0 < d.sz) (hb0 : 0 < bytes)
    (v : Value) (xs : List α) (p : α) (cs : List Value) (ok okp : Nat → Prop) (hs : a.eval s = v) (hx : a.eval x = .slice (some ⟨W.heap.size, 0, none⟩) 1 1) (hp : d.M W base okp p cs) (hokp : ∀ k, okp k → ok k ∧ some k ≠ v.ownBlock) (hfresh : ∀ k, W.heap.size ≤ k → ok k)
    (HO : d.R e W base ok v xs) (hbase : base ≤ W.heap.size) (hl : (xs.length + 1) * bytes ≤ 140737488355328)
    (h : ∀ v1 w1, d.R e w1 base ok v1 (xs ++ [p]) → W.grownBy w1 v.ownBlock → (v1.ownBlock = v.ownBlock ∨ ∃ b, v1.ownBlock = some b ∧ W.heap.size ≤ b) → wpListIn F n P ops Q rest (a.put o.dst v1) w1) :
    wpListIn F n P ops Q (o :: rest) a (W.alloc (.cells cs.toArray e)) := by
  obtain ⟨h0, inner, hown, hr⟩ := HO
  obtain ⟨i0, hi, hzz⟩ := Option.map_eq_some_iff.1 hinfo
  simp only [Prod.mk.injEq] at hzz
  obtain ⟨hz0, hz1, hz2⟩ := hzz
  have hlen : xs.length + 1 ≤ 140737488355328 := Nat.le_trans (Nat.le_mul_of_pos_right _ hb0) hl
  have hcl := d.K_len (d.K_of_M hp)
  refine wpListIn_plain hgd fun K hK' => ?_
  obtain ⟨v', w', hrun, r1, r2, _, r4⟩ := run_append_own_at (P := P) (W.alloc (.cells cs.toArray e)) base t o.type e i0 z d.sz bytes ht hi hz0 hz1 hz2 hz hs0 v xs.length inner (hown.alloc _) ⟨W.heap.size, 0, none⟩ 1 1 cs (by rw [hcl]; simp)
    (by simpa using World.news_of_block (cs := cs.toArray) (t := e) (fr := (0, 0)) (heap_alloc_new W (.cells cs.toArray e))) (d.K_one (d.K_of_M hp)) (by simp only [maxLen]; omega) hl (by simp; omega)
  have hg : W.grownBy w' v.ownBlock := World.grownBy.trans (World.grownBy_alloc W _ _) r2
  have hat : v'.ownBlock = v.ownBlock ∨ ∃ b, v'.ownBlock = some b ∧ W.heap.size ≤ b := by
    rcases r4 with r4 | r4
    · exact .inl r4
    · exact .inr ⟨_, r4, by simp⟩
  unfold Oper.wpIn
  refine ⟨?_, ?_⟩
  · simp [Oper.about, ho, resolve, Target.leads, Sem.run_pure]
  · rw [Oper.semAt_plain F _ _ (by rw [ho]; intro c hc'; cases hc')]
    simp [execOp, ho, resolve, invoke, builtin, hs, hx, hrun, Result.andThen]
    exact hK' _ _ (h v' w' (Kd.R_appended h0 hr hp hokp hfresh r1 hg hat) hg hat)
end
/-- what the loop's own blocks of book-keeping do not turn -/
theorem R_ownFrom {α : Type} {d : Kd α} {e : Nat} {W W' : World} {lo : Nat} {ok : Nat → Prop} {v : Value} {xs : List α} {row : Option Nat} (h : d.R e W lo ok v xs) (hg : W.grownBy W' row) (hr : ∀ r, row = some r → ∃ o : Obj, W.heap[r]? = some o ∧ o.isCells = false) : d.R e W' lo ok v xs :=
  Kd.R_mono (Kd.R_step (Kd.R_bound h) fun k hk hlt => hg.block k hlt fun e => by
    obtain ⟨_, _, _, q, _, cells, hc⟩ := hk
    obtain ⟨o, ho, hcell⟩ := hr k e.symm
    rw [hc] at ho; cases ho; cases hcell) fun _ hk => hk.1
/-- between two rounds: the box's rows are newer than the loop; what lay there lies as it did, but for the box -/
structure CI (w0 wS : World) (bo : Nat) (pre : List (Value × List Int)) (W : World) : Prop where
  box : ∃ vo, Boxed W bo 22 vo ∧ Kd.R (Kd.slice 5 (Kd.int .u8)) 27 W wS.heap.size (fun k => wS.heap.size ≤ k) vo (pre.map (·.2))
  kp : ∀ k, k < wS.heap.size → k ≠ bo → W.heap[k]? = wS.heap[k]?
  be : Below w0.heap.size wS W
theorem CI.start {w0 wS : World} {bo : Nat} (h : Boxed wS bo 22 (.slice none 0 0)) : CI w0 wS bo [] wS := ⟨⟨_, h, Kd.R_nil _ _ _ _ _⟩, fun _ _ _ => rfl, Below.refl _ _⟩
theorem CI.own {w0 wS : World} {bo : Nat} (hbo : bo < wS.heap.size) (h0 : w0.heap.size ≤ wS.heap.size) : OwnFrom wS.heap.size (CI w0 wS bo) := fun pre W W' row hs hg hr => by
  obtain ⟨vo, h1, h2⟩ := hs.box
  refine ⟨⟨vo, h1.kept hg fun e => ?_, R_ownFrom h2 hg fun r e => (hr r e).2⟩, fun k hk hb => (hg.block k (Nat.lt_of_lt_of_le hk hs.be.size) fun e => ?_).trans (hs.kp k hk hb), hs.be.grown hg (Nat.le_trans h0 hs.be.size) fun j e => Nat.le_trans h0 (hr j e).1⟩
  · have := (hr bo e.symm).1; omega
  · have := (hr k e.symm).1; omega
/-- a body is collected -/
theorem CI.step {w0 wS : World} {bo : Nat} {pre : List (Value × List Int)} {W : World} (hs : CI w0 wS bo pre W) (hbo : bo < wS.heap.size) (h0 : w0.heap.size ≤ bo) {g : Nat} (hg : g < wS.heap.size) (hgb : g ≠ bo) {vo v1 : Value} (h1 : Boxed W bo 22 vo) (h2 : Kd.R (Kd.slice 5 (Kd.int .u8)) 27 W wS.heap.size (fun k => wS.heap.size ≤ k) vo (pre.map (·.2)))
    {x : Value × List Int} {w1 : World} (r1 : Kd.R (Kd.slice 5 (Kd.int .u8)) 27 w1 wS.heap.size (fun k => wS.heap.size ≤ k) v1 (pre.map (·.2) ++ [x.2])) (r2 : W.grownBy w1 vo.ownBlock) :
    KeepsFrom wS.heap.size W (w1.setCell ⟨bo, 0, none⟩ v1) ∧ Kpp w0 g W (w1.setCell ⟨bo, 0, none⟩ v1) ∧ CI w0 wS bo (pre ++ [x]) (w1.setCell ⟨bo, 0, none⟩ v1) := by
  have hvo : ∀ k, vo.ownBlock = some k → wS.heap.size ≤ k := fun k e => Kd.R_base h2 k e
  have hv1 : ∀ k, v1.ownBlock = some k → wS.heap.size ≤ k := fun k e => Kd.R_base r1 k e
  have b1 := h1.kept r2 (fun e => by have := hvo bo e.symm; omega)
  have hbe : Below w0.heap.size W (w1.setCell ⟨bo, 0, none⟩ v1) := ((Below.refl w0.heap.size W).grown r2 (Nat.le_trans (Nat.le_trans h0 (Nat.le_of_lt hbo)) hs.be.size) fun j e => Nat.le_trans (Nat.le_trans h0 (Nat.le_of_lt hbo)) (hvo j e)).setCell (p := ⟨bo, 0, none⟩) h0 _
  have kp : ∀ k, k < W.heap.size → k ≠ bo → some k ≠ vo.ownBlock → (w1.setCell ⟨bo, 0, none⟩ v1).heap[k]? = W.heap[k]? := fun k hk hb hv => (Below.heap_setCell w1 ⟨bo, 0, none⟩ v1 k hb).trans (r2.block k hk hv)
  refine ⟨?_, ⟨hbe, fun hgl => kp g hgl hgb fun e => by have := hvo g e.symm; omega⟩, ⟨⟨v1, b1.set v1, ?_⟩, fun k hk hb => (kp k (Nat.lt_of_lt_of_le hk hs.be.size) hb fun e => by have := hvo k e.symm; omega).trans (hs.kp k hk hb), hs.be.trans hbe⟩⟩
  · refine ((KeepsOthers.of_grownBy r2 fun j o ej hj => ?_).trans (KeepsOthers.setCell _ _ _)).from _
    obtain ⟨cells, hc⟩ := Kd.R_typed h2 j ej
    rw [hc] at hj; cases hj; rfl
  · rw [List.map_append]
    exact Kd.R_far r1 (fun k hk e => by have e2 : k = bo := e; omega) v1
theorem Rd.moved {lo : Nat} {w W : World} {g : Nat} {v : Value} {B : List Int} {cl : Bool} (h : Rd lo w g v B cl) (hg : W.heap[g]? = w.heap[g]?) (hr : ∀ k, v.ownBlock = some k → W.heap[k]? = w.heap[k]?) : Rd lo W g v B cl := by
  refine ⟨hg.trans h.blk, ?_, h.lo⟩
  have h1 := Kd.R_tight (d := Kd.int .u8) rfl h.row
  exact Kd.R_mono (Kd.R_step h1 fun k hk _ => hr k hk.symm) fun _ _ => trivial
theorem all1_seq {w0 w : World} {g : Nat} {A : Option Addr} {n c : Nat} {l0 : List Int} (hv : Vw g w A n c l0) (hg : g < w.heap.size) (hb : Byt l0) (hn : n ≤ 140737488351232) (hT : TAB w0) (hB : Below w0.heap.size w0 w) (b : Nat) (hbx : w.cell? ⟨b, 0, none⟩ = some (.slice A n c)) :
    SeqX Fence.wide 3 Tryd.prog 34 #[.pointer (some ⟨b, 0, none⟩)] (fun x : Value × List Int => #[x.1]) (Hx w.heap.size (bodT l0).1) (Kpp w0 g) (fun xs => xs.map (·.2) = (bodT l0).1) (fun pre => ∃ k, pre.map (·.2) = (bodT l0).1.take k) w :=
  fun l J Jx W hW hJ _ hY h0 => all1_in hv hg hb hn hT hB b hbx l J Jx W hW hJ hY h0
theorem Hx_own {lo : Nat} {bs : List (List Int)} {B : Nat} (m : Nat) (pre : List (Value × List Int)) (x : Value × List Int) : OwnFrom B (fun (_ : Unit) W => Hx lo bs m pre x W) := fun _ W W' row hs hg hr => ⟨R_ownFrom hs.1 hg fun r e => (hr r e).2, hs.2⟩
theorem Kpp_book {w0 w : World} {g : Nat} (h0 : w0.heap.size ≤ w.heap.size) (hg : g < w.heap.size) (W : World) (l : Nat) (o o' : Obj) (hl : w.heap.size ≤ l) (h : W.heap[l]? = some o) (_ : o.isCells = false) (_ : o.isWalk = false) : Kpp w0 g W (W.putObj l o') :=
  ⟨belowK_b h0 W l o o' hl h (by assumption) (by assumption), fun _ => World.putObj_heap_other (by omega)⟩
theorem Rd.view {lo : Nat} {w : World} {g : Nat} {A : Option Addr} {n c : Nat} {B : List Int} {cl : Bool} (h : Rd lo w g (.slice A n c) B cl) (s bo : Nat) {t : TypeId} {u : Value} (hs : s < w.heap.size) (h1 : s ≠ g) (h2 : s ≠ bo) (hb : Boxed w bo t u) (ht : t ≠ 5) : ∃ gb, gb < w.heap.size ∧ Vw gb w A n c B ∧ gb ≠ g ∧ gb ≠ bo := by
  obtain ⟨e1, e2, e3⟩ := Kd.R_reads' h.row
  cases A with
  | none => exact ⟨s, hs, ⟨e1.symm, by rw [e1]; exact e3, e2, fun ad e => by cases e⟩, h1, h2⟩
  | some ad =>
    obtain ⟨gb, rfl⟩ := Kd.R_head h.row
    obtain ⟨cells, hc⟩ := Kd.R_typed h.row gb rfl
    refine ⟨gb, blk_lt hc, ⟨e1.symm, by rw [e1]; exact e3, e2, fun ad e => by cases e; rfl⟩, ?_, ?_⟩
    · rintro rfl
      rw [h.blk] at hc; cases hc
    · rintro rfl
      rw [show w.heap[gb]? = _ from hb] at hc
      cases hc
      exact ht rfl
end Go.Proofs.YthkmacgjekienaaDoor.P
