/- PieceDoes: what holds between two deeds. -/
import Derived.Test.YtfedlanbmibhkaaS38
import Derived.Test.YtfedlanbmibhkaaOB
namespace Go.Proofs.Ytfedlanbmibhkaa.P
open Go.RowKit Go.Shelf Go.Proofs.YtfedlanbmibhkaaW.PrintWords Go.Proofs.YtfedlanbmibhkaaW.PrintLast Go.Proofs.YtfedlanbmibhkaaW.PrintMore
set_option linter.unusedVariables false
set_option linter.unusedSimpArgs false
theorem ty_ne {w : World} {g : Nat} {c1 c2 : Array Value} {t1 t2 : TypeId} {f1 f2 : Nat × Nat} (h1 : w.heap[g]? = some (.cells c1 t1 f1)) (h2 : w.heap[g]? = some (.cells c2 t2 f2)) (h : t1 ≠ t2) : False := by
  rw [h1] at h2; injection h2 with h2; injection h2 with _ h2 _; exact h h2
theorem Tab_b.other {B : Nat} {w w' : World} {t1 t2 : Nat} {C1 C2 : Nat → Prop} {v1 v2 : Value} {ps1 ps2 : List (List Int)} (h1 : Tab_b B w t1 C1 v1 ps1) (h2 : Tab_b B w t2 C2 v2 ps2) (ha : t1 ≠ t2 ∧ ∀ b, v1.ownBlock = some b → v2.ownBlock ≠ some b) (e : Eff_b t1 v1.ownBlock w w') : Tab_b B w' t2 C2 v2 ps2 := by
  refine ((h2.sharp).move fun g hg hx => ?_).weaken fun _ h => h.1
  have b1 := h1.box
  have b2 := h2.box
  refine e.blk g hg ?_ ?_
  · rintro rfl
    rcases hx with e | e | ⟨-, cs, e⟩
    · exact ha.1 e
    · obtain ⟨cs, e⟩ := h2.rowAt _ e; exact ty_ne b1 e (by decide)
    · exact ty_ne b1 e (by decide)
  · intro eg
    obtain ⟨cs1, e1⟩ := h1.rowAt g eg.symm
    rcases hx with e | e | ⟨-, cs, e⟩
    · subst e; exact ty_ne b2 e1 (by decide)
    · exact ha.2 g eg.symm e
    · exact ty_ne e1 e (by decide)
theorem RxD.box {W : World} {rb : Nat} {D : Nat → Prop} {ps : List (List Int)} (h : RxD W rb D ps) : ∃ cs, W.heap[rb]? = some (.cells cs 74 (0, 0)) := h.rx.box
/-- a document's table under a change of blocks that are none of its own -/
theorem RxD.move {w w' : World} {rb : Nat} {D : Nat → Prop} {qs : List (List Int)} (h : RxD w rb D qs) (h1 : ∀ cs : Array Value, w.heap[rb]? = some (Obj.cells cs 74 (0, 0)) → w'.heap[rb]? = w.heap[rb]?) (h2 : ∀ g : Nat, D g → (∃ (cs : Array Value) (fr : Nat × Nat), w.heap[g]? = some (Obj.cells cs 5 fr)) → w'.heap[g]? = w.heap[g]?) (h3 : ∀ g : Nat, (∃ (cs : Array Value) (fr : Nat × Nat), w.heap[g]? = some (Obj.cells cs 3 fr)) → w'.heap[g]? = w.heap[g]?) : RxD w' rb D qs := by
  obtain ⟨A, c, Al, cl, h, hd⟩ := h
  have k1 := fun ad ea => h2 _ (hd ad ea) (h.tyB ad ea)
  have k2 := fun ad ea => h3 _ (h.tyL ad ea)
  refine ⟨A, c, Al, cl, ⟨(h1 _ h.blk).trans h.blk, h.cap, C_move h.C (fun ad ea _ => k1 ad ea), h.capL, C_move h.CL (fun ad ea _ => k2 ad ea), fun ad ea => ?_, fun ad ea => ?_⟩, hd⟩
  · rw [k1 ad ea]; exact h.tyB ad ea
  · rw [k2 ad ea]; exact h.tyL ad ea
theorem RxD.eff {B : Nat} {w w' : World} {t rb : Nat} {C D : Nat → Prop} {v : Value} {ps qs : List (List Int)} (h : RxD w rb D qs) (T : Tab_b B w t C v ps) (e : Eff_b t v.ownBlock w w') : RxD w' rb D qs := by
  have key : ∀ (g : Nat) (ty : TypeId) (cs : Array Value) (fr : Nat × Nat), w.heap[g]? = some (Obj.cells cs ty fr) → ty ≠ 71 → ty ≠ 22 → w'.heap[g]? = w.heap[g]? := fun g ty cs fr hg h1 h2 =>
    e.blk g (blk_ltF hg) (fun eb => by subst eb; exact ty_ne hg T.box h1) (fun eb => by obtain ⟨cs2, h'⟩ := T.rowAt _ eb.symm; exact ty_ne hg h' h2)
  exact h.move (fun cs hc => key _ 74 cs _ hc (by decide) (by decide)) (fun g _ ⟨cs, fr, hc⟩ => key _ 5 cs fr hc (by decide) (by decide)) (fun g ⟨cs, fr, hc⟩ => key _ 3 cs fr hc (by decide) (by decide))
theorem RxD.far {w w' : World} {rb rd : Nat} {D : Nat → Prop} {cs0 : Array Value} {qs : List (List Int)} (h : RxD w rd D qs) (hb : w.heap[rb]? = some (.cells cs0 74 (0, 0))) (hne : rb ≠ rd) (g : w.grownBy w' (some rb)) : RxD w' rd D qs := by
  have key : ∀ (k : Nat) (ty : TypeId) (cs : Array Value) (fr : Nat × Nat), w.heap[k]? = some (Obj.cells cs ty fr) → ty ≠ 74 → w'.heap[k]? = w.heap[k]? := fun k ty cs fr hk h1 =>
    g.block k (blk_ltF hk) (fun eb => by injection eb with eb; subst eb; exact ty_ne hk hb h1)
  exact h.move (fun cs hc => g.block _ (blk_ltF hc) (fun eb => by injection eb with eb; exact hne eb.symm)) (fun k _ ⟨cs, fr, hc⟩ => key _ 5 cs fr hc (by decide)) (fun k ⟨cs, fr, hc⟩ => key _ 3 cs fr hc (by decide))
/-- a row of bytes that is no piece is spoilt -/
theorem Tab_b.spoil {B : Nat} {w w' : World} {t : Nat} {C : Nat → Prop} {v : Value} {ps : List (List Int)} {ob : Option Nat} (h : Tab_b B w t C v ps) (hty : ∀ g, ob = some g → ∃ (cs : Array Value) (fr : Nat × Nat), w.heap[g]? = some (Obj.cells cs 5 fr)) (hC : ∀ g, ob = some g → ¬ C g) (hg : w.grownBy w' ob) : Tab_b B w' t C v ps :=
  h.move fun g hlt hx => hg.block g hlt fun e => by
    obtain ⟨cs, fr, hc⟩ := hty g e.symm
    rcases hx with hx | hx | hx
    · subst hx; exact ty_ne h.box hc (by decide)
    · obtain ⟨cs2, h'⟩ := h.rowAt _ hx; exact ty_ne h' hc (by decide)
    · exact hC g e.symm hx
theorem RxD.spoil {w w' : World} {rb : Nat} {D : Nat → Prop} {ps : List (List Int)} {ob : Option Nat} (h : RxD w rb D ps) (hty : ∀ g, ob = some g → ∃ (cs : Array Value) (fr : Nat × Nat), w.heap[g]? = some (Obj.cells cs 5 fr)) (hD : ∀ g, ob = some g → ¬ D g) (hg : w.grownBy w' ob) : RxD w' rb D ps :=
  h.move (fun cs hc => hg.block _ (blk_ltF hc) (fun e => by obtain ⟨c2, fr, h'⟩ := hty _ e.symm; exact ty_ne hc h' (by decide)))
    (fun g hd ⟨cs, fr, hc⟩ => hg.block _ (blk_ltF hc) (fun e => hD g e.symm hd))
    (fun g ⟨cs, fr, hc⟩ => hg.block _ (blk_ltF hc) (fun e => by obtain ⟨c2, fr2, h'⟩ := hty _ e.symm; exact ty_ne hc h' (by decide)))
/-- between two deeds: the program's table and the document's, twice -/
structure DI (B : Nat) (w0 W : World) (D : Nat → Prop) (ta : Nat) (va : Value) (pa : List (List Int)) (rb tc : Nat) (vc : Value) (pc : List (List Int)) (rd : Nat) : Prop where
  a : Tab_b B W ta D va pa
  c : Tab_b B W tc D vc pc
  b : RxD W rb D pa
  d : RxD W rd D pc
  ap : ta ≠ tc ∧ ∀ g, va.ownBlock = some g → vc.ownBlock ≠ some g
  ne : rb ≠ rd
  lb : B ≤ rb
  ld : B ≤ rd
  be : Below B w0 W
  sz : B ≤ W.heap.size
section
variable {B : Nat} {w0 W W' : World} {D D' : Nat → Prop} {ta : Nat} {va va' : Value} {pa pa' : List (List Int)} {rb tc : Nat} {vc : Value} {pc : List (List Int)} {rd : Nat}
theorem DI.below (h : DI B w0 W D ta va pa rb tc vc pc rd) (hb : Below W.heap.size W W') : DI B w0 W' D ta va pa rb tc vc pc rd :=
  ⟨h.a.below hb, h.c.below hb, h.b.below hb, h.d.below hb, h.ap, h.ne, h.lb, h.ld, h.be.trans (hb.mono h.sz), Nat.le_trans h.sz hb.size⟩
theorem DI.weaken (h : DI B w0 W D ta va pa rb tc vc pc rd) (hD : ∀ g, D g → D' g) : DI B w0 W D' ta va pa rb tc vc pc rd :=
  ⟨h.a.weaken hD, h.c.weaken hD, h.b.weaken hD, h.d.weaken hD, h.ap, h.ne, h.lb, h.ld, h.be, h.sz⟩
theorem DI.tight (h : DI B w0 W D ta va pa rb tc vc pc rd) : DI B w0 W (fun g => g < W.heap.size) ta va pa rb tc vc pc rd :=
  ⟨h.a.tight.weaken (fun _ h => h.2), h.c.tight.weaken (fun _ h => h.2), h.b.tight.weaken (fun _ h => h.2), h.d.tight.weaken (fun _ h => h.2), h.ap, h.ne, h.lb, h.ld, h.be, h.sz⟩
theorem DI.swap (h : DI B w0 W D ta va pa rb tc vc pc rd) : DI B w0 W D tc vc pc rd ta va pa rb :=
  ⟨h.c, h.a, h.d, h.b, ⟨h.ap.1.symm, fun g e1 e2 => h.ap.2 g e2 e1⟩, h.ne.symm, h.ld, h.lb, h.be, h.sz⟩
theorem DI.spoil {ob : Option Nat} (h : DI B w0 W D ta va pa rb tc vc pc rd) (hty : ∀ g, ob = some g → ∃ (cs : Array Value) (fr : Nat × Nat), W.heap[g]? = some (Obj.cells cs 5 fr)) (hD : ∀ g, ob = some g → ¬ D g) (hB : ∀ g, ob = some g → B ≤ g) (hg : W.grownBy W' ob) : DI B w0 W' D ta va pa rb tc vc pc rd :=
  ⟨h.a.spoil hty hD hg, h.c.spoil hty hD hg, h.b.spoil hty hD hg, h.d.spoil hty hD hg, h.ap, h.ne, h.lb, h.ld, pw_below_grown h.be ob h.sz hg hB, Nat.le_trans h.sz hg.size⟩
/-- what the program's Replace leaves of the rest -/
structure DJ (B : Nat) (w0 W : World) (D : Nat → Prop) (ta : Nat) (va : Value) (pa' pa : List (List Int)) (rb tc : Nat) (vc : Value) (pc : List (List Int)) (rd : Nat) : Prop where
  a : Tab_b B W ta D va pa'
  c : Tab_b B W tc D vc pc
  b : RxD W rb D pa
  d : RxD W rd D pc
  ap : ta ≠ tc ∧ ∀ g, va.ownBlock = some g → vc.ownBlock ≠ some g
  ne : rb ≠ rd
  lb : B ≤ rb
  ld : B ≤ rd
  be : Below B w0 W
  sz : B ≤ W.heap.size
theorem DI.rep (h : DI B w0 W D ta va pa rb tc vc pc rd) (hL : Left_b B ta (fun g => D g ∨ W.heap.size ≤ g) va pa' W W') : ∃ va', DJ B w0 W' (fun g => D g ∨ W.heap.size ≤ g) ta va' pa' pa rb tc vc pc rd := by
  obtain ⟨va', T, e, N⟩ := hL
  refine ⟨va', T, (h.a.other h.c h.ap e).weaken (fun _ h => .inl h), (h.b.eff h.a e).weaken (fun _ h => .inl h), (h.d.eff h.a e).weaken (fun _ h => .inl h), ⟨h.ap.1, fun g e1 e2 => ?_⟩, h.ne, h.lb, h.ld, e.to_below h.a.lo (fun b hb => (h.a.ownB b hb).1) h.be h.sz, Nat.le_trans h.sz e.size⟩
  rcases N with N | ⟨q, N, hq⟩
  · exact h.ap.2 g (N.symm.trans e1) e2
  · rw [N] at e1; cases e1
    have := (h.c.ownB g e2).2.1
    omega
theorem DJ.rep {D2 : Nat → Prop} (h : DJ B w0 W D ta va pa' pa rb tc vc pc rd) (hr : RxD W' rb (fun g => D g ∨ W.heap.size ≤ g) pa') (hg : W.grownBy W' (some rb)) (hD : ∀ g, D g ∨ W.heap.size ≤ g → D2 g) : DI B w0 W' D2 ta va pa' rb tc vc pc rd := by
  obtain ⟨cs, bx⟩ := h.b.box
  exact ⟨(h.a.grown bx hg).weaken (fun g h => hD g (.inl h)), (h.c.grown bx hg).weaken (fun g h => hD g (.inl h)), hr.weaken hD, (h.d.far bx h.ne hg).weaken (fun g h => hD g (.inl h)), h.ap, h.ne, h.lb, h.ld, pw_below_grown h.be _ h.sz hg (fun q hq => by injection hq with hq; subst hq; exact h.lb), Nat.le_trans h.sz hg.size⟩
/-- snapshots of both -/
theorem DI.snap {w1 w2 : World} {tn : Nat} {vn : Value} {rn : Nat} (h : DI B w0 W D ta va pa rb tc vc pc rd) (T : Tab_b B w1 tn D vn pa) (b1 : Below W.heap.size W w1) (l1 : W.heap.size ≤ tn) (o1 : ∀ b, vn.ownBlock = some b → W.heap.size ≤ b) (R : RxD w2 rn D pa) (b2 : Below w1.heap.size w1 w2) (l2 : w1.heap.size ≤ rn) : DI B w0 w2 D ta va pa rb tn vn pa rn := by
  have h2 := h.below (below_step b1 b2)
  refine ⟨h2.a, T.below b2, h2.b, R, ⟨?_, fun g e1 e2 => ?_⟩, ?_, h.lb, Nat.le_trans h.sz (Nat.le_trans b1.size l2), h2.be, h2.sz⟩
  · have := blk_lt h.a.box; omega
  · have := (h.a.ownB g e1).2.1; have := o1 g e2; omega
  · have := h.b.rx.lt; have := b1.size; omega
end
theorem add_more18 (a : Addr) (m n : Nat) (h : n ≠ 0) : a.add (m + n) = ⟨(a.add m).block, (a.add m).off + n, none⟩ := by
  rw [← add_add]
  show Addr.add (a.add m) n = _
  unfold Addr.add
  split <;> simp_all
theorem C34_at {w : World} {A : Option Addr} {n : Nat} {l : List (Int × Int × List Int × Bool × Bool)} (h : Kd.C k34 w A n l) (j : Nat) (hj : j < l.length) : ∃ ad f t xs Ax cx s1 s2, A = some ad ∧ w.cell? (ad.add (j * 5)) = some (.int .i64 f) ∧ w.cell? ⟨(ad.add (j * 5)).block, (ad.add (j * 5)).off + 1, none⟩ = some (.int .i64 t) ∧ w.cell? ⟨(ad.add (j * 5)).block, (ad.add (j * 5)).off + 2, none⟩ = some (.slice Ax (xs : List Int).length cx) ∧ w.cell? ⟨(ad.add (j * 5)).block, (ad.add (j * 5)).off + 3, none⟩ = some (.bool s1) ∧ w.cell? ⟨(ad.add (j * 5)).block, (ad.add (j * 5)).off + 4, none⟩ = some (.bool s2) ∧ xs.length ≤ cx ∧ Kd.C (Kd.int .u8) w Ax xs.length xs := by
  obtain ⟨h1, h2, h3⟩ := h
  obtain ⟨ad, e, h4⟩ := h3 (by omega)
  obtain ⟨d, hd⟩ := getElem_lt hj
  obtain ⟨c, hc1, hc2, hc3⟩ := h4 j d hd
  obtain ⟨Ax, cx, rfl, hl, hC⟩ := k34_K hc2
  have k : ∀ i u, _ := hc3
  refine ⟨ad, d.1, d.2.1, d.2.2.1, Ax, cx, d.2.2.2.1, d.2.2.2.2, e, k 0 _ rfl, ?_, ?_, ?_, ?_, hl, hC⟩
  · rw [← add_more18 _ _ _ (by decide)]; exact k 1 _ rfl
  · rw [← add_more18 _ _ _ (by decide)]; exact k 2 _ rfl
  · rw [← add_more18 _ _ _ (by decide)]; exact k 3 _ rfl
  · rw [← add_more18 _ _ _ (by decide)]; exact k 4 _ rfl
end Go.Proofs.Ytfedlanbmibhkaa.P
