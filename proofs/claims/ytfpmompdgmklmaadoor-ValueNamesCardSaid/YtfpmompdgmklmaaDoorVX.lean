/- Nested lists: how deep they are; whether they may be. -/
import Derived.Test.YtfpmompdgmklmaaDoorVC
import Derived.Test.YtfpmompdgmklmaaDoorP6
import Derived.Deep.RegionHeld
import Derived.Test.YtfpmompdgmklmaaDoorVA
namespace Go.Proofs.YtfpmompdgmklmaaDoor.P
open Go.RowKit Go.Proofs.YtfpmompdgmklmaaDoorW.PrintWords Go.Proofs.YtfpmompdgmklmaaDoorW.PrintLast Go.Proofs.YtfpmompdgmklmaaDoorW.PrintMore
set_option linter.unusedVariables false
set_option linter.unusedSimpArgs false
theorem bring_is (a n : Int) (h0 : 0 < n) (h1 : n ≤ 4611686018427387904) : colophonref00_Bring.f a n = some (a % n) := by
 unfold colophonref00_Bring.f
 rw [if_neg (by omega), if_neg (by omega)]
 have h2 := Int.emod_nonneg a (show n ≠ 0 by omega)
 have h3 := Int.emod_lt_of_pos a h0
 have h4 : a.tmod n = a % n ∨ (a.tmod n = a % n - n ∧ a % n ≠ 0) := by
  rw [Int.tmod_eq_emod]
  by_cases hc : 0 ≤ a ∨ n ∣ a
  · rw [if_pos hc]; left; omega
  ·
   rw [if_neg hc]
   right
   refine ⟨by omega, fun e => hc (.inr (Int.dvd_of_emod_eq_zero e))⟩
 rcases h4 with h4 | ⟨h4, h5⟩
 · rw [h4, if_neg (by omega)]
 ·
  rw [h4, if_pos (by omega), v_wrap (by omega) (by omega)]
  congr 1
  omega
theorem depth_arr (x : S25) : qF_ (arrV [x]) = qF_ x + 1 := by simp [arrV, qF_, depthL]
theorem fit_arr (x : S25) : fitV (arrV [x]) = fitV x := by simp [arrV, fitV, fitL, show (⟨#[]⟩ : ByteArray).size = 0 from rfl]
theorem may_arr (x : S25) : mayV (arrV [x]) = mayV x := by simp [arrV, mayV, mayL, show (⟨#[]⟩ : ByteArray) = ByteArray.empty from rfl]
theorem depth_nest (n : Nat) : ∀ x, qF_ (qx_ n x) = n + qF_ x := by
 induction n with
 | zero => intro x; simp [qx_]
 | succ n ih => intro x; rw [qx_, ih, depth_arr]; omega
theorem fit_nest (n : Nat) : ∀ x, fitV (qx_ n x) = fitV x := by
 induction n with
 | zero => intro x; rfl
 | succ n ih => intro x; rw [qx_, ih, fit_arr]
theorem may_nest (n : Nat) : ∀ x, mayV (qx_ n x) = mayV x := by
 induction n with
 | zero => intro x; rfl
 | succ n ih => intro x; rw [qx_, ih, may_arr]
theorem sem_bring {a n r : Int} {w : World} (h : colophonref00_Bring.f a n = some r) : Calls Tryd.prog 34 #[.int .i64 a, .int .i64 n] w fun e w' => e = .returned (.int .i64 r) ∧ Below w.heap.size w w' :=
 (colophonref00_Bring.calls a n r w h).mono fun _ _ h => ⟨h.1, h.2.below⟩
def vB : S25 := ⟨1, true, ⟨#[]⟩, [], []⟩
def vZ : S25 := ⟨3, false, ⟨#[122]⟩, [], []⟩
def xy : List ByteArray := [⟨#[120]⟩, ⟨#[121]⟩]
theorem fit_two {x y : S25} (hx : fitV x = true) (hy : fitV y = true) : fitV (objV xy [x, y]) = true := by
 have h : fitV (objV xy [x, y]) = (fitV x && fitV y) := by simp [objV, fitV, fitL, xy, show (⟨#[]⟩ : ByteArray).size = 0 from rfl, show (⟨#[120]⟩ : ByteArray).size = 1 from rfl, show (⟨#[121]⟩ : ByteArray).size = 1 from rfl]
 rw [h, hx, hy]; rfl
theorem may_two {x y : S25} (hx : mayV x = true) (hy : mayV y = true) : mayV (objV xy [x, y]) = true := by
 have h : mayV (objV xy [x, y]) = (mayV x && mayV y) := by simp [objV, mayV, mayL, xy, show (⟨#[]⟩ : ByteArray) = ByteArray.empty from rfl]
 rw [h, hx, hy]; rfl
theorem depth_two (x y : S25) : qF_ (objV xy [x, y]) = max (qF_ x) (qF_ y) + 1 := by simp [objV, qF_, depthL]
theorem fit_v (k : Nat) : fitV (qx_ k vB) = true := by rw [fit_nest]; decide +kernel
theorem fit_z (k : Nat) : fitV (qx_ k vZ) = true := by rw [fit_nest]; decide +kernel
theorem depth_v (k : Nat) : qF_ (qx_ k vB) = k + 1 := by rw [depth_nest]; rfl
theorem depth_w (k m : Nat) : qF_ (objV xy [qx_ k vB, qx_ m vZ]) = max k m + 2 := by
 rw [depth_two, depth_nest, depth_nest, show qF_ vB = 1 from rfl, show qF_ vZ = 1 from rfl]; omega
theorem check_v (k : Nat) : checkV (qx_ k vB) = if k + 1 > 128 then 111 else 0 := by
 rw [checkV, may_nest, if_pos (by decide +kernel), depth_v]
theorem check_w (k m : Nat) : checkV (objV xy [qx_ k vB, qx_ m vZ]) = if max k m + 2 > 128 then 111 else 0 := by
 rw [checkV, if_pos (may_two (by rw [may_nest]; decide +kernel) (by rw [may_nest]; decide +kernel)), depth_w]
theorem addr0 (g k : Nat) : (⟨g, 0, none⟩ : Addr).add k = ⟨g, k, none⟩ := by
 unfold Addr.add
 split
 · next h => subst h; rfl
 · simp
theorem row2 {α : Type} (d : Kd α) {W0 : World} {e : Nat} {x y : α} {c1 c2 cs : List Value} (h1 : d.K W0 x c1) (l1 : c1.length = d.sz) (h2 : d.K W0 y c2) (l2 : c2.length = d.sz) (hcs : c1 ++ c2 = cs) : Kd.C d (W0.alloc (.cells cs.toArray e)) (some ⟨W0.heap.size, 0, none⟩) 2 [x, y] := by
 have hb := q6_ (Below.refl W0.heap.size W0) (Obj.cells cs.toArray e)
 have cell : ∀ k u, cs[k]? = some u → (W0.alloc (.cells cs.toArray e)).cell? ⟨W0.heap.size, k, none⟩ = some u := fun k u hk => by
  rw [q1_ (blk_new W0 _) k]; simpa using hk
 refine ⟨rfl, by decide, fun _ => ⟨_, rfl, fun j p hj => ?_⟩⟩
 match j, hj with
 | 0, hj =>
  cases hj
  exact ⟨c1, l1, d.K_below hb h1, fun i u hu => by
   have := cell i u (by rw [← hcs, List.getElem?_append_left (List.getElem?_eq_some_iff.1 hu).1]; exact hu)
   rw [addr0, Nat.zero_mul, Nat.zero_add]; exact this⟩
 | 1, hj =>
  cases hj
  exact ⟨c2, l2, d.K_below hb h2, fun i u hu => by
   have := cell (d.sz + i) u (by rw [← hcs, ← l1, List.getElem?_append_right (by omega)]; simpa using hu)
   rw [addr0, Nat.one_mul]; exact this⟩
 | j + 2, hj => simp at hj
theorem rowN (W0 : World) (e : Nat) : Kd.C Kd.string (W0.alloc (.cells #[.string (⟨#[120]⟩ : ByteArray), .string (⟨#[121]⟩ : ByteArray)] e)) (some ⟨W0.heap.size, 0, none⟩) xy.length xy :=
 row2 Kd.string (c1 := [.string (⟨#[120]⟩ : ByteArray)]) (c2 := [.string (⟨#[121]⟩ : ByteArray)]) rfl rfl rfl rfl rfl
end Go.Proofs.YtfpmompdgmklmaaDoor.P
/- Whether nested lists may be. -/
namespace Go.Proofs.YtfpmompdgmklmaaDoor.P
open Go.RowKit Go.Proofs.YtfpmompdgmklmaaDoorW.PrintWords Go.Proofs.YtfpmompdgmklmaaDoorW.PrintLast Go.Proofs.YtfpmompdgmklmaaDoorW.PrintMore
set_option linter.unusedVariables false
theorem check_vi (K : Nat) : checkV (qx_ K vB) = if (128 : Int) < (K : Int) + 1 then 111 else 0 := by
 rw [check_v]
 by_cases h : (128 : Int) < (K : Int) + 1
 · rw [if_pos h, if_pos (by omega)]
 · rw [if_neg h, if_neg (by omega)]
theorem check_wi (K M : Nat) : checkV (objV xy [qx_ K vB, qx_ M vZ]) = if (128 : Int) < max (K : Int) (M : Int) + 2 then 111 else 0 := by
 rw [check_w]
 by_cases h : (128 : Int) < max (K : Int) (M : Int) + 2
 · rw [if_pos h, if_pos (by omega)]
 · rw [if_neg h, if_neg (by omega)]
theorem far5 {W : World} {g k : Nat} {v0 v1 v2 v3 v4 : Value} (h : k ≠ g) : (((((W.setCell ⟨g, 0, none⟩ v0).setCell ⟨g, 1, none⟩ v1).setCell ⟨g, 2, none⟩ v2).setCell ⟨g, 3, none⟩ v3).setCell ⟨g, 4, none⟩ v4).heap[k]? = W.heap[k]? :=
 (Below.heap_setCell _ _ _ k h).trans ((Below.heap_setCell _ _ _ k h).trans ((Below.heap_setCell _ _ _ k h).trans ((Below.heap_setCell _ _ _ k h).trans (Below.heap_setCell _ _ _ k h))))
theorem put5 {W : World} {g : Nat} {v0 v1 v2 v3 v4 : Value} (h : W.heap[g]? = some (Obj.cells #[.int .i64 0, .bool false, .string (⟨#[]⟩ : ByteArray), .slice none 0 0, .slice none 0 0] 25)) : (((((W.setCell ⟨g, 0, none⟩ v0).setCell ⟨g, 1, none⟩ v1).setCell ⟨g, 2, none⟩ v2).setCell ⟨g, 3, none⟩ v3).setCell ⟨g, 4, none⟩ v4).heap[g]? = some (.cells #[v0, v1, v2, v3, v4] 25 (0, 0)) :=
 qv_ (qv_ (qv_ (qv_ (qv_ h 0 _ rfl) 1 _ rfl) 2 _ rfl) 3 _ rfl) 4 _ rfl
end Go.Proofs.YtfpmompdgmklmaaDoor.P
/- A box that was laid in a drawn region, filled; what Get tells, at letters. -/
namespace Go.Proofs.YtfpmompdgmklmaaDoor.P
open Go.RowKit Go.Proofs.YtfpmompdgmklmaaDoorW.PrintWords Go.Proofs.YtfpmompdgmklmaaDoorW.PrintLast Go.Proofs.YtfpmompdgmklmaaDoorW.PrintMore
set_option linter.unusedVariables false
theorem leafC {w W : World} {g lo hi : Nat} {x : S25} {v0 v1 v2 v3 v4 : Value} (h : W.heap[g]? = some (Obj.cells #[.int .i64 0, .bool false, .string (⟨#[]⟩ : ByteArray), .slice none 0 0, .slice none 0 0] 25)) (hl : g < lo ∨ hi ≤ g) (ho : Own lo hi W x (.agg #[v0, v1, v2, v3, v4])) (hb : Below w.heap.size w W) (hg : w.heap.size ≤ g) :
  (((((W.setCell ⟨g, 0, none⟩ v0).setCell ⟨g, 1, none⟩ v1).setCell ⟨g, 2, none⟩ v2).setCell ⟨g, 3, none⟩ v3).setCell ⟨g, 4, none⟩ v4).heap[g]? = some (.cells #[v0, v1, v2, v3, v4] 25 (0, 0)) ∧ Rds (((((W.setCell ⟨g, 0, none⟩ v0).setCell ⟨g, 1, none⟩ v1).setCell ⟨g, 2, none⟩ v2).setCell ⟨g, 3, none⟩ v3).setCell ⟨g, 4, none⟩ v4) x (.agg #[v0, v1, v2, v3, v4]) ∧ Below w.heap.size w (((((W.setCell ⟨g, 0, none⟩ v0).setCell ⟨g, 1, none⟩ v1).setCell ⟨g, 2, none⟩ v2).setCell ⟨g, 3, none⟩ v3).setCell ⟨g, 4, none⟩ v4) :=
 ⟨put5 h, (ho.keep (fun k h1 h2 _ => far5 (by omega))).reads, qq_ (qq_ (qq_ (qq_ (qq_ hb hg) hg) hg) hg) hg⟩
theorem leafS {w W : World} {g lo hi : Nat} {x : S25} {v0 v1 v2 v3 v4 : Value} (h : W.heap[g]? = some (Obj.cells #[.int .i64 0, .bool false, .string (⟨#[]⟩ : ByteArray), .slice none 0 0, .slice none 0 0] 25)) (hl : g < lo ∨ hi ≤ g) (ho : Sep lo hi W x (.agg #[v0, v1, v2, v3, v4])) (hb : Below w.heap.size w W) (hg : w.heap.size ≤ g) (hh : hi ≤ W.heap.size) :
  (((((W.setCell ⟨g, 0, none⟩ v0).setCell ⟨g, 1, none⟩ v1).setCell ⟨g, 2, none⟩ v2).setCell ⟨g, 3, none⟩ v3).setCell ⟨g, 4, none⟩ v4).heap[g]? = some (.cells #[v0, v1, v2, v3, v4] 25 (0, 0)) ∧ Sep lo hi (((((W.setCell ⟨g, 0, none⟩ v0).setCell ⟨g, 1, none⟩ v1).setCell ⟨g, 2, none⟩ v2).setCell ⟨g, 3, none⟩ v3).setCell ⟨g, 4, none⟩ v4) x (.agg #[v0, v1, v2, v3, v4]) ∧ Below w.heap.size w (((((W.setCell ⟨g, 0, none⟩ v0).setCell ⟨g, 1, none⟩ v1).setCell ⟨g, 2, none⟩ v2).setCell ⟨g, 3, none⟩ v3).setCell ⟨g, 4, none⟩ v4) ∧ hi ≤ (((((W.setCell ⟨g, 0, none⟩ v0).setCell ⟨g, 1, none⟩ v1).setCell ⟨g, 2, none⟩ v2).setCell ⟨g, 3, none⟩ v3).setCell ⟨g, 4, none⟩ v4).heap.size :=
 ⟨put5 h, ho.keep (fun k h1 h2 => far5 (by omega)), qq_ (qq_ (qq_ (qq_ (qq_ hb hg) hg) hg) hg) hg, by simpa using hh⟩
theorem qK_ {P : Program} {K : Act → World → Prop} {Q : Exit → Act → World → Prop} {a : Act} {w : World} {o : Oper} {ops : Array Oper} {E : Prop} (hg : o.guard = none) (h : o.wp P a w K Q) : if Region.wanted o (yielded ops a.tmps) = true then Oper.wp P o a w K Q else E := by
 have hw : Region.wanted o (yielded ops a.tmps) = true := by simp [Region.wanted, hg]
 rw [if_pos hw]; exact h
theorem fit_told {x y : S25} {s : ByteArray} {o : Option S25} (hf : fitV x = true) (ho : memberV x s = o) (hy : o.getD zV = y) : fitV y = true := by
 subst hy
 cases o with
 | none => decide +kernel
 | some y =>
  obtain ⟨k, i, t, l, n⟩ := x
  unfold memberV at ho
  split at ho
  · exact fit_mem hf (getV_mem (Nat.min_le_right _ _) ho)
  · cases ho
theorem sem_getS_at {x y : S25} {v : Value} {w : World} {s : ByteArray} {o : Option S25} {b : Bool} (ho : memberV x s = o) (hy : o.getD zV = y) (hb : o.isSome = b) (hr : Rds w x v) (hf : fitV x = true) :
  Calls Tryd.prog 24 #[v, .string s] w fun e w' => ∃ A3 c3 A4 c4, e = .returned (.tuple #[.agg #[.int .i64 y.f0, .bool y.f1, .string y.f2, .slice A3 y.f3.length c3, .slice A4 y.f4.length c4], .bool b]) ∧ Sep w.heap.size w'.heap.size w' y (.agg #[.int .i64 y.f0, .bool y.f1, .string y.f2, .slice A3 y.f3.length c3, .slice A4 y.f4.length c4]) ∧ Below w.heap.size w w' := by
 refine (sem_getS s hr hf).mono ?_
 rintro e w' ⟨u, rfl, hs, hb'⟩
 rw [ho] at hs ⊢
 rw [hy] at hs
 rw [hb]
 obtain ⟨A3, c3, A4, c4, rfl⟩ := hs.form
 exact ⟨A3, c3, A4, c4, rfl, hs, hb'⟩
theorem sem_getR_at {x y : S25} {v : Value} {w : World} {s : ByteArray} {o : Option S25} {b : Bool} (ho : memberV x s = o) (hy : o.getD zV = y) (hb : o.isSome = b) (hr : Rds w x v) (hf : fitV x = true) :
  Calls Tryd.prog 25 #[v, .string s] w fun e w' => ∃ A3 c3 A4 c4, e = .returned (.tuple #[.agg #[.int .i64 y.f0, .bool y.f1, .string y.f2, .slice A3 y.f3.length c3, .slice A4 y.f4.length c4], .bool b]) ∧ Own w.heap.size w'.heap.size w' y (.agg #[.int .i64 y.f0, .bool y.f1, .string y.f2, .slice A3 y.f3.length c3, .slice A4 y.f4.length c4]) ∧ Below w.heap.size w w' := by
 refine (sem_getR s hr hf).mono ?_
 rintro e w' ⟨u, rfl, hs, hb'⟩
 rw [ho] at hs ⊢
 rw [hy] at hs
 rw [hb]
 obtain ⟨A3, c3, A4, c4, rfl, -, -, -, -⟩ := hs.reads
 exact ⟨A3, c3, A4, c4, rfl, hs, hb'⟩
end Go.Proofs.YtfpmompdgmklmaaDoor.P
/- A name behind a row of names. -/
namespace Go.Proofs.YtfpmompdgmklmaaDoor.P
open Go.RowKit Go.Proofs.YtfpmompdgmklmaaDoorW.PrintWords Go.Proofs.YtfpmompdgmklmaaDoorW.PrintLast Go.Proofs.YtfpmompdgmklmaaDoorW.PrintMore
set_option linter.unusedVariables false
theorem below_grown_none {w w1 : World} (h : w.grownBy w1 none) : Below w.heap.size w w1 := ⟨h.os, h.tape, h.output, h.size, fun i hi => h.block i hi (by simp)⟩
theorem C_take {α : Type} {d : Kd α} {w : World} {A : Option Addr} {xs : List α} {p : α} (h : Kd.C d w A (xs.length + 1) (xs ++ [p])) : Kd.C d w A xs.length xs := by
 refine ⟨rfl, by have := h.2.1; omega, fun h0 => ?_⟩
 obtain ⟨ad, e, hc⟩ := h.2.2 (by omega)
 exact ⟨ad, e, fun j q hj => hc j q (by rw [List.getElem?_append_left (List.getElem?_eq_some_iff.1 hj).1]; exact hj)⟩
section
variable {P : Program} {ops : Array Oper} {rest : List Oper} {o : Oper} {a : Act} {Q : Exit → Act → World → Prop}
theorem append_name (hg : o.guard = none) (sO xO : Operand) (ho : o.op = .call { callee := .builtin .append, args := #[sO, xO], argTypes := #[23, 23] }) (hu : P.underlying 23 = some (.slice 9))
  (hi : (P.info? 9).map (fun i => (i.zero, i.size, i.bytes)) = some (some (.string ByteArray.empty), 1, 16)) {W : World} {base : Nat} {ok : Nat → Prop} {A : Option Addr} {c : Nat} {xs : List ByteArray} (HO : Kd.string.R 9 W base ok (.slice A xs.length c) xs) (hs : a.eval sO = .slice A xs.length c)
  (ad : Addr) (c2 : Nat) (hx : a.eval xO = .slice (some ad) 1 c2) (t : ByteArray) (hc : W.cell? ad = some (.string t)) (hbase : base ≤ W.heap.size) (hl : (xs.length + 1) * 16 ≤ 140737488355328)
  (h : ∀ A1 c1 w1, Kd.C Kd.string w1 A1 (xs.length + 1) (xs ++ [t]) → xs.length + 1 ≤ c1 → Kd.C Kd.string w1 A xs.length xs → W.grownBy w1 (Value.slice A xs.length c).ownBlock → wpList P ops Q rest (a.put o.dst (.slice A1 (xs.length + 1) c1)) w1) : wpList P ops Q (o :: rest) a W := by
 obtain ⟨i, hi1, hi2⟩ := Option.map_eq_some_iff.1 hi
 simp only [Prod.mk.injEq] at hi2
 obtain ⟨hz0, hz1, hz2⟩ := hi2
 have hcell : ∀ j u, ([Value.string t] : List Value)[j]? = some u → W.cell? (ad.add j) = some u := by
  intro j u hj
  match j, hj with
  | 0, hj => cases hj; rw [show ad.add 0 = ad from by unfold Addr.add; simp]; exact hc
  | j + 1, hj => simp at hj
 obtain ⟨hok, inner, hown, hr⟩ := HO
 have Hnew : ∀ v1 w1, w1.ownsRow base 9 1 v1 (xs.length + 1) (inner ++ [.string t]) → W.grownBy w1 (Value.slice A xs.length c).ownBlock → (v1.ownBlock = (Value.slice A xs.length c).ownBlock ∨ ∃ b, v1.ownBlock = some b ∧ W.heap.size ≤ b) → ∃ A1 c1, v1 = .slice A1 (xs.length + 1) c1 ∧ xs.length + 1 ≤ c1 ∧ Kd.C Kd.string w1 A1 (xs.length + 1) (xs ++ [t]) := by
  intro v1 w1 k1 k2 k3
  have := Kd.R_appended (d := Kd.string) (p := t) (cs := [.string t]) (okp := fun _ => False) (ok := fun _ => True) (fun _ _ => trivial) (hr.imp_ (fun _ _ hp => Kd.string.M_mono (fun _ hk => ⟨trivial, hk.2⟩) hp)) rfl (fun _ hk => hk.elim) (fun _ _ => trivial) k1 k2 k3
  obtain ⟨A1, c1, e, hl1, hC⟩ := Kd.R_reads this
  rw [List.length_append, List.length_singleton] at e hl1 hC
  exact ⟨A1, c1, e, hl1, hC⟩
 by_cases hr1 : xs.length + 1 ≤ c
 ·
  rcases hown.2 with ⟨e, hn⟩ | ⟨g, cap, cur, e, hge, _, _, _, _, _⟩
  · injection e with e1 e2 e3; omega
  ·
   injection e with e1 e2 e3
   subst e1 e3
   refine wpList_append_fits (P := P) W hg sO xO 23 ho base 9 i 1 hu hi1 hz1 g xs.length c inner hs hown ad 1 c2 [.string t] hx rfl hcell (by simp [Value.oneCell']) hr1 ?_
   intro w' k1 k2
   obtain ⟨A1, c1, e, hl1, hC⟩ := Hnew _ w' k1 k2 (.inl rfl)
   injection e with e1 e2 e3
   subst e1 e3
   exact h _ _ w' hC hl1 (C_take hC) k2
 ·
  have hread := Kd.R_reads (d := Kd.string) (e := 9) (w := W) (base := base) (ok := ok) (v := .slice A xs.length c) (xs := xs) ⟨hok, inner, hown, hr⟩
  obtain ⟨A', c', e, hl1, hC⟩ := hread
  injection e with e1 e2 e3
  subst e1 e3
  refine wpList_append_grows (P := P) W hg sO xO 23 ho 9 i (.string ByteArray.empty) 1 16 hu hi1 hz0 hz1 hz2 rfl (by omega) A xs.length c inner hs ?_ hown.1 ?_ ad 1 c2 [.string t] hx rfl hcell (by simp [Value.oneCell']) (by omega) (by have : maxLen = 9223372036854775807 := rfl; omega) hl ?_
  ·
   intro e
   rcases hown.2 with ⟨e1, hn⟩ | ⟨g, cap, cur, e1, _⟩
   · injection e1 with _ _ e3; exact ⟨hn, e3⟩
   · injection e1 with e1 _ _; rw [e] at e1; cases e1
  ·
   intro b eb j u hj
   rcases hown.2 with ⟨e1, hn⟩ | ⟨g, cap, cur, e1, hge, hh, hle, _, hsz, htk⟩
   · have h1 := hown.1; rw [hn] at h1; have h2 : inner = [] := List.eq_nil_of_length_eq_zero (by omega); rw [h2] at hj; simp at hj
   ·
    injection e1 with e1 _ _
    rw [eb] at e1
    injection e1 with e1
    subst e1
    rw [addr0, q1_ hh j]
    rw [← htk, List.getElem?_take] at hj
    split at hj
    · simpa using hj
    · cases hj
  ·
   intro v' w' k1 k2
   rcases k1.2 with ⟨_, hn⟩ | ⟨g, cap, cur, e1, hge, _⟩
   · omega
   ·
    obtain ⟨A1, c1, e, hl2, hC2⟩ := Hnew v' w' (own_less k1 hbase) ⟨k2.os, k2.tape, k2.output, k2.size, fun q hq hne => k2.block q hq (by simp)⟩ (.inr ⟨g, by rw [e1]; rfl, hge⟩)
    subst e
    exact h _ _ w' hC2 hl2 (Kd.qD_ hC (below_grown_none k2)) ⟨k2.os, k2.tape, k2.output, k2.size, fun q hq hne => k2.block q hq (by simp)⟩
end
theorem sem_copyA {x : S25} {v : Value} {w : World} (hr : Rds w x v) (hf : fitV x = true) : Calls Tryd.prog 15 #[v] w fun e w' => ∃ A3 c3 A4 c4, e = .returned (.agg #[.int .i64 x.f0, .bool x.f1, .string x.f2, .slice A3 x.f3.length c3, .slice A4 x.f4.length c4]) ∧ Kd.R k25 25 w' w.heap.size (fun k => some k ≠ (Value.slice A4 x.f4.length c4).ownBlock) (.slice A3 x.f3.length c3) x.f3 ∧ Kd.R Kd.string 9 w' w.heap.size (fun _ => True) (.slice A4 x.f4.length c4) x.f4 ∧ Below w.heap.size w w' := by
 obtain ⟨A3, c3, A4, c4, rfl, h3, l3, h4, l4⟩ := hr
 obtain ⟨k, hk⟩ := (copy15 _ x (Nat.le_refl _) hf).rounds
 refine (colophonref10_Copy.calls k _ _ _ _ _ _ _ _ _ _ _ _ _ _ _ h3 l3 h4 l4 hk).mono ?_
 rintro e w' ⟨v3, v4, rfl, g3, g4, hb⟩
 obtain ⟨B3, d3, rfl⟩ := Kd.qp_ g3
 obtain ⟨B4, d4, rfl⟩ := Kd.qp_ g4
 exact ⟨B3, d3, B4, d4, rfl, g3, g4, hb⟩
theorem list_kept {B : Nat} {W w1 : World} {v3 v4 : Value} {l : List S25} (h : Kd.R k25 25 W B (fun k => some k ≠ v4.ownBlock) v3 l) (hg : W.grownBy w1 v4.ownBlock) : Kd.R k25 25 w1 B (fun k => some k ≠ v4.ownBlock) v3 l :=
 Kd.qd_ (Kd.R_move (Kd.R_bound h) (fun k hk => hg.block k hk.2.2.1 hk.1)) (fun _ hk => hk.1)
theorem was_kept {x : S25} {B : Nat} {W w1 : World} {A3 A4 : Option Addr} {c3 c4 : Nat} (h3 : Kd.R k25 25 W B (fun k => some k ≠ (Value.slice A4 x.f4.length c4).ownBlock) (.slice A3 x.f3.length c3) x.f3) (h4 : x.f4.length ≤ c4) (g4 : Kd.C Kd.string w1 A4 x.f4.length x.f4) (hg : W.grownBy w1 (Value.slice A4 x.f4.length c4).ownBlock) : Rds w1 x (.agg #[.int .i64 x.f0, .bool x.f1, .string x.f2, .slice A3 x.f3.length c3, .slice A4 x.f4.length c4]) := by
 obtain ⟨-, l3, k3⟩ := Kd.R_reads' (list_kept h3 hg)
 exact ⟨A3, c3, A4, c4, rfl, k3, l3, g4, h4⟩
theorem lit1 {w : World} {A : Option Addr} {t : ByteArray} (h : Kd.C Kd.string w A 1 [t]) : ∃ ad, A = some ad ∧ w.cell? ad = some (.string t) := by
 obtain ⟨ad, e, hc⟩ := h.2.2 (by omega)
 obtain ⟨c, _, hk, hcell⟩ := hc 0 t rfl
 obtain rfl : c = [.string t] := hk
 have := hcell 0 _ rfl
 rw [show ad.add (0 * Kd.string.sz + 0) = ad from by unfold Addr.add; simp] at this
 exact ⟨ad, e, this⟩
theorem R_below {α : Type} {d : Kd α} {e base : Nat} {w w1 : World} {ok : Nat → Prop} {v : Value} {xs : List α} (h : Kd.R d e w base ok v xs) (hb : Below w.heap.size w w1) : Kd.R d e w1 base ok v xs :=
 Kd.qd_ (Kd.R_move (Kd.R_bound h) (fun k hk => hb.block k hk.2.2.1)) (fun _ hk => hk.1)
theorem own_ge {α : Type} {d : Kd α} {e base : Nat} {w : World} {ok : Nat → Prop} {v : Value} {xs : List α} (h : Kd.R d e w base ok v xs) : ∀ k, v.ownBlock = some k → base ≤ k ∧ k < w.heap.size := by
 obtain ⟨_, inner, hown, _⟩ := h
 rcases hown.2 with ⟨rfl, _⟩ | ⟨g, cap, cur, rfl, hge, hh, _⟩
 · intro k hk; cases hk
 · intro k hk; cases hk; exact ⟨hge, qY_ hh⟩
abbrev gA_ := @List.getElem_toArray
abbrev gB_ := @List.getElem_cons_zero
abbrev gC_ := @List.getElem_cons_succ
abbrev gD_ := @List.setIfInBounds_toArray
abbrev gE_ := @List.set_cons_zero
abbrev gF_ := @List.set_cons_succ
end Go.Proofs.YtfpmompdgmklmaaDoor.P
/- ValueLast: of an object that was made of members Get tells the last one of a name: plain facts, an append to a row of one's own. -/
namespace Go.Proofs.YtfpmompdgmklmaaDoor.P
open Go.RowKit Go.Proofs.YtfpmompdgmklmaaDoorW.PrintWords Go.Proofs.YtfpmompdgmklmaaDoorW.PrintLast Go.Proofs.YtfpmompdgmklmaaDoorW.PrintMore
set_option linter.unusedVariables false
set_option linter.unusedSimpArgs false
set_option maxHeartbeats 4000000 in
set_option maxRecDepth 100000 in
theorem sem_number_lit (n : Int) (w : World) (h0 : -9223372036854775808 ≤ n) (h1 : n ≤ 9223372036854775807) (hT : TAB w) : Calls Tryd.prog 26 #[.int .i64 n] w fun e w' => e = .returned (.agg #[.int .i64 2, .bool false, .string (numS n), .slice none 0 0, .slice none 0 0]) ∧ Below w.heap.size w w' := by
 have kP_ := Tryd.underlying25
 have HT := q0_.mk hT
 have HF : q0_ (strconv_Itoa_44.f n = some (numS n)) := ⟨by unfold strconv_Itoa_44.f; rw [if_pos ⟨h0, h1⟩]; rfl⟩
 clear h0 h1 hT
 go_enter Tryd.func26, Tryd.ntmps26
 go_wp2_with (first
  | ((with_reducible refine qZ_ (N := 2) rfl ?_); refine qJ_ ?hg (N := 2) ?hd (cs := #[.int .i64 0, .bool false, .string (⟨#[]⟩ : ByteArray), .slice none 0 0, .slice none 0 0]) (t := 25) ?hr ?_; (case hd => rfl); (case hg => rfl); (case hr => first | (go_simp; done) | (go_simp; rfl)); intro gr hgr w1 hbox hb; have GE := q0_.mk hgr; have BK := q0_.mk hbox; have HB := q0_.mk hb; clear hgr hbox hb)
  | (go_at_call 44; (with_reducible refine (strconv_Itoa_44.calls n _ _ (TAB.below HT.out HB.out) HF.out).mono ?_); rintro e w2 ⟨rfl, hb2⟩; have HB2 := q0_.mk hb2; have BK2 := q0_.mk (q2_ BK.out hb2); clear hb2; obtain ⟨z0, z1, z2, z3, z4, y0, y1, y2, y3, y4⟩ := blk5z BK2.out)
  | ((with_reducible refine qH_ (p := 2) rfl ?_); refine qW_ (w1 := w2.setCells gr 0 [.int .i64 2, .bool false, .string (numS n), .slice none 0 0, .slice none 0 0]) rfl rfl rfl ?hr ?_; (case hr => first | (go_simp; done) | (go_simp; rfl)); intro w3 hw; have HW := q0_.mk hw; have BK3 : q0_ (w3.heap[gr]? = some (.cells #[.int .i64 2, .bool false, .string (numS n), .slice none 0 0, .slice none 0 0] 25 (0, 0))) := ⟨by rw [hw]; exact blk_put5 BK2.out⟩; clear hw))
 refine bodyPost_ret (results_cell_row rfl _ _ gr 25 #[.int .i64 2, .bool false, .string (numS n), .slice none 0 0, .slice none 0 0] (0, 0) _ rfl BK3.out Tryd.underlying25 rfl (by kernel_rfl)) rfl ?_
 have hge : w.heap.size ≤ gr := Nat.le_of_eq GE.out.symm
 refine ⟨rfl, ?_⟩
 rw [HW.out]
 exact qb_ (q4_ HB.out HB2.out) hge
section
variable {P : Program} {ops : Array Oper} {rest : List Oper} {o : Oper} {a : Act} {Q : Exit → Act → World → Prop} {α : Type}
end
end Go.Proofs.YtfpmompdgmklmaaDoor.P
/- ValueLast: the walk. -/
namespace Go.Proofs.YtfpmompdgmklmaaDoor.P
open Go.RowKit Go.Proofs.YtfpmompdgmklmaaDoorW.PrintWords Go.Proofs.YtfpmompdgmklmaaDoorW.PrintLast Go.Proofs.YtfpmompdgmklmaaDoorW.PrintMore
set_option linter.unusedVariables false
set_option linter.unusedSimpArgs false
end Go.Proofs.YtfpmompdgmklmaaDoor.P
/- A row of bytes that came in. -/
namespace Go.Proofs.YtfpmompdgmklmaaDoor.P
open Go.RowKit Go.Proofs.YtfpmompdgmklmaaDoorW.PrintWords Go.Proofs.YtfpmompdgmklmaaDoorW.PrintLast Go.Proofs.YtfpmompdgmklmaaDoorW.PrintMore Go.ChangeShapes Go.WideShapes
set_option linter.unusedVariables false
section
variable {H : Type} {enc : TypeId × Value → H} {W : World}
end
end Go.Proofs.YtfpmompdgmklmaaDoor.P
