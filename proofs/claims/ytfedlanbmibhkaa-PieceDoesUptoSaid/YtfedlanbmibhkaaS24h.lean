/- A range over a table that is none; a result that lies in a cell. -/
import Derived.Test.YtfedlanbmibhkaaS23
import Derived.RangeFuncBox
namespace Go.Proofs.Ytfedlanbmibhkaa.P
open Go.RowKit Go.Shelf Go.Proofs.YtfedlanbmibhkaaW.PrintWords Go.Proofs.YtfedlanbmibhkaaW.PrintLast Go.Proofs.YtfedlanbmibhkaaW.PrintMore
set_option linter.unusedVariables false
set_option linter.unusedSimpArgs false
attribute [local go_sem] Oper.semAt_some
theorem own_below (w : World) : OwnFrom w.heap.size (fun (_ : List Int) W => Below w.heap.size w W) := fun _ W W' row hs hg hr => hs.grown hg hs.size fun j e => (hr j e).1
theorem range_none {g : Operand} {p : Tmp} {body : Code} {Q : Exit → Act → World → Prop} {a : Act} {w : World} {b : Nat} {pv : Value} (hg : a.eval g = .func (.func 48) #[] #[.pointer (some ⟨b, 0, none⟩)]) (hN : NoT w pv) (hb : w.cell? ⟨b, 0, none⟩ = some pv)
    (hdone : ∀ D W, w.heap.size ≤ D → Below w.heap.size w W → W.heap[D]? = some (.deferred (some [])) → Q .normal { a with defers := { target := .collected D, args := #[] } :: a.defers } W) : (Code.rangeFunc g #[p] Code.skip body).wp Try.prog Q a w := by
  refine (wpIn_wide (n := 4)).1 ?_
  refine wpIn_rangeFunc_ownG rfl (by decide) (gf := 48) (lb := #[.pointer (some ⟨b, 0, none⟩)]) hg trivial (enters_of Try.func48 (by kernel_rfl) rfl)
    (nn_stops hN b hb) (fun _ _ => trivial) (fun W l o o' _ _ _ _ => trivial) (Below.refl _ _) (fun _ => rfl)
    (fun _ W => Below w.heap.size w W) (fun _ _ _ => False) (own_below w) (fun c s W W' row hs hg hr => hs) (Below.refl _ _)
    (fun x : Int => { tmps := (#[p].zip #[Value.int .u8 x]).foldl (fun t (q, v) => t.setIfInBounds q v) a.tmps, defers := [] }) ?assign ?body ?done ?stop
  case assign =>
    intro l x W K hK
    exact wpIn_skip hK
  case body => intro l pre x W _ hl; exact absurd hl (Nat.not_lt_zero _)
  case done => intro D xs W hD _ hI hK; exact hdone D W hD hI hK
  case stop => intro D c pre W _ h; exact h.elim
theorem results_bool {fn : Func} {p : Tmp} {w : World} {tmps : Array Value} {g : Nat} {b : Bool} (h : fn.results = #[.cell p 4]) (hp : tmps.getD p undef = .pointer (some ⟨g, 0, none⟩)) (hc : w.cell? ⟨g, 0, none⟩ = some (.bool b)) : (results fn tmps).run Try.prog w = .ok (.bool b) w := by
  have hagg : (isAgg 4).run Try.prog w = .ok false w := by
    unfold isAgg
    rw [Sem.run_bind, run_underlying Try.underlying4 w]
    rfl
  unfold results
  rw [show fn.results = [ResultVar.cell p 4].toArray from h, List.mapM_toArray]
  have hp' : tmps[p]?.getD undef = .pointer (some ⟨g, 0, none⟩) := by simpa using hp
  simp [Sem.run_bind, hp', asAddr, loadVar, hagg, hc]
/-- what stays, of PieceKnown's loop on -/
structure KS (w : World) (gb : Nat) (Ds : List Nat) (W : World) : Prop where
  kb : KB gb W
  be : Below w.heap.size w W
  ds : ∀ D ∈ Ds, W.heap[D]? = some (.deferred (some []))
theorem KS.below {w : World} {gb : Nat} {Ds : List Nat} {W W' : World} (h : KS w gb Ds W) (hb : Below W.heap.size W W') : KS w gb Ds W' :=
  ⟨h.kb.below hb, below_step h.be hb, fun D hD => (hb.block D ((Array.getElem?_eq_some_iff.1 (h.ds D hD)).1)).trans (h.ds D hD)⟩
theorem KS.apart {w : World} {gb : Nat} {Ds : List Nat} {W : World} {D : Nat} (h : KS w gb Ds W) (hD : D ∈ Ds) : D ≠ gb := fun e => by
  subst e
  have h1 := h.ds D hD
  rw [h.kb.out] at h1; cases h1
theorem Below_put {B : Nat} {a w : World} (h : Below B a w) {D : Nat} (hD : B ≤ D) (o : Obj) : Below B a (w.putObj D o) :=
  ⟨h.os, h.tape, h.output, by simpa [World.putObj] using h.size, fun k hk => (World.putObj_heap_other (by omega)).trans (h.block k hk)⟩
theorem KS.last {w : World} {gb : Nat} {Ds : List Nat} {W : World} (h : KS w gb Ds W) (D1 D2 : Nat) (h1 : D1 ∈ Ds) (h2 : D2 ∈ Ds) : (((W.setCell ⟨gb, 0, none⟩ (.bool true)).putObj D2 (.deferred none)).putObj D1 (.deferred none)).cell? ⟨gb, 0, none⟩ = some (.bool true) := by
  have hb : (W.setCell ⟨gb, 0, none⟩ (.bool true)).heap[gb]? = some (.cells #[.bool true] 4 (0, 0)) := by
    have := (show Boxed W gb 4 (.bool false) from h.kb.out).set (.bool true)
    exact this
  refine blk_cell (t := 4) (cs := #[.bool true]) ?_ 0
  rw [World.putObj_heap_other (fun e => h.apart h1 e.symm), World.putObj_heap_other (fun e => h.apart h2 e.symm)]
  exact hb
theorem KS.more {w : World} {gb : Nat} {Ds : List Nat} {W : World} {D : Nat} (h : KS w gb Ds W) (hD : W.heap[D]? = some (.deferred (some []))) : KS w gb (D :: Ds) W :=
  ⟨h.kb, h.be, fun E hE => by rcases List.mem_cons.mp hE with rfl | hE; exact hD; exact h.ds E hE⟩
end Go.Proofs.Ytfedlanbmibhkaa.P
