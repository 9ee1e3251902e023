/- The recursive calls as hypotheses; a call of a function that is held in a slot. -/
import Derived.Test.YtfpmompdgmklmaaDoorV0
namespace Go.Proofs.YtfpmompdgmklmaaDoor.P
open Go.RowKit Go.Proofs.YtfpmompdgmklmaaDoorW.PrintWords Go.Proofs.YtfpmompdgmklmaaDoorW.PrintLast Go.Proofs.YtfpmompdgmklmaaDoorW.PrintMore
set_option linter.unusedVariables false
abbrev MayF (f0 : Int) (f1 : Bool) (f2 : ByteArray) (f3 : List S25) (f4 : List ByteArray) : Prop :=
 ∀ (A3 : Option Addr) (c3 : Nat) (A4 : Option Addr) (c4 : Nat) (r : Bool) (w : World), Kd.C k25 w A3 f3.length f3 → f3.length ≤ c3 → Kd.C Kd.string w A4 f4.length f4 → f4.length ≤ c4 → value_mayBe.f f0 f1 f2 f3 f4 = some r →
  Calls Tryd.prog 37 #[.agg #[.int .i64 f0, .bool f1, .string f2, .slice A3 f3.length c3, .slice A4 f4.length c4]] w fun e w' => e = .returned (.bool r) ∧ Below w.heap.size w w'
abbrev EqF (f0 : Int) (f1 : Bool) (f2 : ByteArray) (f3 : List S25) (f4 : List ByteArray) : Prop :=
 ∀ (A3 : Option Addr) (c3 : Nat) (A4 : Option Addr) (c4 : Nat) (g0 : Int) (g1 : Bool) (g2 : ByteArray) (B3 : Option Addr) (d3 : Nat) (g3 : List S25) (B4 : Option Addr) (d4 : Nat) (g4 : List ByteArray) (r : Bool) (w : World), Kd.C k25 w A3 f3.length f3 → f3.length ≤ c3 → Kd.C Kd.string w A4 f4.length f4 → f4.length ≤ c4 → Kd.C k25 w B3 g3.length g3 → g3.length ≤ d3 → Kd.C Kd.string w B4 g4.length g4 → g4.length ≤ d4 → value_Equal.f f0 f1 f2 f3 f4 g0 g1 g2 g3 g4 = some r →
  Calls Tryd.prog 22 #[.agg #[.int .i64 f0, .bool f1, .string f2, .slice A3 f3.length c3, .slice A4 f4.length c4], .agg #[.int .i64 g0, .bool g1, .string g2, .slice B3 g3.length d3, .slice B4 g4.length d4]] w fun e w' => e = .returned (.bool r) ∧ Below w.heap.size w w'
def conM.f (l : List S25) : Option Bool := some (!mayL l)
def conE.f (l m : List S25) : Option Bool := some (eqL l m)
abbrev ConM (l : List S25) : Prop :=
 ∀ (A : Option Addr) (c : Nat) (r : Bool) (w : World), Kd.C k25 w A l.length l → l.length ≤ c → conM.f l = some r → Calls Tryd.prog 46 #[.slice A l.length c, .func (.func 47) #[] #[]] w fun e w' => e = .returned (.bool r) ∧ Below w.heap.size w w'
abbrev ConE (l : List S25) : Prop :=
 ∀ (A : Option Addr) (c : Nat) (B : Option Addr) (d : Nat) (m : List S25) (r : Bool) (w : World), Kd.C k25 w A l.length l → l.length ≤ c → Kd.C k25 w B m.length m → m.length ≤ d → conE.f l m = some r → Calls Tryd.prog 43 #[.slice A l.length c, .slice B m.length d, .func (.func 22) #[] #[]] w fun e w' => e = .returned (.bool r) ∧ Below w.heap.size w w'
theorem mem_T25 {l : List S25} {i : Int} (h0 : 0 ≤ i) (h1 : i < (l.length : Int)) : qj_ l i ∈ l := by
 unfold qj_
 rw [List.getD_eq_getElem?_getD, List.getElem?_eq_getElem (show i.toNat < l.length by omega)]
 exact List.getElem_mem _
theorem goesD_ {P : Program} {ops : Array Oper} {Q : Exit → Act → World → Prop} {rest : List Oper} {oi : Oper} {a : Act} {w : World} (N : Option Tmp) (hd : oi.dst = N) (hg : oi.guard = none) {f : FuncId} {fn : Func} {ars : Array Operand} {ts : Array TypeId} (t : Tmp) (hf : P.funcs[f]? = some fn) (hname : (fn.name == "runtime.NumGoroutine") = false) (hb : fn.body.isSome = true) (args : Array Value)
  (hop : oi.op = .call { callee := .value (.tmp t), args := ars, argTypes := ts }) (hfun : a.tmps.getD t undef = .func (.func f) #[] #[]) (hargs : ars.map a.eval = args)
  (h : Calls P f args w fun e w' => ∃ v, e = .returned v ∧ wpList P ops Q rest (a.put N v) w') : wpList P ops Q (oi :: rest) a w := by
 refine wpList_plain hg fun K hK => ?_
 have he := enters_ hf hname hb args w
 have hrun : (execOp a.eval oi).run P w = .ok (.enter f args) w := by
  unfold execOp
  have hfun' : a.eval (.tmp t) = .func (.func f) #[] #[] := hfun
  simp [hop, resolve, Deferred.ofValue, invoke, hfun', hargs, he]
 unfold Oper.wp
 rw [hrun, Oper.upon_enter]
 refine h.mono fun e w'' hh => ?_
 obtain ⟨v, rfl, hk⟩ := hh
 subst hd
 exact hK _ _ hk
end Go.Proofs.YtfpmompdgmklmaaDoor.P
