/- Words of this work beside the printed ones: the bytes of a text as a row that is only read. -/
import Derived.Test.YthkmacgjekienaaDoorWWords
import Derived.Test.YthkmacgjekienaaDoorWMore
import Derived.Test.YthkmacgjekienaaDoorWGuard
import Derived.Lib.SlBytesConst
namespace Go.Proofs.YthkmacgjekienaaDoor.P
open Go.RowKit Go.Proofs.YthkmacgjekienaaDoorW.PrintWords Go.Proofs.YthkmacgjekienaaDoorW.PrintLast Go.Proofs.YthkmacgjekienaaDoorW.PrintMore

/-- '[]byte(s)'. -/
def X_bytes.f (s : ByteArray) : Option (List Int) := if s.size ≤ 9223372036854775807 then some (bytesOf s) else none
/-- '[]byte("..")' of a constant. -/
def X_lit.f (l : List Int) : Option (List Int) := some l
theorem X_bytes.of {s : ByteArray} {l : List Int} (h : X_bytes.f s = some l) : s.size ≤ 9223372036854775807 ∧ bytesOf s = l := by
  unfold X_bytes.f at h
  split at h
  · exact ⟨by assumption, Option.some.inj h⟩
  · cases h

section
variable {P : Program} {ops : Array Oper} {rest : List Oper} {o o1 o2 : Oper} {a : Act} {Q : Exit → Act → World → Prop} {W : World}

theorem V_bytes (W : World) (e : TypeId) (s : ByteArray) (hs : s.size ≤ 9223372036854775807) (base : Nat) :
    Kd.V (Kd.int .u8) e (Lib.bytesWorld W e s) base (fun k => W.heap.size ≤ k) (.slice (some ⟨W.heap.size, 0, none⟩) s.size (grownCap W s.size 0 e)) (bytesOf s) := by
  have hl := bytesOf_length s
  refine ⟨_, _, by rw [hl], by rw [hl]; exact grownCap_ge _ _ _ _, fun W' hW => ?_⟩
  have hb := hW W.heap.size (Nat.le_refl _) (by rw [Lib.bytesWorld_size]; omega)
  rw [hl]
  refine Kd.C_of_reads (d := (0 : Int)) (h1 := fun _ => rfl) ?_
  obtain ⟨h1, h2, h3⟩ := bytes_reads W e s hs
  refine ⟨h1, h2, fun hn => ?_⟩
  obtain ⟨ad, he, hc⟩ := h3 hn
  obtain rfl := Option.some.inj he
  refine ⟨_, rfl, fun j hj => ?_⟩
  have hc' := hc j hj
  rw [add_plain] at hc' ⊢
  unfold World.cell? at hc' ⊢
  simp only at hc' ⊢
  rw [hb]
  exact hc'

theorem conv_run (hgd : o.guard = none) (s : Operand) (src dst e : TypeId) {u : TypeDesc} (ho : o.op = .convert src dst s) (hs : P.underlying src = some u) (hd : P.underlying dst = some (.slice e)) (he : P.underlying e = some (.int .u8))
    (b : ByteArray) (hx : a.eval s = .string b) {l : List Int} (hl : X_bytes.f b = some l)
    (h : ∀ v w', Kd.V (Kd.int .u8) e w' W.heap.size (fun k => W.heap.size ≤ k) v l → Below W.heap.size W w' → wpList P ops Q rest (a.put o.dst v) w') : wpList P ops Q (o :: rest) a W := by
  obtain ⟨hz, rfl⟩ := X_bytes.of hl
  refine Kd.event_run hgd ?_ (h _ _ (V_bytes W e b hz _) (bytes_below (Below.refl _ _) (Nat.le_refl _) _ _))
  unfold execOp
  simp only [ho, hx]
  simp [Lib.run_convert_string_bytes W src dst e b hs hd he]

/-- The same as one step of a region that draws its order. -/
theorem conv_reg {oi : Oper} {N : Option Tmp} {K : Act → World → Prop} (hw : Region.wanted oi (yielded ops a.tmps) = true) (hN : oi.dst = N) (s : Operand) (src dst e : TypeId) {u : TypeDesc} (ho : oi.op = .convert src dst s) (hs : P.underlying src = some u) (hd : P.underlying dst = some (.slice e)) (he : P.underlying e = some (.int .u8))
    (b : ByteArray) (hx : a.eval s = .string b) {l : List Int} (hl : X_bytes.f b = some l)
    (h : ∀ v w', Kd.V (Kd.int .u8) e w' W.heap.size (fun k => W.heap.size ≤ k) v l → Below W.heap.size W w' → K (a.put N v) w') : if Region.wanted oi (yielded ops a.tmps) = true then Oper.wp P oi a W K Q else K (a.put N undef) W := by
  obtain ⟨hz, rfl⟩ := X_bytes.of hl
  refine value_ hw hN ?_ (h _ _ (V_bytes W e b hz _) (bytes_below (Below.refl _ _) (Nat.le_refl _) _ _))
  unfold execOp
  simp only [ho, hx]
  simp [Lib.run_convert_string_bytes W src dst e b hs hd he]

theorem lit_conv_run (hgd : o1.guard = none) {N1 N2 : Tmp} (hd1 : o1.dst = some N1) (hd2 : o2.dst = some N2) (t e : TypeId) (ht : P.underlying t = some (.slice e)) (he : P.underlying e = some (.int .u8))
    (ho2 : o2.op = .convert t t (.tmp N1)) (xs : List Int)
    (hrun : (execOp a.eval o1).run P W = .ok (.value (.slice (some ⟨W.heap.size, 0, none⟩) xs.length xs.length)) (W.alloc (.cells (xs.map (Value.int .u8)).toArray e)))
    (hev : ∀ v, (a.put (some N1) v).eval (.tmp N1) = v) (hw : ∀ v, Region.wanted o2 (yielded ops (a.put (some N1) v).tmps) = true) (hm : xs.length ≤ 9223372036854775807) {l : List Int} (hl : X_lit.f xs = some l)
    (h : ∀ v w', Kd.V (Kd.int .u8) e w' W.heap.size (fun k => W.heap.size ≤ k) v l → Below W.heap.size W w' → wpList P ops Q rest ((a.put (some N1) v).put (some N2) v) w') : wpList P ops Q (o1 :: o2 :: rest) a W := by
  obtain rfl := Option.some.inj (show some xs = some l from hl)
  refine Kd.event_run hgd hrun ?_
  rw [hd1]
  refine gate_guard (hw _) (Kd.event_run (v := .slice (some ⟨W.heap.size, 0, none⟩) xs.length xs.length) (w1 := W.alloc (.cells (xs.map (Value.int .u8)).toArray e ((xs.map (Value.int .u8)).toArray.size, (xs.map (Value.int .u8)).toArray.size + 1))) rfl ?_ ?_)
  · unfold execOp
    simp only [ho2, hev]
    simp [Lib.run_convert_bytes_const W t e _ _ _ ht he]
  · rw [show ({ o2 with guard := none } : Oper).dst = some N2 from hd2]
    refine h _ _ ⟨_, _, rfl, Nat.le_refl _, fun W' hW => ?_⟩ (below_alloc (Below.refl _ _) _)
    have hb := hW W.heap.size (Nat.le_refl _) (by simp)
    refine Kd.C_of_reads (d := (0 : Int)) (h1 := fun _ => rfl) ⟨rfl, hm, fun hn => ⟨_, rfl, fun j hj => ?_⟩⟩
    rw [add_plain]
    unfold World.cell?
    simp only
    rw [hb]
    rw [heap_alloc_new]
    simp [List.getD, hj]
end
end Go.Proofs.YthkmacgjekienaaDoor.P
