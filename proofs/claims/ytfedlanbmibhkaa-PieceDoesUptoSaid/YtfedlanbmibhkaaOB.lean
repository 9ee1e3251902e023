/- What came in, opened, with what the second form's bound says of it. -/
import Derived.Test.YtfedlanbmibhkaaBase3
import Derived.Test.YtfedlanbmibhkaaBulk
namespace Go.Proofs.Ytfedlanbmibhkaa.P
open Go.RowKit Go.Proofs.YtfedlanbmibhkaaW.PrintWords Go.Proofs.YtfedlanbmibhkaaW.PrintLast Go.Proofs.YtfedlanbmibhkaaW.PrintMore Go.ChangeShapes Go.WideShapes
set_option linter.unusedVariables false
set_option linter.unusedSimpArgs false
section
variable {H : Type} {enc : TypeId × Value → H} {P : Program} {W : World} {α : Type}
def OpensBAt (enc : TypeId × Value → H) (P : Program) (W : World) (n : Nat) (t : TypeId) (d : Kd α) (Sz : α → Prop) (B : α → Nat) : Prop :=
  ∀ (cs : List Value) (x : DataW H × List MemPlace), DataW.trod enc P W 0 (fun _ => true) true n t cs = some x → (∀ z ∈ x.1.weights P t, z ≤ 140737488351232) → ∃ a : α, d.K W a cs ∧ Sz a ∧ B a ≤ Rows.uptoBulk x.1
def OpensB (enc : TypeId × Value → H) (P : Program) (W : World) (t : TypeId) (d : Kd α) (Sz : α → Prop) (B : α → Nat) : Prop := ∀ n, OpensBAt enc P W n t d Sz B
theorem opensB_int {t : TypeId} {k : IntKind} (ht : P.underlying t = some (.int k)) : OpensB enc P W t (Kd.int k) (fun n => (Lit.int k n).wf = true) (fun _ => 1) := by
  intro n cs x h _
  obtain ⟨m, rfl, _, hw⟩ := DataW.trod_int ht h
  exact ⟨m, rfl, hw, bulks.one_le _⟩
theorem sum_bulk {B : α → Nat} : ∀ (l : List α) (E : List (DataW H)), l.length = E.length → (∀ (i : Nat) (a : α) (y : DataW H), l[i]? = some a → E[i]? = some y → B a ≤ Rows.uptoBulk y) → (l.map B).sum ≤ Rows.uptoBulkAll E
  | [], _, _, _ => by simp
  | a :: l, [], h, _ => by simp at h
  | a :: l, y :: E, h, hp => by
    have h1 := hp 0 a y rfl rfl
    have h2 := sum_bulk l E (by simpa using h) (fun i b z hb hz => hp (i + 1) b z (by simpa using hb) (by simpa using hz))
    simp only [List.map_cons, List.sum_cons, Rows.uptoBulkAll]
    omega
theorem opensB_slice {t e : TypeId} {d : Kd α} {Sz : α → Prop} {B : α → Nat} {n e' bytes : Nat} (ht : P.underlying t = some (.slice e)) (hc : P.cellsOf e = d.sz) (hb : P.bytesOf e = bytes) (hE : ∀ m, m < n → OpensBAt enc P W m e d Sz B) :
    OpensBAt enc P W n t (Kd.slice e' d) (fun l => l.length * bytes ≤ 140737488351232 ∧ ∀ x ∈ l, Sz x) (fun l => (l.map B).sum + 1) := by
  intro cs x h hw
  rcases DataW.trod_slice ht h with ⟨rfl, rfl⟩ | ⟨a, len, cap, elems, rest, m, rfl, rfl, rfl, -, hl, hm, hlen, hel, -, -⟩
  · exact ⟨[], ⟨none, 0, rfl, Nat.le_refl _, Kd.C_nil _ _⟩, ⟨by simp, fun x hx => by simp at hx⟩, by simp [Rows.uptoBulk]⟩
  · have hww : ∀ z ∈ (elems.length + rest.length) * P.bytesOf e :: (DataW.weightsAll P e (elems.map (·.1)) ++ DataW.weightsAll P e (rest.map (·.1))), z ≤ 140737488351232 := by
      have := hw
      simp only [DataW.weights, ht, List.length_map] at this
      exact this
    obtain ⟨l, hll, hp⟩ := list_ofO (p := fun i a' => ∃ cs', W.cells? 0 (a.add (i * d.sz)) d.sz = some cs' ∧ d.K W a' cs' ∧ Sz a' ∧ ∀ y, elems[i]? = some y → B a' ≤ Rows.uptoBulk y.1) len (fun i hi => by
      have hei := hel i hi
      have hlt : i < elems.length := by omega
      rw [List.getElem?_eq_getElem hlt, Option.bind_eq_some_iff, hc] at hei
      obtain ⟨cs', hcs, hy⟩ := hei
      obtain ⟨a', hK, hS, hB⟩ := hE m (by omega) cs' _ hy (fun z hz => hww z (List.mem_cons_of_mem _ (List.mem_append_left _ (weightsAll_mem (List.mem_map.mpr ⟨_, List.getElem_mem hlt, rfl⟩) hz))))
      exact ⟨a', cs', hcs, hK, hS, fun y hy2 => by rw [List.getElem?_eq_getElem hlt] at hy2; cases hy2; exact hB⟩)
    have hmax : l.length ≤ 9223372036854775807 := by unfold maxLen at hm; omega
    have hbytes : l.length * bytes ≤ 140737488351232 := by
      have h1 := hww _ List.mem_cons_self
      rw [hb] at h1
      refine Nat.le_trans (Nat.mul_le_mul_right _ ?_) h1
      omega
    refine ⟨l, ⟨some a, cap, by rw [hll], by omega, ⟨rfl, hmax, fun _ => ⟨a, rfl, fun j p hj => ?_⟩⟩⟩, ⟨hbytes, fun x hx => ?_⟩, ?_⟩
    · obtain ⟨cs', hcs, hK, _, _⟩ := hp j p hj
      obtain ⟨_, hcl, hcell⟩ := World.cells?_some hcs
      refine ⟨cs', hcl, hK, fun i u hu => ?_⟩
      have hi : i < d.sz := by
        rcases Nat.lt_or_ge i cs'.length with h' | h'
        · omega
        · rw [List.getElem?_eq_none h'] at hu; cases hu
      rw [← add_add, hcell i hi, hu]
    · obtain ⟨i, hi⟩ := List.getElem?_of_mem hx
      obtain ⟨_, _, _, hS, _⟩ := hp i x hi
      exact hS
    · have hs : (l.map B).sum ≤ Rows.uptoBulkAll (elems.map (·.1)) := sum_bulk l _ (by rw [List.length_map]; omega) fun i a' y hi hy => by
        obtain ⟨_, _, _, _, hB⟩ := hp i a' hi
        rw [List.getElem?_map, Option.map_eq_some_iff] at hy
        obtain ⟨y', hy', rfl⟩ := hy
        exact hB y' hy'
      have := bulks.slice_elems (elems.map (·.1)) (rest.map (·.1))
      show (l.map B).sum + 1 ≤ Rows.uptoBulk (DataW.slice (elems.map (·.1)) (rest.map (·.1)))
      omega
theorem OpensB.slice {t e : TypeId} {d : Kd α} {Sz : α → Prop} {B : α → Nat} {e' bytes : Nat} (hE : OpensB enc P W e d Sz B) (ht : P.underlying t = some (.slice e)) (hc : P.cellsOf e = d.sz) (hb : P.bytesOf e = bytes) :
    OpensB enc P W t (Kd.slice e' d) (fun l => l.length * bytes ≤ 140737488351232 ∧ ∀ x ∈ l, Sz x) (fun l => (l.map B).sum + 1) := fun n => opensB_slice ht hc hb (fun m _ => hE m)
theorem open_argB {t : TypeId} {d : Kd α} {Sz : α → Prop} {B : α → Nat} {v : Value} {x : DataW H} {p : List MemPlace} (hE : OpensB enc P W t d Sz B) (hd : DataW.Trod enc P W 0 (fun _ => true) true t v x p) (hw : ∀ z ∈ x.weights P t, z ≤ 140737488351232) : ∃ a : α, d.K W a v.cells.toList ∧ Sz a ∧ B a ≤ Rows.uptoBulk x := by
  obtain ⟨n, h⟩ := hd
  exact hE n _ (x, p) h hw
theorem open_rowB {P : Program} {α : Type} {t e : TypeId} {d : Kd α} {Sz : List α → Prop} {B : List α → Nat} {v : Value} {x : DataW H} {p : List MemPlace} {r : Reach} {b0 : Nat} (hE : OpensB enc P W t (Kd.slice e d) Sz B) (ht : P.underlying t = some (.slice e)) (hv : Value.okWide P W r b0 t v) (hd : DataW.Trod enc P W 0 (fun _ => true) true t v x p) (hw : ∀ z ∈ x.weights P t, z ≤ 140737488351232) :
    ∃ (l : List α) (A : Option Addr) (c : Nat), v = .slice A l.length c ∧ Kd.C d W A l.length l ∧ l.length ≤ c ∧ Sz l ∧ B l ≤ Rows.uptoBulk x := by
  obtain ⟨A, n, c, rfl⟩ := okWide_slice ht hv
  obtain ⟨l, ⟨A', c', e', hl, hc⟩, hs⟩ := open_argB hE hd hw
  have e'' : Value.slice A n c = Value.slice A' l.length c' := by
    have : [Value.slice A n c] = [Value.slice A' l.length c'] := e'
    injection this
  injection e'' with h1 h2 h3
  subst h1 h2 h3
  exact ⟨l, _, _, rfl, hc, hl, hs⟩
theorem opensB_bytes : OpensB enc Try.prog W 22 (Kd.slice 5 (Kd.int .u8)) (fun l => l.length * 1 ≤ 140737488351232 ∧ ∀ x ∈ l, (Lit.int .u8 x).wf = true) (fun l => (l.map fun _ => 1).sum + 1) := (opensB_int Try.underlying5).slice Try.underlying22 cells5 bytes5
theorem sum_ones {β : Type} (l : List β) : (l.map fun _ => 1).sum = l.length := by
  induction l with
  | nil => rfl
  | cons a l ih => simp [ih]; omega
/-- a deed: places, what is put in, two bools -/
def k34 : Kd (Int × Int × List Int × Bool × Bool) := Kd.pair (Kd.int .i64) (Kd.pair (Kd.int .i64) (Kd.pair (Kd.slice 5 (Kd.int .u8)) (Kd.pair Kd.bool Kd.bool)))
theorem k34_K {W : World} {d : Int × Int × List Int × Bool × Bool} {cs : List Value} (h : k34.K W d cs) : ∃ A c, cs = [.int .i64 d.1, .int .i64 d.2.1, .slice A d.2.2.1.length c, .bool d.2.2.2.1, .bool d.2.2.2.2] ∧ d.2.2.1.length ≤ c ∧ Kd.C (Kd.int .u8) W A d.2.2.1.length d.2.2.1 := by
  obtain ⟨_, _, rfl, h1, _, _, rfl, h2, _, _, rfl, ⟨A, c, h3, hl, hc⟩, _, _, rfl, h4, h5⟩ := h
  cases h1; cases h2; cases h3; cases h4; cases h5
  exact ⟨A, c, rfl, hl, hc⟩
theorem k34_mk {W : World} {d : Int × Int × List Int × Bool × Bool} {A : Option Addr} {c : Nat} (hl : d.2.2.1.length ≤ c) (hc : Kd.C (Kd.int .u8) W A d.2.2.1.length d.2.2.1) : k34.K W d [.int .i64 d.1, .int .i64 d.2.1, .slice A d.2.2.1.length c, .bool d.2.2.2.1, .bool d.2.2.2.2] :=
  ⟨[.int .i64 d.1], _, rfl, rfl, [.int .i64 d.2.1], _, rfl, rfl, [.slice A d.2.2.1.length c], _, rfl, ⟨A, c, rfl, hl, hc⟩, [.bool d.2.2.2.1], _, rfl, rfl, rfl⟩
theorem cells34 : Try.prog.cellsOf 34 = 5 := by kernel_rfl
theorem cells22 : Try.prog.cellsOf 22 = 1 := by kernel_rfl
theorem cells4 : Try.prog.cellsOf 4 = 1 := by kernel_rfl
theorem bytes34 : Try.prog.bytesOf 34 = 48 := by kernel_rfl
theorem opensB34 : OpensB enc Try.prog W 34 k34 (fun d => d.2.2.1.length ≤ 140737488351232) (fun d => d.2.2.1.length + 1) := by
  intro n cs x h hw
  obtain ⟨m', hn', hl', hf'⟩ := trod_fields Try.underlying34 h hw
  obtain ⟨xs, m, hn, hx, hl, hxs, hf⟩ := DataW.trod_struct Try.underlying34 h
  have hl : cs.length = 5 := by rw [hl]; exact cells34
  obtain ⟨c0, c1, c2, c3, c4, rfl⟩ : ∃ c0 c1 c2 c3 c4, cs = [c0, c1, c2, c3, c4] := by
    match cs, hl with
    | [c0, c1, c2, c3, c4], _ => exact ⟨_, _, _, _, _, rfl⟩
  have h0 := hf 0 _ rfl
  have h1 := hf 1 _ rfl
  have h2 := hf 2 _ rfl
  have h3 := hf 3 _ rfl
  have h4 := hf 4 _ rfl
  obtain ⟨y2', g2, gw⟩ := hf' 2 _ rfl
  obtain ⟨y0, y1, y2, y3, y4, rfl⟩ : ∃ y0 y1 y2 y3 y4, xs = [y0, y1, y2, y3, y4] := by
    have hxs : xs.length = 5 := hxs
    match xs, hxs with
    | [y0, y1, y2, y3, y4], _ => exact ⟨_, _, _, _, _, rfl⟩
  subst hx
  have hmm : m' = m := by omega
  subst hmm
  have h0 : DataW.trod enc Try.prog W 0 (fun _ => true) true m' 3 [c0] = some y0 := by simpa [cells3] using h0
  have h1 : DataW.trod enc Try.prog W 0 (fun _ => true) true m' 3 [c1] = some y1 := by simpa [cells3] using h1
  have h2 : DataW.trod enc Try.prog W 0 (fun _ => true) true m' 22 [c2] = some y2 := by simpa [cells22] using h2
  have g2 : DataW.trod enc Try.prog W 0 (fun _ => true) true m' 22 [c2] = some y2' := by simpa [cells22] using g2
  have h3 : DataW.trod enc Try.prog W 0 (fun _ => true) true m' 4 [c3] = some y3 := by simpa [cells4] using h3
  have h4 : DataW.trod enc Try.prog W 0 (fun _ => true) true m' 4 [c4] = some y4 := by simpa [cells4] using h4
  obtain rfl : y2 = y2' := Option.some.inj (h2.symm.trans g2)
  obtain ⟨a0, e0, -⟩ := DataW.trod_int Try.underlying3 h0
  obtain ⟨a1, e1, -⟩ := DataW.trod_int Try.underlying3 h1
  obtain ⟨l, ⟨A, c, e2, hl2, hc2⟩, ⟨hs, -⟩, hB⟩ := opensB_bytes m' _ _ h2 gw
  obtain ⟨b3, e3, -⟩ := DataW.trod_bool Try.underlying4 h3
  obtain ⟨b4, e4, -⟩ := DataW.trod_bool Try.underlying4 h4
  injection e0 with e0; injection e1 with e1; injection e2 with e2; injection e3 with e3; injection e4 with e4
  subst e0 e1 e2 e3 e4
  refine ⟨(a0, a1, l, b3, b4), k34_mk hl2 hc2, show l.length ≤ 140737488351232 from by omega, ?_⟩
  have hB : (l.map fun _ => 1).sum + 1 ≤ Rows.uptoBulk y2.1 := hB
  rw [sum_ones] at hB
  have hp := bulks.part_le (d := y2.1) (l := [y0.1, y1.1, y2.1, y3.1, y4.1]) (by simp)
  refine Nat.le_trans hB (Nat.le_trans hp ?_)
  show Rows.uptoBulkAll [y0.1, y1.1, y2.1, y3.1, y4.1] ≤ Rows.uptoBulk (DataW.agg [y0.1, y1.1, y2.1, y3.1, y4.1])
  simp only [Rows.uptoBulk]
  omega
/-- the deed itself -/
theorem openB34 {v : Value} {x : DataW H} {p : List MemPlace} {r : Reach} {b0 : Nat} (hv : Value.okWide Try.prog W r b0 34 v) (hd : DataW.Trod enc Try.prog W 0 (fun _ => true) true 34 v x p) (hw : ∀ z ∈ x.weights Try.prog 34, z ≤ 140737488351232) :
    ∃ (f t : Int) (l : List Int) (A : Option Addr) (c : Nat) (b1 b2 : Bool), v = .agg #[.int .i64 f, .int .i64 t, .slice A l.length c, .bool b1, .bool b2] ∧ l.length ≤ c ∧ Kd.C (Kd.int .u8) W A l.length l ∧ l.length + 1 ≤ Rows.uptoBulk x := by
  obtain ⟨cs, rfl⟩ : ∃ cs, v = .agg cs := by
    simp only [Value.okWide, Try.underlying34] at hv
    obtain ⟨cs, h1, _⟩ := hv
    exact ⟨cs, h1⟩
  obtain ⟨d, hK, -, hB⟩ := open_argB opensB34 hd hw
  obtain ⟨A, c, e, hl, hc⟩ := k34_K hK
  refine ⟨d.1, d.2.1, d.2.2.1, A, c, d.2.2.2.1, d.2.2.2.2, ?_, hl, hc, hB⟩
  congr 1
  rw [← Array.toList_inj]; exact e
theorem open39 {v : Value} {x : DataW H} {p : List MemPlace} {r : Reach} {b0 : Nat} (hv : Value.okWide Try.prog W r b0 39 v) (hd : DataW.Trod enc Try.prog W 0 (fun _ => true) true 39 v x p) :
    ∃ d0 d1 : Int, v = .agg #[.int .i64 d0, .int .i64 d1] := by
  obtain ⟨cs, rfl⟩ : ∃ cs, v = .agg cs := by
    simp only [Value.okWide, Try.underlying39] at hv
    obtain ⟨cs, h1, _⟩ := hv
    exact ⟨cs, h1⟩
  obtain ⟨n, h⟩ := hd
  obtain ⟨xs, m, -, -, hl, hx, hf⟩ := DataW.trod_array Try.underlying39 h
  have hl : cs.toList.length = 2 := hl.trans (by kernel_rfl)
  obtain ⟨c0, c1, e⟩ : ∃ c0 c1, cs.toList = [c0, c1] := by
    match cs.toList, hl with
    | [c0, c1], _ => exact ⟨_, _, rfl⟩
  obtain ⟨y0, y1, rfl⟩ : ∃ y0 y1, xs = [y0, y1] := by
    match xs, hx with
    | [y0, y1], _ => exact ⟨_, _, rfl⟩
  have h0 := hf 0 (by omega)
  have h1 := hf 1 (by omega)
  have ec : (Value.agg cs).cells.toList = [c0, c1] := e
  rw [ec] at h0 h1
  have h0 : DataW.trod enc Try.prog W 0 (fun _ => true) true m 3 [c0] = some y0 := by simpa [cells3] using h0
  have h1 : DataW.trod enc Try.prog W 0 (fun _ => true) true m 3 [c1] = some y1 := by simpa [cells3] using h1
  obtain ⟨a0, e0, -⟩ := DataW.trod_int Try.underlying3 h0
  obtain ⟨a1, e1, -⟩ := DataW.trod_int Try.underlying3 h1
  injection e0 with e0; injection e1 with e1
  subst e0 e1
  refine ⟨a0, a1, ?_⟩
  congr 1
  rw [← Array.toList_inj]; exact e
end
end Go.Proofs.Ytfedlanbmibhkaa.P
