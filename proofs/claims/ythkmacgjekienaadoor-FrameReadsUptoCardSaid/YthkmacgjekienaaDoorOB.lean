/- What came in, opened, with what the second form's bound says of it. -/
import Derived.Test.YthkmacgjekienaaDoorBase3
import Derived.Test.YthkmacgjekienaaDoorBulk
namespace Go.Proofs.YthkmacgjekienaaDoor.P
open Go.RowKit Go.Proofs.YthkmacgjekienaaDoorW.PrintWords Go.Proofs.YthkmacgjekienaaDoorW.PrintLast Go.Proofs.YthkmacgjekienaaDoorW.PrintMore Go.ChangeShapes Go.WideShapes
set_option linter.unusedVariables false
set_option linter.unusedSimpArgs false
section
variable {H : Type} {enc : TypeId × Value → H} {P : Program} {W : World} {α : Type}
def OpensBAt (enc : TypeId × Value → H) (P : Program) (W : World) (n : Nat) (t : TypeId) (d : Kd α) (Sz : α → Prop) (B : α → Nat) : Prop :=
  ∀ (cs : List Value) (x : DataW H × List MemPlace), DataW.trod enc P W 0 (fun _ => true) true n t cs = some x → (∀ z ∈ x.1.weights P t, z ≤ 140737488351232) → ∃ a : α, d.K W a cs ∧ Sz a ∧ B a ≤ Rows.uptoBulk x.1
def OpensB (enc : TypeId × Value → H) (P : Program) (W : World) (t : TypeId) (d : Kd α) (Sz : α → Prop) (B : α → Nat) : Prop := ∀ n, OpensBAt enc P W n t d Sz B
theorem opensB_int {t : TypeId} {k : IntKind} (ht : P.underlying t = some (.int k)) : OpensB enc P W t (Kd.int k) (fun n => (Lit.int k n).wf = true) (fun _ => 1) := by
  intro n cs x h _
  obtain ⟨m, rfl, _, hw⟩ := DataW.trod_int ht h
  exact ⟨m, rfl, hw, bulks.one_le _⟩
theorem sum_bulk {B : α → Nat} : ∀ (l : List α) (E : List (DataW H)), l.length = E.length → (∀ (i : Nat) (a : α) (y : DataW H), l[i]? = some a → E[i]? = some y → B a ≤ Rows.uptoBulk y) → (l.map B).sum ≤ Rows.uptoBulkAll E
  | [], _, _, _ => by simp
  | a :: l, [], h, _ => by simp at h
  | a :: l, y :: E, h, hp => by
    have h1 := hp 0 a y rfl rfl
    have h2 := sum_bulk l E (by simpa using h) (fun i b z hb hz => hp (i + 1) b z (by simpa using hb) (by simpa using hz))
    simp only [List.map_cons, List.sum_cons, Rows.uptoBulkAll]
    omega
theorem opensB_slice {t e : TypeId} {d : Kd α} {Sz : α → Prop} {B : α → Nat} {n e' bytes : Nat} (ht : P.underlying t = some (.slice e)) (hc : P.cellsOf e = d.sz) (hb : P.bytesOf e = bytes) (hE : ∀ m, m < n → OpensBAt enc P W m e d Sz B) :
    OpensBAt enc P W n t (Kd.slice e' d) (fun l => l.length * bytes ≤ 140737488351232 ∧ ∀ x ∈ l, Sz x) (fun l => (l.map B).sum + 1) := by
  intro cs x h hw
  rcases DataW.trod_slice ht h with ⟨rfl, rfl⟩ | ⟨a, len, cap, elems, rest, m, rfl, rfl, rfl, -, hl, hm, hlen, hel, -, -⟩
  · exact ⟨[], ⟨none, 0, rfl, Nat.le_refl _, Kd.C_nil _ _⟩, ⟨by simp, fun x hx => by simp at hx⟩, by simp [Rows.uptoBulk]⟩
  · have hww : ∀ z ∈ (elems.length + rest.length) * P.bytesOf e :: (DataW.weightsAll P e (elems.map (·.1)) ++ DataW.weightsAll P e (rest.map (·.1))), z ≤ 140737488351232 := by
      have := hw
      simp only [DataW.weights, ht, List.length_map] at this
      exact this
    obtain ⟨l, hll, hp⟩ := list_ofO (p := fun i a' => ∃ cs', W.cells? 0 (a.add (i * d.sz)) d.sz = some cs' ∧ d.K W a' cs' ∧ Sz a' ∧ ∀ y, elems[i]? = some y → B a' ≤ Rows.uptoBulk y.1) len (fun i hi => by
      have hei := hel i hi
      have hlt : i < elems.length := by omega
      rw [List.getElem?_eq_getElem hlt, Option.bind_eq_some_iff, hc] at hei
      obtain ⟨cs', hcs, hy⟩ := hei
      obtain ⟨a', hK, hS, hB⟩ := hE m (by omega) cs' _ hy (fun z hz => hww z (List.mem_cons_of_mem _ (List.mem_append_left _ (weightsAll_mem (List.mem_map.mpr ⟨_, List.getElem_mem hlt, rfl⟩) hz))))
      exact ⟨a', cs', hcs, hK, hS, fun y hy2 => by rw [List.getElem?_eq_getElem hlt] at hy2; cases hy2; exact hB⟩)
    have hmax : l.length ≤ 9223372036854775807 := by unfold maxLen at hm; omega
    have hbytes : l.length * bytes ≤ 140737488351232 := by
      have h1 := hww _ List.mem_cons_self
      rw [hb] at h1
      refine Nat.le_trans (Nat.mul_le_mul_right _ ?_) h1
      omega
    refine ⟨l, ⟨some a, cap, by rw [hll], by omega, ⟨rfl, hmax, fun _ => ⟨a, rfl, fun j p hj => ?_⟩⟩⟩, ⟨hbytes, fun x hx => ?_⟩, ?_⟩
    · obtain ⟨cs', hcs, hK, _, _⟩ := hp j p hj
      obtain ⟨_, hcl, hcell⟩ := World.cells?_some hcs
      refine ⟨cs', hcl, hK, fun i u hu => ?_⟩
      have hi : i < d.sz := by
        rcases Nat.lt_or_ge i cs'.length with h' | h'
        · omega
        · rw [List.getElem?_eq_none h'] at hu; cases hu
      rw [← add_add, hcell i hi, hu]
    · obtain ⟨i, hi⟩ := List.getElem?_of_mem hx
      obtain ⟨_, _, _, hS, _⟩ := hp i x hi
      exact hS
    · have hs : (l.map B).sum ≤ Rows.uptoBulkAll (elems.map (·.1)) := sum_bulk l _ (by rw [List.length_map]; omega) fun i a' y hi hy => by
        obtain ⟨_, _, _, _, hB⟩ := hp i a' hi
        rw [List.getElem?_map, Option.map_eq_some_iff] at hy
        obtain ⟨y', hy', rfl⟩ := hy
        exact hB y' hy'
      have := bulks.slice_elems (elems.map (·.1)) (rest.map (·.1))
      show (l.map B).sum + 1 ≤ Rows.uptoBulk (DataW.slice (elems.map (·.1)) (rest.map (·.1)))
      omega
theorem OpensB.slice {t e : TypeId} {d : Kd α} {Sz : α → Prop} {B : α → Nat} {e' bytes : Nat} (hE : OpensB enc P W e d Sz B) (ht : P.underlying t = some (.slice e)) (hc : P.cellsOf e = d.sz) (hb : P.bytesOf e = bytes) :
    OpensB enc P W t (Kd.slice e' d) (fun l => l.length * bytes ≤ 140737488351232 ∧ ∀ x ∈ l, Sz x) (fun l => (l.map B).sum + 1) := fun n => opensB_slice ht hc hb (fun m _ => hE m)
theorem open_argB {t : TypeId} {d : Kd α} {Sz : α → Prop} {B : α → Nat} {v : Value} {x : DataW H} {p : List MemPlace} (hE : OpensB enc P W t d Sz B) (hd : DataW.Trod enc P W 0 (fun _ => true) true t v x p) (hw : ∀ z ∈ x.weights P t, z ≤ 140737488351232) : ∃ a : α, d.K W a v.cells.toList ∧ Sz a ∧ B a ≤ Rows.uptoBulk x := by
  obtain ⟨n, h⟩ := hd
  exact hE n _ (x, p) h hw
theorem open_rowB {P : Program} {α : Type} {t e : TypeId} {d : Kd α} {Sz : List α → Prop} {B : List α → Nat} {v : Value} {x : DataW H} {p : List MemPlace} {r : Reach} {b0 : Nat} (hE : OpensB enc P W t (Kd.slice e d) Sz B) (ht : P.underlying t = some (.slice e)) (hv : Value.okWide P W r b0 t v) (hd : DataW.Trod enc P W 0 (fun _ => true) true t v x p) (hw : ∀ z ∈ x.weights P t, z ≤ 140737488351232) :
    ∃ (l : List α) (A : Option Addr) (c : Nat), v = .slice A l.length c ∧ Kd.C d W A l.length l ∧ l.length ≤ c ∧ Sz l ∧ B l ≤ Rows.uptoBulk x := by
  obtain ⟨A, n, c, rfl⟩ := okWide_slice ht hv
  obtain ⟨l, ⟨A', c', e', hl, hc⟩, hs⟩ := open_argB hE hd hw
  have e'' : Value.slice A n c = Value.slice A' l.length c' := by
    have : [Value.slice A n c] = [Value.slice A' l.length c'] := e'
    injection this
  injection e'' with h1 h2 h3
  subst h1 h2 h3
  exact ⟨l, _, _, rfl, hc, hl, hs⟩
theorem opensB_bytes : OpensB enc Tryd.prog W 27 (Kd.slice 5 (Kd.int .u8)) (fun l => l.length * 1 ≤ 140737488351232 ∧ ∀ x ∈ l, (Lit.int .u8 x).wf = true) (fun l => (l.map fun _ => 1).sum + 1) := (opensB_int Tryd.underlying5).slice Tryd.underlying27 cells5 bytes5
theorem opensB_rows : OpensB enc Tryd.prog W 22 (Kd.slice 27 (Kd.slice 5 (Kd.int .u8))) (fun l => l.length * 24 ≤ 140737488351232 ∧ ∀ x ∈ l, x.length * 1 ≤ 140737488351232 ∧ ∀ y ∈ x, (Lit.int .u8 y).wf = true) (fun l => (l.map fun x => (x.map fun _ => 1).sum + 1).sum + 1) := opensB_bytes.slice Tryd.underlying22 cells27 bytes27
theorem opensB_ints : OpensB enc Tryd.prog W 46 (Kd.slice 3 (Kd.int .i64)) (fun l => l.length * 8 ≤ 140737488351232 ∧ ∀ x ∈ l, (Lit.int .i64 x).wf = true) (fun l => (l.map fun _ => 1).sum + 1) := (opensB_int Tryd.underlying3).slice Tryd.underlying46 cells3 bytes3
theorem sum_ones {β : Type} (l : List β) : (l.map fun _ => 1).sum = l.length := by
  induction l with
  | nil => rfl
  | cons a l ih => simp [ih]; omega
/-- the bytes of all rows together -/
theorem rows_sum (l : List (List Int)) : (l.map fun x => (x.map fun _ => 1).sum + 1).sum = l.flatten.length + l.length := by
  induction l with
  | nil => rfl
  | cons a l ih =>
    rw [List.map_cons, List.sum_cons, ih, sum_ones, List.flatten_cons, List.length_append, List.length_cons]
    omega
theorem mem_flat {l : List (List Int)} {x : List Int} (h : x ∈ l) : x.length ≤ l.flatten.length := by
  induction l with
  | nil => cases h
  | cons a l ih =>
    simp only [List.flatten_cons, List.length_append]
    rcases List.mem_cons.1 h with rfl | h
    · omega
    · have := ih h; omega
end
end Go.Proofs.YthkmacgjekienaaDoor.P
