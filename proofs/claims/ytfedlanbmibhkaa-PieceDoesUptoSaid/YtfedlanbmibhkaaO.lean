/- What came in, opened: a value whose data reads is read by its kind; its sizes out of the data's weights. -/
import Derived.Test.YtfedlanbmibhkaaWWords
import Derived.Test.YtfedlanbmibhkaaWMore
import Derived.ChangeArms
import Derived.OpenShut
import Derived.SizedLaws
import Derived.WideLaws
import Derived.Lib.SmallJoins
namespace Go.Proofs.Ytfedlanbmibhkaa.P
open Go.RowKit Go.Proofs.YtfedlanbmibhkaaW.PrintWords Go.Proofs.YtfedlanbmibhkaaW.PrintLast Go.Proofs.YtfedlanbmibhkaaW.PrintMore Go.ChangeShapes Go.WideShapes
set_option linter.unusedVariables false
set_option linter.unusedSimpArgs false
section
variable {H : Type} {enc : TypeId × Value → H} {P : Program} {W : World} {α : Type}
/-- Whatever is read at type t with that fuel is read by the kind, and its sizes are bounded. -/
def OpensAt (enc : TypeId × Value → H) (P : Program) (W : World) (n : Nat) (t : TypeId) (d : Kd α) (Sz : α → Prop) : Prop :=
  ∀ (cs : List Value) (x : DataW H × List MemPlace), DataW.trod enc P W 0 (fun _ => true) true n t cs = some x → (∀ z ∈ x.1.weights P t, z ≤ 140737488351232) → ∃ a : α, d.K W a cs ∧ Sz a
def Opens (enc : TypeId × Value → H) (P : Program) (W : World) (t : TypeId) (d : Kd α) (Sz : α → Prop) : Prop := ∀ n, OpensAt enc P W n t d Sz
theorem list_ofO {p : Nat → α → Prop} : ∀ n : Nat, (∀ i, i < n → ∃ a, p i a) → ∃ l : List α, l.length = n ∧ ∀ i a, l[i]? = some a → p i a
  | 0, _ => ⟨[], rfl, fun i a h => by simp at h⟩
  | n + 1, h => by
    obtain ⟨l, hl, hp⟩ := list_ofO n (fun i hi => h i (by omega))
    obtain ⟨a, ha⟩ := h n (by omega)
    refine ⟨l ++ [a], by simp [hl], fun i b hb => ?_⟩
    rcases Nat.lt_or_ge i l.length with hi | hi
    · rw [List.getElem?_append_left hi] at hb; exact hp i b hb
    · rw [List.getElem?_append_right hi] at hb
      have h0 : i - l.length = 0 := by
        rcases Nat.eq_zero_or_pos (i - l.length) with h0 | h0
        · exact h0
        · rw [List.getElem?_eq_none (by simp; omega)] at hb; cases hb
      rw [h0] at hb
      obtain rfl : a = b := by simpa using hb
      obtain rfl : i = n := by omega
      exact ha
theorem weightsAll_mem {e : TypeId} {z : Nat} : ∀ {l : List (DataW H)} {y : DataW H}, y ∈ l → z ∈ y.weights P e → z ∈ DataW.weightsAll P e l
  | a :: r, y, hy, hz => by
    rw [DataW.weightsAll]
    rcases List.mem_cons.mp hy with rfl | hy
    · exact List.mem_append_left _ hz
    · exact List.mem_append_right _ (weightsAll_mem hy hz)
theorem opens_int {t : TypeId} {k : IntKind} (ht : P.underlying t = some (.int k)) : Opens enc P W t (Kd.int k) (fun n => (Lit.int k n).wf = true) := by
  intro n cs x h _
  obtain ⟨m, rfl, _, hw⟩ := DataW.trod_int ht h
  exact ⟨m, rfl, hw⟩
theorem opens_bool {t : TypeId} (ht : P.underlying t = some .bool) : Opens enc P W t Kd.bool (fun _ => True) := by
  intro n cs x h _
  obtain ⟨m, rfl, _⟩ := DataW.trod_bool ht h
  exact ⟨m, rfl, trivial⟩
theorem opens_string {t : TypeId} (ht : P.underlying t = some .string) : Opens enc P W t Kd.string (fun s => s.size ≤ 140737488351232) := by
  intro n cs x h hw
  obtain ⟨s, rfl, rfl, _⟩ := DataW.trod_string ht h
  refine ⟨s, rfl, ?_⟩
  have := hw s.data.toList.length (by simp [DataW.weights])
  rw [Array.length_toList] at this
  exact this
theorem opens_slice {t e : TypeId} {d : Kd α} {Sz : α → Prop} {n e' bytes : Nat} (ht : P.underlying t = some (.slice e)) (hc : P.cellsOf e = d.sz) (hb : P.bytesOf e = bytes) (hE : ∀ m, m < n → OpensAt enc P W m e d Sz) :
    OpensAt enc P W n t (Kd.slice e' d) (fun l => l.length * bytes ≤ 140737488351232 ∧ ∀ x ∈ l, Sz x) := by
  intro cs x h hw
  rcases DataW.trod_slice ht h with ⟨rfl, rfl⟩ | ⟨a, len, cap, elems, rest, m, rfl, rfl, rfl, -, hl, hm, hlen, hel, -, -⟩
  · exact ⟨[], ⟨none, 0, rfl, Nat.le_refl _, Kd.C_nil _ _⟩, by simp, fun x hx => by simp at hx⟩
  · have hww : ∀ z ∈ (elems.length + rest.length) * P.bytesOf e :: (DataW.weightsAll P e (elems.map (·.1)) ++ DataW.weightsAll P e (rest.map (·.1))), z ≤ 140737488351232 := by
      have := hw
      simp only [DataW.weights, ht, List.length_map] at this
      exact this
    obtain ⟨l, hll, hp⟩ := list_ofO (p := fun i a' => ∃ cs', W.cells? 0 (a.add (i * d.sz)) d.sz = some cs' ∧ d.K W a' cs' ∧ Sz a') len (fun i hi => by
      have hei := hel i hi
      have hlt : i < elems.length := by omega
      rw [List.getElem?_eq_getElem hlt, Option.bind_eq_some_iff, hc] at hei
      obtain ⟨cs', hcs, hy⟩ := hei
      obtain ⟨a', hK, hS⟩ := hE m (by omega) cs' _ hy (fun z hz => hww z (List.mem_cons_of_mem _ (List.mem_append_left _ (weightsAll_mem (List.mem_map.mpr ⟨_, List.getElem_mem hlt, rfl⟩) hz))))
      exact ⟨a', cs', hcs, hK, hS⟩)
    have hmax : l.length ≤ 9223372036854775807 := by unfold maxLen at hm; omega
    have hbytes : l.length * bytes ≤ 140737488351232 := by
      have h1 := hww _ List.mem_cons_self
      rw [hb] at h1
      refine Nat.le_trans (Nat.mul_le_mul_right _ ?_) h1
      omega
    refine ⟨l, ⟨some a, cap, by rw [hll], by omega, ⟨rfl, hmax, fun _ => ⟨a, rfl, fun j p hj => ?_⟩⟩⟩, hbytes, fun x hx => ?_⟩
    · obtain ⟨cs', hcs, hK, _⟩ := hp j p hj
      obtain ⟨_, hcl, hcell⟩ := World.cells?_some hcs
      refine ⟨cs', hcl, hK, fun i u hu => ?_⟩
      have hi : i < d.sz := by
        rcases Nat.lt_or_ge i cs'.length with h' | h'
        · omega
        · rw [List.getElem?_eq_none h'] at hu; cases hu
      rw [← add_add, hcell i hi, hu]
    · obtain ⟨i, hi⟩ := List.getElem?_of_mem hx
      obtain ⟨_, _, _, hS⟩ := hp i x hi
      exact hS
theorem Opens.slice {t e : TypeId} {d : Kd α} {Sz : α → Prop} {e' bytes : Nat} (hE : Opens enc P W e d Sz) (ht : P.underlying t = some (.slice e)) (hc : P.cellsOf e = d.sz) (hb : P.bytesOf e = bytes) :
    Opens enc P W t (Kd.slice e' d) (fun l => l.length * bytes ≤ 140737488351232 ∧ ∀ x ∈ l, Sz x) := fun n => opens_slice ht hc hb (fun m _ => hE m)
/-- A struct's fields: each is read with less fuel, and weighs no more. -/
theorem trod_fields {t : TypeId} {fs : Array Field} {n : Nat} {cs : List Value} {x : DataW H × List MemPlace} (ht : P.underlying t = some (.struct fs)) (h : DataW.trod enc P W 0 (fun _ => true) true n t cs = some x) (hw : ∀ z ∈ x.1.weights P t, z ≤ 140737488351232) :
    ∃ m, n = m + 1 ∧ cs.length = P.cellsOf t ∧ ∀ (i : Nat) (f : Field), fs[i]? = some f → ∃ y : DataW H × List MemPlace, DataW.trod enc P W 0 (fun _ => true) true m f.type ((cs.drop f.offset).take (P.cellsOf f.type)) = some y ∧ ∀ z ∈ y.1.weights P f.type, z ≤ 140737488351232 := by
  obtain ⟨xs, m, rfl, rfl, hl, hxs, hf⟩ := DataW.trod_struct ht h
  refine ⟨m, rfl, hl, fun i f hi => ?_⟩
  have hlt : i < xs.length := by rw [hxs]; exact (Array.getElem?_eq_some_iff.1 hi).1
  refine ⟨xs[i], (hf i f hi).trans (List.getElem?_eq_getElem hlt), fun z hz => hw z ?_⟩
  simp only [DataW.weights, ht]
  have key : ∀ (ts : List TypeId) (ds : List (DataW H)) (i : Nat) (t' : TypeId) (d' : DataW H), ts[i]? = some t' → ds[i]? = some d' → z ∈ d'.weights P t' → z ∈ DataW.weightsEach P ts ds := by
    intro ts
    induction ts with
    | nil => intro ds i t' d' h1; simp at h1
    | cons a r ih =>
      intro ds i t' d' h1 h2 hz
      cases ds with
      | nil => simp at h2
      | cons b s =>
        rw [DataW.weightsEach]
        cases i with
        | zero =>
          obtain rfl : a = t' := by simpa using h1
          obtain rfl : b = d' := by simpa using h2
          exact List.mem_append_left _ hz
        | succ i => exact List.mem_append_right _ (ih s i t' d' (by simpa using h1) (by simpa using h2) hz)
  refine key _ _ i f.type xs[i].1 ?_ ?_ hz
  · rw [List.getElem?_map, Array.getElem?_toList, hi]; rfl
  · rw [List.getElem?_map, List.getElem?_eq_getElem hlt]; rfl
theorem weightsEach_all {ts : List TypeId} {ds : List (DataW H)} (h : (DataW.weightsEach P ts ds).all (· ≤ reachBytes) = true) : ∀ (i : Nat) (t' : TypeId) (d' : DataW H), ts[i]? = some t' → ds[i]? = some d' → ∀ z ∈ d'.weights P t', z ≤ 140737488351232 := by
  have h' : ∀ z ∈ DataW.weightsEach P ts ds, z ≤ 140737488351232 := fun z hz => of_decide_eq_true (List.all_eq_true.mp h z hz)
  clear h
  induction ts generalizing ds with
  | nil => intro i t' d' h1; simp at h1
  | cons a r ih =>
    intro i t' d' h1 h2 z hz
    cases ds with
    | nil => simp at h2
    | cons b s =>
      rw [DataW.weightsEach] at h'
      cases i with
      | zero =>
        obtain rfl : a = t' := by simpa using h1
        obtain rfl : b = d' := by simpa using h2
        exact h' z (List.mem_append_left _ hz)
      | succ i => exact ih (fun z hz => h' z (List.mem_append_right _ hz)) i t' d' (by simpa using h1) (by simpa using h2) z hz
/-- The argument itself. -/
theorem open_arg {t : TypeId} {d : Kd α} {Sz : α → Prop} {v : Value} {x : DataW H} {p : List MemPlace} (hE : Opens enc P W t d Sz) (hd : DataW.Trod enc P W 0 (fun _ => true) true t v x p) (hw : ∀ z ∈ x.weights P t, z ≤ 140737488351232) : ∃ a : α, d.K W a v.cells.toList ∧ Sz a := by
  obtain ⟨n, hn⟩ := hd
  exact hE n _ _ hn hw
end
end Go.Proofs.Ytfedlanbmibhkaa.P
