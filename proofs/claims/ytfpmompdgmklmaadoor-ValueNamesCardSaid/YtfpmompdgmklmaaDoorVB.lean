/- What the values' functions tell, as plain functions on trees: their depth, their size, what is spoilt. -/
import Derived.Test.YtfpmompdgmklmaaDoorV4
import Derived.Test.YtfpmompdgmklmaaDoorVT
import Derived.Test.YtfpmompdgmklmaaDoorV1
import Derived.StillTailTactics
import Derived.Test.YtfpmompdgmklmaaDoorP2
import Derived.Test.YtfpmompdgmklmaaDoorP4
import Derived.Test.YtfpmompdgmklmaaDoorP5
import Derived.Test.YtfpmompdgmklmaaDoorP10
import Derived.Test.YtfpmompdgmklmaaDoorP11
namespace Go.Proofs.YtfpmompdgmklmaaDoor.P
open Go.RowKit Go.Proofs.YtfpmompdgmklmaaDoorW.PrintWords Go.Proofs.YtfpmompdgmklmaaDoorW.PrintLast Go.Proofs.YtfpmompdgmklmaaDoorW.PrintMore
set_option linter.unusedVariables false
set_option linter.unusedSimpArgs false
mutual
def qF_ : S25 → Nat
 | ⟨_, _, _, l, _⟩ => depthL l + 1
def depthL : List S25 → Nat
 | [] => 0
 | a :: r => max (qF_ a) (depthL r)
end
mutual
def fitV : S25 → Bool
 | ⟨_, _, t, l, n⟩ => decide (t.size ≤ 140737488351232) && (decide (l.length * 80 ≤ 140737488351232) && (decide (n.length * 16 ≤ 140737488351232) && (n.all (fun s => decide (s.size ≤ 140737488351232)) && fitL l)))
def fitL : List S25 → Bool
 | [] => true
 | a :: r => fitV a && fitL r
end
theorem fitL_mem : ∀ {l : List S25} {x : S25}, fitL l = true → x ∈ l → fitV x = true
 | a :: r, x, h, hx => by
  rw [fitL, Bool.and_eq_true] at h
  rcases List.mem_cons.mp hx with rfl | hx
  · exact h.1
  · exact fitL_mem h.2 hx
theorem fitL_of : ∀ {l : List S25}, (∀ x ∈ l, fitV x = true) → fitL l = true
 | [], _ => rfl
 | a :: r, h => by
  rw [fitL, h a List.mem_cons_self, fitL_of (fun x hx => h x (List.mem_cons_of_mem _ hx))]; rfl
theorem fitsL_of : ∀ {l : List S25}, (∀ x ∈ l, fitsV x = true) → fitsL l = true
 | [], _ => rfl
 | a :: r, h => by
  rw [fitsL, h a List.mem_cons_self, fitsL_of (fun x hx => h x (List.mem_cons_of_mem _ hx))]; rfl
theorem fit_parts {k : Int} {i : Bool} {t : ByteArray} {l : List S25} {n : List ByteArray} (h : fitV ⟨k, i, t, l, n⟩ = true) :
  t.size ≤ 140737488351232 ∧ l.length * 80 ≤ 140737488351232 ∧ n.length * 16 ≤ 140737488351232 ∧ (∀ s ∈ n, s.size ≤ 140737488351232) ∧ fitL l = true := by
 rw [fitV, Bool.and_eq_true, Bool.and_eq_true, Bool.and_eq_true, Bool.and_eq_true] at h
 exact ⟨of_decide_eq_true h.1, of_decide_eq_true h.2.1, of_decide_eq_true h.2.2.1, fun s hs => of_decide_eq_true (List.all_eq_true.mp h.2.2.2.1 s hs), h.2.2.2.2⟩
theorem fit_mk {k : Int} {i : Bool} {t : ByteArray} {l : List S25} {n : List ByteArray} (h1 : t.size ≤ 140737488351232) (h2 : l.length * 80 ≤ 140737488351232) (h3 : n.length * 16 ≤ 140737488351232) (h4 : ∀ s ∈ n, s.size ≤ 140737488351232) (h5 : fitL l = true) : fitV ⟨k, i, t, l, n⟩ = true := by
 rw [fitV, decide_eq_true h1, decide_eq_true h2, decide_eq_true h3, h5, List.all_eq_true.mpr (fun s hs => decide_eq_true (h4 s hs))]; rfl
theorem fits_of_fit (m : Nat) : ∀ x : S25, SizeOf.sizeOf x ≤ m → fitV x = true → fitsV x = true := by
 induction m with
 | zero => intro x hx; cases x; simp at hx
 | succ m ih =>
  intro x hx hf
  obtain ⟨k, i, t, l, n⟩ := x
  obtain ⟨h1, h2, h3, h4, h5⟩ := fit_parts hf
  rw [fitsV, decide_eq_true (show l.length * 80 ≤ 140737488355328 by omega), decide_eq_true (show n.length * 16 ≤ 140737488355328 by omega), Bool.true_and, Bool.true_and]
  exact fitsL_of (fun y hy => ih y (by have := mem_sizeV hy (k := k) (i := i) (t := t) (n := n); omega) (fitL_mem h5 hy))
theorem depthL_mem : ∀ {l : List S25} {x : S25}, x ∈ l → qF_ x ≤ depthL l
 | a :: r, x, hx => by
  rw [depthL]
  rcases List.mem_cons.mp hx with rfl | hx
  · exact Nat.le_max_left _ _
  · exact Nat.le_trans (depthL_mem hx) (Nat.le_max_right _ _)
theorem depth_pos (x : S25) : 1 ≤ qF_ x := by cases x; rw [qF_]; omega
theorem depth_mem {x : S25} {k : Int} {i : Bool} {t : ByteArray} {l : List S25} {n : List ByteArray} (h : x ∈ l) : qF_ x + 1 ≤ qF_ ⟨k, i, t, l, n⟩ := by
 rw [qF_]; have := depthL_mem h; omega
theorem fit_eta (x : S25) : fitV ⟨x.f0, x.f1, x.f2, x.f3, x.f4⟩ = fitV x := by cases x; rfl
/-! ### alike -/
theorem eqV_spec (m : Nat) : ∀ x y : S25, SizeOf.sizeOf x ≤ m → (eqV x y = true ↔ x = y) := by
 induction m with
 | zero => intro x y hx; cases x; simp at hx
 | succ m ih =>
  intro x y hx
  obtain ⟨k, i, t, l, n⟩ := x
  obtain ⟨k', i', t', l', n'⟩ := y
  have hl : ∀ (a b : List S25), (∀ z ∈ a, SizeOf.sizeOf z ≤ m) → (eqL a b = true ↔ a = b) := by
   intro a
   induction a with
   | nil => intro b _; cases b <;> simp [eqL]
   | cons z r ihr =>
    intro b hb
    cases b with
    | nil => simp [eqL]
    | cons u s =>
     rw [eqL, Bool.and_eq_true, ih z u (hb z List.mem_cons_self), ihr s (fun q hq => hb q (List.mem_cons_of_mem _ hq)), List.cons.injEq]
  rw [eqV]
  simp only [Bool.and_eq_true, beq_iff_eq, decide_eq_true_eq, S25.mk.injEq]
  rw [hl l l' (fun z hz => by have := mem_sizeV hz (k := k) (i := i) (t := t) (n := n); omega)]
  constructor
  · rintro ⟨a, b, c, d, e⟩; exact ⟨a, b, c, e, d⟩
  · rintro ⟨a, b, c, e, d⟩; exact ⟨a, b, c, d, e⟩
theorem eqV_iff (x y : S25) : eqV x y = true ↔ x = y := eqV_spec _ x y (Nat.le_refl _)
theorem eqV_refl (x : S25) : eqV x x = true := (eqV_iff x x).mpr rfl
/-! ### what is told -/
def deepV (x : S25) (m : Int) : Bool := decide (m + 2 ≤ (qF_ x : Int))
def checkV (x : S25) : Int := if mayV x = true then (if qF_ x > 128 then 111 else 0) else 2
def anyDeep (l : List S25) : Bool := l.any (fun x => deepV x 990)
def getV (l : List S25) (n : List ByteArray) (s : ByteArray) : Nat → Option S25
 | 0 => none
 | i + 1 => if rdOf ByteArray.empty n (i : Int) = s then some (qj_ l (i : Int)) else getV l n s i
def memberV (x : S25) (s : ByteArray) : Option S25 := if x.f0 = 5 then getV x.f3 x.f4 s (min x.f4.length x.f3.length) else none
/-! ### spoilt -/
mutual
def spoilV : S25 → S25
 | ⟨k, i, t, l, n⟩ => ⟨k, i, t, spoilL l, n.map (fun s => s ++ ⟨#[120]⟩)⟩
def spoilL : List S25 → List S25
 | [] => []
 | a :: r => ⟨wrap64 (a.f0 + 1), (spoilV a).f1, (spoilV a).f2, (spoilV a).f3, (spoilV a).f4⟩ :: spoilL r
end
end Go.Proofs.YtfpmompdgmklmaaDoor.P
/- spoil: what it leaves of a value none of whose rows is shared. The plain part. -/
namespace Go.Proofs.YtfpmompdgmklmaaDoor.P
open Go.RowKit Go.Proofs.YtfpmompdgmklmaaDoorW.PrintWords Go.Proofs.YtfpmompdgmklmaaDoorW.PrintLast Go.Proofs.YtfpmompdgmklmaaDoorW.PrintMore
set_option linter.unusedVariables false
set_option linter.unusedSimpArgs false
structure Touch (lo hi : Nat) (w w' : World) : Prop where
 os : w'.os = w.os
 tape : w'.tape = w.tape
 output : w'.output = w.output
 size : w.heap.size ≤ w'.heap.size
 block : ∀ k, k < w.heap.size → ¬ (lo ≤ k ∧ k < hi) → w'.heap[k]? = w.heap[k]?
theorem Touch.refl (lo hi : Nat) (w : World) : Touch lo hi w w := ⟨rfl, rfl, rfl, Nat.le_refl _, fun _ _ _ => rfl⟩
theorem Touch.trans {lo hi : Nat} {w w1 w2 : World} (h : Touch lo hi w w1) (k : Touch lo hi w1 w2) : Touch lo hi w w2 :=
 ⟨k.os.trans h.os, k.tape.trans h.tape, k.output.trans h.output, Nat.le_trans h.size k.size, fun q a b => (k.block q (Nat.lt_of_lt_of_le a h.size) b).trans (h.block q a b)⟩
theorem Touch.ofBelow {lo hi : Nat} {w w1 : World} (h : Below w.heap.size w w1) : Touch lo hi w w1 := ⟨h.os, h.tape, h.output, h.size, fun q a _ => h.block q a⟩
theorem Touch.set {lo hi g o : Nat} {w w1 : World} (h : Touch lo hi w w1) (h1 : lo ≤ g) (h2 : g < hi) (u : Value) : Touch lo hi w (w1.setCell ⟨g, o, none⟩ u) :=
 ⟨h.os, h.tape, h.output, by simpa [World.setCell] using h.size, fun q a b => (Below.heap_setCell w1 ⟨g, o, none⟩ u q (fun e => b ⟨by rw [e]; exact h1, by rw [e]; exact h2⟩)).trans (h.block q a b)⟩
theorem Touch.below {lo hi B : Nat} {w w1 : World} (h : Touch lo hi w w1) (hb : B ≤ lo) (hB : B ≤ w.heap.size) : Below B w w1 :=
 ⟨h.os, h.tape, h.output, h.size, fun q a => h.block q (by omega) (by omega)⟩
def spoilE (a : S25) : S25 := ⟨wrap64 (a.f0 + 1), (spoilV a).f1, (spoilV a).f2, (spoilV a).f3, (spoilV a).f4⟩
theorem spoilL_map : ∀ l : List S25, spoilL l = l.map spoilE
 | [] => rfl
 | a :: r => by rw [spoilL, List.map_cons, spoilL_map r]; rfl
def mixS (l : List S25) (i : Nat) : List S25 := (l.take i).map spoilE ++ l.drop i
theorem mixS_zero (l : List S25) : mixS l 0 = l := by simp [mixS]
theorem mixS_all (l : List S25) : mixS l l.length = spoilL l := by rw [spoilL_map]; simp [mixS]
theorem mixS_len (l : List S25) (i : Nat) : (mixS l i).length = l.length := by simp [mixS]; omega
theorem mixS_get (l : List S25) (i : Nat) (h : i < l.length) : (mixS l i)[i]? = some (qj_ l (i : Int)) := by
 have h1 : ((l.take i).map spoilE).length = i := by rw [List.length_map, List.length_take]; omega
 unfold mixS qj_
 rw [Int.toNat_natCast, List.getElem?_append_right (by omega), h1, Nat.sub_self, List.getElem?_drop, Nat.add_zero, List.getD_eq_getElem?_getD, List.getElem?_eq_getElem h]
 rfl
theorem mixS_set (l : List S25) (i : Nat) (h : i < l.length) : (mixS l i).set i (spoilE (qj_ l (i : Int))) = mixS l (i + 1) := by
 have h1 : ((l.take i).map spoilE).length = i := by rw [List.length_map, List.length_take]; omega
 unfold mixS qj_
 rw [Int.toNat_natCast, List.getD_eq_getElem?_getD, List.getElem?_eq_getElem h, List.set_append_right _ _ (by omega), h1, Nat.sub_self, List.drop_eq_getElem_cons h, List.set_cons_zero, List.take_succ_eq_append_getElem h, List.map_append, List.append_assoc]
 rfl
def mixN (n : List ByteArray) (i : Nat) : List ByteArray := (n.take i).map (fun s => s ++ ⟨#[120]⟩) ++ n.drop i
theorem mixN_zero (l : List ByteArray) : mixN l 0 = l := by simp [mixN]
theorem mixN_all (l : List ByteArray) : mixN l l.length = l.map (fun s => s ++ ⟨#[120]⟩) := by simp [mixN]
theorem mixN_len (l : List ByteArray) (i : Nat) : (mixN l i).length = l.length := by simp [mixN]; omega
theorem mixN_get (l : List ByteArray) (i : Nat) (h : i < l.length) : (mixN l i)[i]? = some (rdOf ByteArray.empty l (i : Int)) := by
 have h1 : ((l.take i).map (fun s => s ++ (⟨#[120]⟩ : ByteArray))).length = i := by rw [List.length_map, List.length_take]; omega
 unfold mixN rdOf
 rw [Int.toNat_natCast, List.getElem?_append_right (by omega), h1, Nat.sub_self, List.getElem?_drop, Nat.add_zero, List.getD_eq_getElem?_getD, List.getElem?_eq_getElem h]
 rfl
theorem mixN_set (l : List ByteArray) (i : Nat) (h : i < l.length) : (mixN l i).set i (rdOf ByteArray.empty l (i : Int) ++ ⟨#[120]⟩) = mixN l (i + 1) := by
 have h1 : ((l.take i).map (fun s => s ++ (⟨#[120]⟩ : ByteArray))).length = i := by rw [List.length_map, List.length_take]; omega
 unfold mixN rdOf
 rw [Int.toNat_natCast, List.getD_eq_getElem?_getD, List.getElem?_eq_getElem h, List.set_append_right _ _ (by omega), h1, Nat.sub_self, List.drop_eq_getElem_cons h, List.set_cons_zero, List.take_succ_eq_append_getElem h, List.map_append, List.append_assoc]
 rfl
theorem SepL.elem {w : World} : ∀ {l : List S25} {m hi : Nat} {inner : List Value} {i : Nat} {x : S25}, SepL w l m hi inner → inner.length = l.length * 5 → l[i]? = some x →
  ∃ lo' hi', m ≤ lo' ∧ lo' ≤ hi' ∧ hi' ≤ hi ∧ SepV w x lo' hi' ((inner.drop (i * 5)).take 5) ∧ ∀ (w' : World) (x' : S25) (c' : List Value), c'.length = 5 → (∀ k, m ≤ k → k < hi → ¬ (lo' ≤ k ∧ k < hi') → w'.heap[k]? = w.heap[k]?) → SepV w' x' lo' hi' c' → SepL w' (l.set i x') m hi (inner.take (i * 5) ++ c' ++ inner.drop (i * 5 + 5))
 | [], _, _, _, _, _, _, _, hi => by simp at hi
 | a :: r, m, hi, inner, 0, x, h, hl, hx => by
  obtain rfl : a = x := by simpa using hx
  rw [SepL] at h
  obtain ⟨mid, h1, h2, h3, h4⟩ := h
  refine ⟨m, mid, Nat.le_refl _, h1, h2, by simpa using h3, fun w' x' c' hc hk hx' => ?_⟩
  rw [List.set_cons_zero, SepL]
  refine ⟨mid, h1, h2, ?_, ?_⟩
  · simpa [List.take_append_of_le_length, hc, List.take_of_length_le] using hx'
  ·
   have e : (List.take (0 * 5) inner ++ c' ++ List.drop (0 * 5 + 5) inner).drop 5 = inner.drop 5 := by
    rw [Nat.zero_mul, List.take_zero, List.nil_append, List.drop_append_of_le_length (by omega), List.drop_of_length_le (by omega)]; simp
   rw [e]
   exact h4.keep (fun k a b => hk k (by omega) b (by omega))
 | a :: r, m, hi, inner, i + 1, x, h, hl, hx => by
  rw [SepL] at h
  obtain ⟨mid, h1, h2, h3, h4⟩ := h
  rw [List.length_cons, Nat.add_mul] at hl
  obtain ⟨lo', hi', a1, a2, a3, a4, a5⟩ := SepL.elem (i := i) h4 (by rw [List.length_drop]; omega) (by simpa using hx)
  refine ⟨lo', hi', by omega, a2, a3, ?_, fun w' x' c' hc hk hx' => ?_⟩
  ·
   rw [List.drop_drop] at a4
   rw [show (i + 1) * 5 = 5 + i * 5 by omega]
   exact a4
  ·
   have := a5 w' x' c' hc (fun k b1 b2 b3 => hk k (by omega) b2 b3) hx'
   rw [List.set_cons_succ, SepL]
   refine ⟨mid, h1, h2, ?_, ?_⟩
   ·
    have e : (List.take ((i + 1) * 5) inner ++ c' ++ List.drop ((i + 1) * 5 + 5) inner).take 5 = inner.take 5 := by
     by_cases hi5 : (i + 1) * 5 ≤ inner.length
     ·
      rw [List.append_assoc, List.take_append_of_le_length (by rw [List.length_take]; omega), List.take_take]
      congr 1
      omega
     ·
      exfalso
      have : i < r.length := by
       have := List.getElem?_eq_some_iff.mp (show (a :: r)[i + 1]? = some x from hx)
       obtain ⟨hlt, _⟩ := this
       simpa using hlt
      have : (i + 1) * 5 ≤ r.length * 5 := Nat.mul_le_mul_right _ (by omega)
      omega
    rw [e]
    exact h3.keep' (fun k b1 b2 => hk k b1 (by omega) (by omega))
   ·
    have e : (List.take ((i + 1) * 5) inner ++ c' ++ List.drop ((i + 1) * 5 + 5) inner).drop 5 = List.take (i * 5) (inner.drop 5) ++ c' ++ List.drop (i * 5 + 5) (inner.drop 5) := by
     have hlt : i < r.length := by
      have := List.getElem?_eq_some_iff.mp (show (a :: r)[i + 1]? = some x from hx)
      obtain ⟨hlt, _⟩ := this
      simpa using hlt
     have : (i + 1) * 5 ≤ r.length * 5 := Nat.mul_le_mul_right _ (by omega)
     rw [List.append_assoc, List.drop_append_of_le_length (by rw [List.length_take]; omega), List.drop_take, List.drop_drop, show (i + 1) * 5 - 5 = i * 5 by omega, show 5 + (i * 5 + 5) = (i + 1) * 5 + 5 by omega, List.append_assoc]
    rw [e]
    exact this
theorem rowAt_put1 {w : World} {g n cap o m : Nat} {cur : Array Value} {t : TypeId} (h : w.heap[g]? = some (.cells cur t (0, 0))) (u : Value) :
  rowAt (w.setCell ⟨g, o, none⟩ u) (.slice (some ⟨g, 0, none⟩) n cap) m = (rowAt w (.slice (some ⟨g, 0, none⟩) n cap) m).set o u := by
 have h1 := qv_ h o u rfl
 simp only [rowAt, h, h1]
 rw [Array.toList_setIfInBounds, List.take_set]
end Go.Proofs.YtfpmompdgmklmaaDoor.P
/- spoil: the walk. -/
namespace Go.Proofs.YtfpmompdgmklmaaDoor.P
open Go.RowKit Go.Proofs.YtfpmompdgmklmaaDoorW.PrintWords Go.Proofs.YtfpmompdgmklmaaDoorW.PrintLast Go.Proofs.YtfpmompdgmklmaaDoorW.PrintMore
set_option linter.unusedVariables false
set_option linter.unusedSimpArgs false
theorem SepV.form {w : World} {x : S25} {lo hi : Nat} {cs : List Value} (h : SepV w x lo hi cs) : ∃ A3 c3 A4 c4, cs = [.int .i64 x.f0, .bool x.f1, .string x.f2, .slice A3 x.f3.length c3, .slice A4 x.f4.length c4] := by
 have hM := k25.K_of_M (h.m (base := lo) (ok := fun _ => True) (Nat.le_refl _) (fun _ _ _ => trivial))
 obtain ⟨A3, c3, A4, c4, e, _⟩ := k25_open hM
 exact ⟨A3, c3, A4, c4, e⟩
theorem SepV.parts {w : World} {k : Int} {b : Bool} {t : ByteArray} {l : List S25} {n : List ByteArray} {lo hi : Nat} {c0 c1 c2 v3 v4 : Value} (h : SepV w ⟨k, b, t, l, n⟩ lo hi [c0, c1, c2, v3, v4]) :
  ∃ m, lo ≤ m ∧ m ≤ hi ∧ (∀ q, v3.ownBlock = some q → lo ≤ q ∧ q < m) ∧ (∀ q, v4.ownBlock = some q → lo ≤ q ∧ q < m ∧ v3.ownBlock ≠ some q) ∧ w.ownsRow 0 25 5 v3 l.length (rowAt w v3 (l.length * 5)) ∧ w.ownsRow 0 9 1 v4 n.length (n.map Value.string) ∧ SepL w l m hi (rowAt w v3 (l.length * 5)) := by
 rw [SepV] at h
 obtain ⟨w3, w4, m, he, h2⟩ := h
 obtain rfl : v3 = w3 := by injection he with _ e; injection e with _ e; injection e with _ e; injection e with e _
 obtain rfl : v4 = w4 := by injection he with _ e; injection e with _ e; injection e with _ e; injection e with _ e; injection e with e _
 exact ⟨m, h2⟩
theorem SepV.make {w : World} {k : Int} {b : Bool} {t : ByteArray} {l : List S25} {n : List ByteArray} {lo hi m : Nat} {v3 v4 : Value} (h1 : lo ≤ m) (h2 : m ≤ hi) (h3 : ∀ q, v3.ownBlock = some q → lo ≤ q ∧ q < m) (h4 : ∀ q, v4.ownBlock = some q → lo ≤ q ∧ q < m ∧ v3.ownBlock ≠ some q) (h5 : w.ownsRow 0 25 5 v3 l.length (rowAt w v3 (l.length * 5))) (h6 : w.ownsRow 0 9 1 v4 n.length (n.map Value.string)) (h7 : SepL w l m hi (rowAt w v3 (l.length * 5))) :
  SepV w ⟨k, b, t, l, n⟩ lo hi [.int .i64 k, .bool b, .string t, v3, v4] := by
 rw [SepV]
 exact ⟨v3, v4, m, rfl, h1, h2, h3, h4, h5, h6, h7⟩
theorem own_block {w : World} {base e size n c : Nat} {A : Option Addr} {xs : List Value} (h : w.ownsRow base e size (.slice A n c) n xs) (hn : 0 < n) : ∃ g cur, A = some ⟨g, 0, none⟩ ∧ w.heap[g]? = some (.cells cur e (0, 0)) ∧ n * size ≤ cur.size ∧ ∀ q u, xs[q]? = some u → w.cell? ⟨g, q, none⟩ = some u := by
 rcases h.2 with ⟨_, h0⟩ | ⟨g, cap, cur, hv, _, hh, h1, _, h3, _⟩
 · omega
 ·
  injection hv with e1 _ e2
  subst e1
  exact ⟨g, cur, rfl, hh, by rw [h3]; exact Nat.mul_le_mul_right _ h1, fun q u hq => by have := h.cells (g := g) rfl q u hq; rwa [add_plain] at this⟩
theorem spoil_cells {x : S25} {w : World} {lo hi : Nat} {c1 c2 c3 c4 : Value} {k : Int} (h : SepV w x lo hi [.int .i64 k, c1, c2, c3, c4]) (k' : Int) : SepV w ⟨k', x.f1, x.f2, x.f3, x.f4⟩ lo hi [.int .i64 k', c1, c2, c3, c4] := by
 obtain ⟨k0, b, t, l, n⟩ := x
 rw [SepV] at h ⊢
 obtain ⟨v3, v4, m, he, h2⟩ := h
 refine ⟨v3, v4, m, ?_, h2⟩
 injection he with _ he
 rw [he]
abbrev SpoilF (x : S25) : Prop := ∀ (lo hi : Nat) (v3 v4 : Value) (w : World), hi ≤ w.heap.size → SepV w x lo hi [.int .i64 x.f0, .bool x.f1, .string x.f2, v3, v4] →
 Calls Tryd.prog 23 #[.agg #[.int .i64 x.f0, .bool x.f1, .string x.f2, v3, v4]] w fun e w' => e = .returned (.tuple #[]) ∧ SepV w' (spoilV x) lo hi [.int .i64 x.f0, .bool x.f1, .string x.f2, v3, v4] ∧ Touch lo hi w w'
set_option maxHeartbeats 4000000 in
set_option maxRecDepth 100000 in
theorem spoil_step (k : Int) (b : Bool) (t : ByteArray) (l : List S25) (n : List ByteArray) (hl : l.length ≤ 9223372036854775806) (hn : n.length ≤ 9223372036854775806) (hs : ∀ s ∈ n, s.size ≤ 9223372036854775806) (ih : ∀ x ∈ l, SpoilF x) : SpoilF ⟨k, b, t, l, n⟩ := by
 intro lo hi v3 v4 w hhi hsp
 have kP_ := Tryd.underlying25
 have HSP := q0_.mk hsp
 have HHI := q0_.mk hhi
 have IH := q0_.mk ih
 have HS := q0_.mk hs
 clear hhi ih hs
 obtain ⟨A3, c3, A4, c4, rfl, rfl⟩ : ∃ A3 c3 A4 c4, v3 = .slice A3 l.length c3 ∧ v4 = .slice A4 n.length c4 := by
  have hM := k25.K_of_M (hsp.m (base := lo) (ok := fun _ => True) (Nat.le_refl _) (fun _ _ _ => trivial))
  obtain ⟨A3, c3, A4, c4, e, _⟩ := k25_open hM
  injection e with _ e; injection e with _ e; injection e with _ e; injection e with e3 e; injection e with e4 _
  exact ⟨A3, c3, A4, c4, e3, e4⟩
 clear hsp
 go_enter Tryd.func23, Tryd.ntmps23
 go_wp2_with (first
  | ((with_reducible refine qZ_ (N := 1) rfl ?_); refine qJ_ ?hg (N := 1) ?hd (cs := #[.int .i64 k, .bool b, .string t, .slice A3 l.length c3, .slice A4 n.length c4]) (t := 25) ?hr ?_; (case hd => rfl); (case hg => rfl); (case hr => first | (go_simp; done) | (go_simp; rfl)); intro g1 hg1 w1 hbox hb; have GE1 := q0_.mk hg1; have HB1 := q0_.mk hb; have BK1 := q0_.mk hbox; clear hg1 hb hbox))
 have HSP1 : q0_ (SepV w1 ⟨k, b, t, mixS l 0, n⟩ lo hi [.int .i64 k, .bool b, .string t, .slice A3 l.length c3, .slice A4 n.length c4]) := ⟨by rw [mixS_zero]; exact HSP.out.keep' (fun q a1 a2 => HB1.out.block q (by have := HHI.out; omega))⟩
 have HT1 : q0_ (Touch lo hi w w1) := ⟨Touch.ofBelow HB1.out⟩
 clear HSP
 go_loopg [2] (l.length + 1) (fun kq v2 wr => ∃ j : Nat, v2 = .int .i64 (j : Int) ∧ q0_ (j ≤ l.length ∧ l.length < kq + j) ∧ q0_ (SepV wr ⟨k, b, t, mixS l j, n⟩ lo hi [.int .i64 k, .bool b, .string t, .slice A3 l.length c3, .slice A4 n.length c4]) ∧ q0_ (wr.heap[g1]? = some (.cells #[.int .i64 k, .bool b, .string t, .slice A3 l.length c3, .slice A4 n.length c4] 25 (0, 0))) ∧ q0_ (Touch lo hi w wr))
 case atStart => exact ⟨0, rfl, ⟨by omega⟩, HSP1, BK1, HT1⟩
 case round =>
  clear HSP1 BK1 HT1 HB1
  obtain ⟨j, rfl, hj, HSP, BK, HTC⟩ := hrel
  have kc3 : wr.cell? ⟨g1, 3, none⟩ = some (.slice A3 l.length c3) := (q1_ BK.out 3).trans rfl
  have kc4 : wr.cell? ⟨g1, 4, none⟩ = some (.slice A4 n.length c4) := (q1_ BK.out 4).trans rfl
  cases gk with
  | zero => exact absurd hj.out (by omega)
  | succ k1 =>
   by_cases hlt : j < l.length
   ·
    obtain ⟨m, p1, p2, p3, p4, p5, p6, p7⟩ := HSP.out.parts
    obtain ⟨g, cur, rfl, hh, hcur, hcell⟩ := own_block (by rw [mixS_len] at p5; exact p5) (show 0 < l.length by omega)
    have hmem : qj_ l (j : Int) ∈ l := mem_T25 (by omega) (by omega)
    obtain ⟨lo', hi', a1, a2, a3, a4, a5⟩ := SepL.elem p7 p5.1 (mixS_get l j hlt)
    rw [mixS_len] at a4 a5 p5
    have hlen5 : (rowAt wr (.slice (some ⟨g, 0, none⟩) l.length c3) (l.length * 5)).length = l.length * 5 := p5.1
    have hj5 : (j + 1) * 5 ≤ l.length * 5 := Nat.mul_le_mul_right _ (by omega)
    generalize hx : qj_ l (j : Int) = x at hmem a4
    have HX := q0_.mk hx
    obtain ⟨X3, e3, X4, e4, hce⟩ := a4.form
    rw [hce] at a4
    have hat : ∀ q u, ([.int .i64 x.f0, .bool x.f1, .string x.f2, .slice X3 x.f3.length e3, .slice X4 x.f4.length e4] : List Value)[q]? = some u → wr.cell? ⟨g, j * 5 + q, none⟩ = some u := fun q u hq => by
     refine hcell _ _ ?_
     rw [← hce, List.getElem?_take] at hq
     split at hq
     · rw [List.getElem?_drop] at hq; exact hq
     · cases hq
    have hg : lo ≤ g ∧ g < m := p3 g rfl
    have hq0 : wr.cell? ⟨g, j * 5, none⟩ = some (.int .i64 x.f0) := hat 0 _ rfl
    have hq1 : wr.cell? ⟨g, j * 5 + 1, none⟩ = some (.bool x.f1) := hat 1 _ rfl
    have hq2 : wr.cell? ⟨g, j * 5 + 2, none⟩ = some (.string x.f2) := hat 2 _ rfl
    have hq3 : wr.cell? ⟨g, j * 5 + 3, none⟩ = some (.slice X3 x.f3.length e3) := hat 3 _ rfl
    have hq4 : wr.cell? ⟨g, j * 5 + 4, none⟩ = some (.slice X4 x.f4.length e4) := hat 4 _ rfl
    have HG := q0_.mk hg
    have HH := q0_.mk hh
    have P1 := q0_.mk p1
    have P2 := q0_.mk p2
    have P3 := q0_.mk p3
    have P4 := q0_.mk p4
    have P5 := q0_.mk p5
    have P6 := q0_.mk p6
    have A1 := q0_.mk a1
    have A2 := q0_.mk a2
    have A3' := q0_.mk a3
    have A4' := q0_.mk a4
    have A5 := q0_.mk a5
    have HCE := q0_.mk hce
    have HMEM := q0_.mk hmem
    have HG1 : q0_ (hi ≤ g1 ∧ g1 < wr.heap.size) := ⟨by rw [GE1.out]; exact HHI.out, qY_ BK.out⟩
    have HGW : q0_ (g < wr.heap.size) := ⟨qY_ hh⟩
    clear p1 p2 p3 p4 p5 p6 p7 hcell hat a1 a2 a3 a4 a5 hce hg hh hmem hx hcur
    have hjl : decide ((j : Int) < (l.length : Int)) = true := decide_eq_true (by omega)
    have i1 : 0 ≤ (j : Int) := by omega
    have i2 : (j : Int) < (l.length : Int) := by omega
    go_wp2_with (first
     | (go_at_call 23; refine (IH.out x HMEM.out lo' hi' _ _ _ (by have := A3'.out; have := HG1.out; omega) A4'.out).mono ?_; rintro e w2 ⟨rfl, hsp2, ht2⟩; have HSX := q0_.mk hsp2; have HTX := q0_.mk ht2; clear hsp2 ht2))
    have htx := HTX.out
    have hg3 := A3'.out
    have hgg := HG1.out
    have hga := A1.out
    have hgm := HG.out
    have BK2 : q0_ (w2.heap[g1]? = some (.cells #[.int .i64 k, .bool b, .string t, .slice (some ⟨g, 0, none⟩) l.length c3, .slice A4 n.length c4] 25 (0, 0))) := ⟨(htx.block g1 hgg.2 (by omega)).trans BK.out⟩
    have HH2 : q0_ (w2.heap[g]? = some (.cells cur 25 (0, 0))) := ⟨(htx.block g HGW.out (by omega)).trans HH.out⟩
    have kd3 : w2.cell? ⟨g1, 3, none⟩ = some (.slice (some ⟨g, 0, none⟩) l.length c3) := (q1_ BK2.out 3).trans rfl
    have hqq : w2.cell? ⟨g, j * 5, none⟩ = some (.int .i64 x.f0) := (q1_ HH2.out _).trans ((q1_ HH.out _).symm.trans hq0)
    have hff : w2.frozen? ⟨g, j * 5, none⟩ = false := q3_ HH2.out _
    clear hq0 hq1 hq2 hq3 hq4 kc3 kc4 htx hg3 hgg hga hgm
    (try simp only [Act.put, List.setIfInBounds_toArray, List.set_cons_zero, List.set_cons_succ])
    go_still_tail 12, (by kernel_rfl)
    change wpList _ _ _ _ _ w2.drew
    have hdd : ∀ q : Nat, w2.drew.heap[q]? = w2.heap[q]? := fun _ => rfl
    have hds : w2.drew.heap.size = w2.heap.size := rfl
    have hdf : w2.drew.frozen? ⟨g, j * 5, none⟩ = false := hff
    have hdq : w2.drew.cell? ⟨g, j * 5, none⟩ = some (.int .i64 x.f0) := hqq
    have htd : Touch lo' hi' wr w2.drew := ⟨HTX.out.os, HTX.out.tape, HTX.out.output, HTX.out.size, HTX.out.block⟩
    have hsd : SepV w2.drew (spoilV x) lo' hi' [.int .i64 x.f0, .bool x.f1, .string x.f2, .slice X3 x.f3.length e3, .slice X4 x.f4.length e4] := HSX.out.keep' (fun _ _ _ => rfl)
    generalize w2.drew = wd at hdd hds hdf hdq htd hsd ⊢
    have HDD := q0_.mk hdd
    have HTD := q0_.mk htd
    have HSD := q0_.mk hsd
    have HDS := q0_.mk hds
    clear hdd htd hsd hds hqq hff kd3
    go_wp2_with fail
    generalize hw3_ : wd.setCell ⟨g, j * 5, none⟩ (.int .i64 (wrap64 (x.f0 + 1))) = w3
    have HW3 := q0_.mk hw3_.symm
    clear hw3_ hdf hdq
    go_roundg k1
    case measure => omega
    case rel =>
     have hw3 := HW3.out
     have htx := HTD.out
     have hg3 := A3'.out
     have hgg := HG1.out
     have hga := A1.out
     have hgm := HG.out
     have hgw := HGW.out
     have hp1 := P1.out
     have hp2 := P2.out
     have hhh := HHI.out
     have K3 : ∀ q, q < wr.heap.size → ¬ (lo' ≤ q ∧ q < hi') → q ≠ g → w3.heap[q]? = wr.heap[q]? := fun q b1 b2 b3 => by
      rw [hw3, Below.heap_setCell wd ⟨g, j * 5, none⟩ _ q b3]; exact htx.block q b1 b2
     have HHd : wd.heap[g]? = some (.cells cur 25 (0, 0)) := (HDD.out g).trans HH2.out
     have hrow : rowAt w3 (.slice (some ⟨g, 0, none⟩) l.length c3) (l.length * 5) = (rowAt wr (.slice (some ⟨g, 0, none⟩) l.length c3) (l.length * 5)).set (j * 5) (.int .i64 (wrap64 (x.f0 + 1))) := by
      rw [hw3, rowAt_put1 HHd]
      congr 1
      exact rowAt_same (fun q hq => by have e : g = q := Option.some.inj hq; subst e; exact HHd.trans HH.out.symm)
     have hce := HCE.out
     have hsplit : (rowAt wr (.slice (some ⟨g, 0, none⟩) l.length c3) (l.length * 5)).set (j * 5) (.int .i64 (wrap64 (x.f0 + 1))) = (rowAt wr (.slice (some ⟨g, 0, none⟩) l.length c3) (l.length * 5)).take (j * 5) ++ [.int .i64 (wrap64 (x.f0 + 1)), .bool x.f1, .string x.f2, .slice X3 x.f3.length e3, .slice X4 x.f4.length e4] ++ (rowAt wr (.slice (some ⟨g, 0, none⟩) l.length c3) (l.length * 5)).drop (j * 5 + 5) := by
      generalize rowAt wr (.slice (some ⟨g, 0, none⟩) l.length c3) (l.length * 5) = R at hce hlen5
      have e1 : R = R.take (j * 5) ++ ((R.drop (j * 5)).take 5 ++ R.drop (j * 5 + 5)) := by
       rw [← List.drop_drop, List.take_append_drop, List.take_append_drop]
      have hl1 : (R.take (j * 5)).length = j * 5 := by rw [List.length_take]; omega
      rw [hce] at e1
      conv => lhs; rw [e1]
      rw [List.set_append_right _ _ (by omega), hl1, Nat.sub_self, List.cons_append, List.set_cons_zero, List.append_assoc]
      rfl
     have hsx3 : SepV w3 (spoilE x) lo' hi' [.int .i64 (wrap64 (x.f0 + 1)), .bool x.f1, .string x.f2, .slice X3 x.f3.length e3, .slice X4 x.f4.length e4] := by
      have := HSD.out.keep' (w1 := w3) (fun q b1 b2 => by rw [hw3]; exact Below.heap_setCell wd ⟨g, j * 5, none⟩ _ q (by show q ≠ g; omega))
      exact spoil_cells this _
     have hL := A5.out w3 (spoilE x) _ rfl (fun q b1 b2 b3 => K3 q (by omega) b3 (by omega)) hsx3
     rw [← hsplit, ← hrow, ← HX.out, mixS_set l j hlt] at hL
     have hsz3 : w3.heap.size = wd.heap.size := by rw [hw3]; simp [World.setCell]
     refine ⟨j + 1, ?_, ⟨by have := hj.out; omega⟩, ⟨?_⟩, ⟨(K3 g1 hgg.2 (by omega) (by omega)).trans BK.out⟩, ⟨?_⟩⟩
     · rfl
     ·
      refine SepV.make hp1 hp2 P3.out P4.out ?_ ?_ (by rw [mixS_len]; exact hL)
      ·
       have h5 := P5.out
       rw [mixS_len, hrow]
       refine ⟨by rw [List.length_set]; exact h5.1, ?_⟩
       rcases h5.2 with ⟨_, h0⟩ | ⟨g', cap, cur', hv, b1, b2, b3, b4, b5, b6⟩
       · omega
       ·
        injection hv with e1 _ e2
        injection e1 with e1
        injection e1 with e1
        subst e1
        have : cur' = cur := by rw [HH.out] at b2; injection b2 with b2; injection b2 with b2; exact b2.symm
        subst this
        exact .inr ⟨g, cap, _, by rw [e2], b1, by rw [hw3]; exact qv_ HHd (j * 5) _ rfl, b3, b4, by rw [Array.size_setIfInBounds]; exact b5, by rw [Array.toList_setIfInBounds, List.take_set, b6]⟩
      · exact own_move P6.out (fun q hq => by have := P4.out q hq; exact K3 q (by omega) (by omega) (fun e => this.2.2 (by rw [e]; rfl)))
     ·
      refine HTC.out.trans ⟨?_, ?_, ?_, ?_, fun q b1 b2 => K3 q b1 (by omega) (by omega)⟩
      · rw [hw3]; exact htx.os
      · rw [hw3]; exact htx.tape
      · rw [hw3]; exact htx.output
      · rw [hsz3]; exact htx.size
   ·
    obtain rfl : j = l.length := by have := hj.out; omega
    have hjl : decide ((l.length : Int) < (l.length : Int)) = false := decide_eq_false (by omega)
    go_wp2_with fail
    obtain ⟨wo, hwo⟩ : ∃ wo : World, wo = wr := ⟨_, rfl⟩
    have HSP0 : q0_ (SepV wr ⟨k, b, t, spoilL l, mixN n 0⟩ lo hi [.int .i64 k, .bool b, .string t, .slice A3 l.length c3, .slice A4 n.length c4]) := ⟨by rw [mixN_zero, ← mixS_all]; exact HSP.out⟩
    clear HSP hwo kc3 kc4
    go_loopg [3] (n.length + 1) (fun kq v2 wr => ∃ j : Nat, v2 = .int .i64 (j : Int) ∧ q0_ (j ≤ n.length ∧ n.length < kq + j) ∧ q0_ (SepV wr ⟨k, b, t, spoilL l, mixN n j⟩ lo hi [.int .i64 k, .bool b, .string t, .slice A3 l.length c3, .slice A4 n.length c4]) ∧ q0_ (wr.heap[g1]? = some (.cells #[.int .i64 k, .bool b, .string t, .slice A3 l.length c3, .slice A4 n.length c4] 25 (0, 0))) ∧ q0_ (Touch lo hi w wr))
    case atStart => exact ⟨0, rfl, ⟨by omega⟩, HSP0, BK, HTC⟩
    case round =>
     clear HSP0 BK HTC hj hjl
     obtain ⟨j, rfl, hj, HSP, BK, HTC⟩ := hrel
     have kc4 : wr.cell? ⟨g1, 4, none⟩ = some (.slice A4 n.length c4) := (q1_ BK.out 4).trans rfl
     cases gk with
     | zero => exact absurd hj.out (by omega)
     | succ k1 =>
      by_cases hlt : j < n.length
      ·
       obtain ⟨m, p1, p2, p3, p4, p5, p6, p7⟩ := HSP.out.parts
       obtain ⟨g, cur, rfl, hh, hcur, hcell⟩ := own_block (by rw [mixN_len] at p6; exact p6) (show 0 < n.length by omega)
       have hq0 : wr.cell? ⟨g, j, none⟩ = some (.string (rdOf ByteArray.empty n (j : Int))) := hcell j _ (by rw [List.getElem?_map, mixN_get n j hlt]; rfl)
       have hmem : rdOf ByteArray.empty n (j : Int) ∈ n := by
        unfold rdOf
        rw [Int.toNat_natCast, List.getD_eq_getElem?_getD, List.getElem?_eq_getElem hlt]
        exact List.getElem_mem _
       have hss := HS.out _ hmem
       generalize hx : rdOf ByteArray.empty n (j : Int) = s at hq0 hss
       have HX := q0_.mk hx
       have hff : wr.frozen? ⟨g, j, none⟩ = false := q3_ hh _
       have hg : lo ≤ g ∧ g < m := ⟨(p4 g rfl).1, (p4 g rfl).2.1⟩
       have HG := q0_.mk hg
       have HH := q0_.mk hh
       have P1 := q0_.mk p1
       have P2 := q0_.mk p2
       have P3 := q0_.mk p3
       have P4 := q0_.mk p4
       have P5 := q0_.mk p5
       have P6 := q0_.mk p6
       have P7 := q0_.mk p7
       have HG1 : q0_ (hi ≤ g1 ∧ g1 < wr.heap.size) := ⟨by rw [GE1.out]; exact HHI.out, qY_ BK.out⟩
       clear p1 p2 p3 p4 p5 p6 p7 hcell hh hmem hx hcur hg
       have hjl : decide ((j : Int) < (n.length : Int)) = true := decide_eq_true (by omega)
       have i1 : 0 ≤ (j : Int) := by omega
       have i2 : (j : Int) < (n.length : Int) := by omega
       have hs1 : (9223372036854775807 < s.size + 1) = False := eq_false (by omega)
       have hs2 : decide (s.size + 1 ≤ 9223372036854775807) = true := decide_eq_true (by omega)
       have hs3 : ByteArray.size (⟨#[120]⟩ : ByteArray) = 1 := rfl
       have hadd : ∀ W : World, (Op.stringOp .add s ⟨#[120]⟩).run Tryd.prog W = .ok (.string (s ++ ⟨#[120]⟩)) W := fun W => by
        unfold Op.stringOp
        have : ¬ (((s.size + (⟨#[120]⟩ : ByteArray).size : Nat) : Int) > IntKind.i64.max) := by
         have e : IntKind.i64.max = 9223372036854775807 := by decide
         rw [e, hs3]; omega
        simp only [this, if_false]
        rfl
       go_wp2_with fail
       (try simp only [Act.put, List.setIfInBounds_toArray, List.set_cons_zero, List.set_cons_succ])
       go_still_tail 10, (by kernel_rfl)
       change wpList _ _ _ _ _ wr.drew
       have hdd : ∀ q : Nat, wr.drew.heap[q]? = wr.heap[q]? := fun _ => rfl
       have hdf : wr.drew.frozen? ⟨g, j, none⟩ = false := hff
       have hdq : wr.drew.cell? ⟨g, j, none⟩ = some (.string s) := hq0
       have htd : Touch lo hi wr wr.drew := ⟨rfl, rfl, rfl, Nat.le_refl _, fun _ _ _ => rfl⟩
       have hds : wr.drew.heap.size = wr.heap.size := rfl
       generalize wr.drew = wd at hdd hdf hdq htd hds ⊢
       have HDD := q0_.mk hdd
       have HTD := q0_.mk htd
       have HDS := q0_.mk hds
       clear hdd htd hds hq0 hff kc4
       go_wp2_with fail
       generalize hw3_ : wd.setCell ⟨g, j, none⟩ (.string (s ++ ⟨#[120]⟩)) = w3
       have HW3 := q0_.mk hw3_.symm
       clear hw3_ hdf hdq hadd hs1 hs2 hs3
       go_roundg k1
       case measure => omega
       case rel =>
        have hw3 := HW3.out
        have hgg := HG1.out
        have hgm := HG.out
        have hp1 := P1.out
        have hp2 := P2.out
        have hhh := HHI.out
        have htx := HTD.out
        have hsz3 : w3.heap.size = wd.heap.size := by rw [hw3]; simp [World.setCell]
        have K3 : ∀ q, q ≠ g → w3.heap[q]? = wr.heap[q]? := fun q b3 => by
         rw [hw3, Below.heap_setCell wd ⟨g, j, none⟩ _ q b3]; exact HDD.out q
        have HHd : wd.heap[g]? = some (.cells cur 9 (0, 0)) := (HDD.out g).trans HH.out
        have hne : ∀ q, (Value.slice A3 l.length c3).ownBlock = some q → q ≠ g := fun q hq e => (P4.out g rfl).2.2 (by rw [← e]; exact hq)
        have hrow : rowAt w3 (.slice A3 l.length c3) ((spoilL l).length * 5) = rowAt wr (.slice A3 l.length c3) ((spoilL l).length * 5) := rowAt_same (fun q hq => K3 q (hne q hq))
        refine ⟨j + 1, ?_, ⟨by have := hj.out; omega⟩, ⟨?_⟩, ⟨(K3 g1 (by omega)).trans BK.out⟩, ⟨?_⟩⟩
        · rfl
        ·
         refine SepV.make hp1 hp2 P3.out P4.out ?_ ?_ ?_
         · rw [hrow]; exact own_move P5.out (fun q hq => K3 q (hne q hq))
         ·
          have h6 := P6.out
          rw [← mixN_set n j hlt, HX.out, List.length_set]
          refine ⟨by simp, ?_⟩
          rcases h6.2 with ⟨_, h0⟩ | ⟨g', cap, cur', hv, b1, b2, b3, b4, b5, b6⟩
          · rw [mixN_len] at h0; omega
          ·
           injection hv with e1 _ e2
           injection e1 with e1
           injection e1 with e1
           subst e1
           have : cur' = cur := by rw [HH.out] at b2; injection b2 with b2; injection b2 with b2; exact b2.symm
           subst this
           refine .inr ⟨g, cap, _, by rw [e2, mixN_len], b1, by rw [hw3]; exact qv_ HHd j _ rfl, b3, b4, by rw [Array.size_setIfInBounds]; exact b5, ?_⟩
           rw [Array.toList_setIfInBounds, List.take_set, b6, List.map_set]
         ·
          rw [hrow]
          exact P7.out.keep (fun q a1 a2 => K3 q (by omega))
        ·
         refine HTC.out.trans ⟨?_, ?_, ?_, ?_, fun q b1 b2 => K3 q (by omega)⟩
         · rw [hw3]; exact htx.os
         · rw [hw3]; exact htx.tape
         · rw [hw3]; exact htx.output
         · rw [hsz3]; exact htx.size
      ·
       obtain rfl : j = n.length := by have := hj.out; omega
       have hjl : decide ((n.length : Int) < (n.length : Int)) = false := decide_eq_false (by omega)
       go_wp2_with fail
       go_end0
       refine ⟨rfl, ?_, HTC.out⟩
       have := HSP.out
       rw [mixN_all] at this
       rw [spoilV]
       exact this
theorem spoil_all (m : Nat) : ∀ x : S25, SizeOf.sizeOf x ≤ m → fitV x = true → SpoilF x := by
 induction m with
 | zero => intro x hx; cases x; simp at hx
 | succ m ih =>
  intro x hx hf
  obtain ⟨k, i, t, l, n⟩ := x
  obtain ⟨_, h2, h3, h4, h5⟩ := fit_parts hf
  exact spoil_step k i t l n (by omega) (by omega) (fun s hs => by have := h4 s hs; omega) (fun y hy => ih y (by have := mem_sizeV hy (k := k) (i := i) (t := t) (n := n); omega) (fitL_mem h5 hy))
def Sep (lo hi : Nat) (w : World) (x : S25) (v : Value) : Prop := ∃ v3 v4 : Value, v = .agg #[.int .i64 x.f0, .bool x.f1, .string x.f2, v3, v4] ∧ SepV w x lo hi [.int .i64 x.f0, .bool x.f1, .string x.f2, v3, v4]
theorem Sep.keep {lo hi : Nat} {w w1 : World} {x : S25} {v : Value} (h : Sep lo hi w x v) (hk : ∀ k, lo ≤ k → k < hi → w1.heap[k]? = w.heap[k]?) : Sep lo hi w1 x v := by
 obtain ⟨v3, v4, e, hs⟩ := h
 exact ⟨v3, v4, e, hs.keep' hk⟩
theorem sem_spoil {x : S25} {v : Value} {lo hi : Nat} {w : World} (h : Sep lo hi w x v) (hf : fitV x = true) (hhi : hi ≤ w.heap.size) : Calls Tryd.prog 23 #[v] w fun e w' => e = .returned (.tuple #[]) ∧ Sep lo hi w' (spoilV x) v ∧ Touch lo hi w w' := by
 obtain ⟨v3, v4, rfl, hs⟩ := h
 refine (spoil_all _ x (Nat.le_refl _) hf lo hi v3 v4 w hhi hs).mono ?_
 rintro e w' ⟨rfl, h1, h2⟩
 refine ⟨rfl, ⟨v3, v4, ?_, ?_⟩, h2⟩
 · cases x; rw [spoilV]
 · cases x; rw [spoilV] at h1 ⊢; exact h1
theorem sep_copy {x : S25} {A3 A4 : Option Addr} {c3 c4 : Nat} {w : World} (h3 : Kd.C k25 w A3 x.f3.length x.f3) (l3 : x.f3.length ≤ c3) (h4 : Kd.C Kd.string w A4 x.f4.length x.f4) (l4 : x.f4.length ≤ c4) (hf : fitV x = true) :
  Calls Tryd.prog 21 #[.agg #[.int .i64 x.f0, .bool x.f1, .string x.f2, .slice A3 x.f3.length c3, .slice A4 x.f4.length c4]] w fun e w' => ∃ u, e = .returned u ∧ Sep w.heap.size w'.heap.size w' x u ∧ Below w.heap.size w w' := by
 refine (copy_all _ x (Nat.le_refl _) (fits_of_fit _ x (Nat.le_refl _) hf) A3 c3 A4 c4 w h3 l3 h4 l4).mono ?_
 rintro e w' ⟨v3, v4, rfl, hs, hb⟩
 exact ⟨_, rfl, ⟨v3, v4, rfl, by obtain ⟨a0, a1, a2, a3, a4⟩ := x; exact hs⟩, hb⟩
theorem touch_over {B lo hi : Nat} {w0 W W' : World} (h : Below B w0 W) (ht : Touch lo hi W W') (hB : B ≤ lo) (hw : B ≤ w0.heap.size := by exact Nat.le_refl _) : Below B w0 W' :=
 ⟨ht.os.trans h.os, ht.tape.trans h.tape, ht.output.trans h.output, Nat.le_trans h.size ht.size, fun k hk => (ht.block k (by have := h.size; omega) (by omega)).trans (h.block k hk)⟩
theorem Sep.form {lo hi : Nat} {w : World} {x : S25} {v : Value} (h : Sep lo hi w x v) : ∃ A3 c3 A4 c4, v = .agg #[.int .i64 x.f0, .bool x.f1, .string x.f2, .slice A3 x.f3.length c3, .slice A4 x.f4.length c4] := by
 obtain ⟨v3, v4, rfl, hs⟩ := h
 obtain ⟨A3, c3, A4, c4, e⟩ := hs.form
 injection e with _ e; injection e with _ e; injection e with _ e; injection e with e3 e; injection e with e4 _
 exact ⟨A3, c3, A4, c4, by rw [e3, e4]⟩
end Go.Proofs.YtfpmompdgmklmaaDoor.P
/- What the printed functions over values come to. -/
namespace Go.Proofs.YtfpmompdgmklmaaDoor.P
open Go.RowKit Go.Proofs.YtfpmompdgmklmaaDoorW.PrintWords Go.Proofs.YtfpmompdgmklmaaDoorW.PrintLast Go.Proofs.YtfpmompdgmklmaaDoorW.PrintMore
set_option linter.unusedVariables false
set_option linter.unusedSimpArgs false
theorem mem_rd {l : List S25} {i : Nat} (h : i < l.length) : qj_ l (i : Int) ∈ l := mem_T25 (by omega) (by omega)
theorem mx_nat (a b : Nat) : mx (a : Int) (b : Int) = ((max a b : Nat) : Int) := by unfold mx; split <;> omega
theorem wrap_succ {i n : Nat} (h : i < n) (hn : n ≤ 9223372036854775807) : wrap64 ((i : Int) + 1) = ((i + 1 : Nat) : Int) := by rw [v_wrap (by omega) (by omega)]; rfl
theorem fit_len {k : Int} {i : Bool} {t : ByteArray} {l : List S25} {n : List ByteArray} (h : fitV ⟨k, i, t, l, n⟩ = true) : l.length ≤ 9223372036854775807 := by
 have := (fit_parts h).2.1; omega
theorem fit_lenN {k : Int} {i : Bool} {t : ByteArray} {l : List S25} {n : List ByteArray} (h : fitV ⟨k, i, t, l, n⟩ = true) : n.length ≤ 9223372036854775807 := by
 have := (fit_parts h).2.2.1; omega
theorem fit_mem {x : S25} {k : Int} {i : Bool} {t : ByteArray} {l : List S25} {n : List ByteArray} (h : fitV ⟨k, i, t, l, n⟩ = true) (hx : x ∈ l) : fitV x = true := fitL_mem (fit_parts h).2.2.2.2 hx
/-! ### depth -/
theorem depth18 (m : Nat) : ∀ x : S25, SizeOf.sizeOf x ≤ m → fitV x = true → qF_ x ≤ 4611686018427387904 → Ev (fun k => value_Depth.f k x.f0 x.f1 x.f2 x.f3 x.f4) (qF_ x : Int) := by
 induction m with
 | zero => intro x hx; cases x; simp at hx
 | succ m ih =>
  intro x hx hf hd
  obtain ⟨k, b, t, l, n⟩ := x
  have hl := fit_len hf
  have loop : ∀ d i most : Nat, i + d = l.length → most ≤ 4611686018427387904 → Ev (fun k => value_Depth.l0 k (most : Int) l (l.length : Int) i) (((max most (depthL (l.drop i)) + 1 : Nat)) : Int) := by
   intro d
   induction d with
   | zero =>
    intro i most hi hm
    refine Ev.step (f := fun _ => some ((most + 1 : Nat) : Int)) (fun k => ?_) ?_
    · rw [value_Depth.l0, if_neg (by omega), v_wrap (by omega) (by omega)]; rfl
    · rw [List.drop_of_length_le (by omega), depthL, Nat.max_zero]; exact Ev.now _
   | succ d ihd =>
    intro i most hi hm
    have hmem := mem_rd (l := l) (i := i) (by omega)
    have hdx : qF_ (qj_ l (i : Int)) ≤ 4611686018427387904 := by have := depth_mem hmem (k := k) (i := b) (t := t) (n := n); omega
    have h1 := ih _ (by have := mem_sizeV hmem (k := k) (i := b) (t := t) (n := n); omega) (fit_mem hf hmem) hdx
    have h2 := ihd (i + 1) (max most (qF_ (qj_ l (i : Int)))) (by omega) (by omega)
    rw [v_drop (l := l) (i := i) (by omega), depthL, ← Nat.max_assoc]
    refine Ev.step (f := fun k => (value_Depth.f k ((qj_ l i).f0) ((qj_ l i).f1) ((qj_ l i).f2) ((qj_ l i).f3) ((qj_ l i).f4)).bind fun ZS_ => (value_Depth.l0 k (mx most ZS_) l l.length ((i + 1 : Nat) : Int))) (fun k => ?_) (Ev.bind h1 ?_)
    · rw [value_Depth.l0, if_pos (by omega), if_pos (by omega), if_pos (by omega), wrap_succ (n := l.length) (by omega) hl]
    · rw [mx_nat]; exact h2
  have := loop l.length 0 0 (by omega) (by omega)
  rw [List.drop_zero, Nat.zero_max] at this
  exact Ev.step (fun k => by rw [value_Depth.f]; rfl) this
theorem depth19 (m : Nat) : ∀ x : S25, SizeOf.sizeOf x ≤ m → fitV x = true → qF_ x ≤ 4611686018427387904 → Ev (fun k => colophonref10_Depth.f k x.f0 x.f1 x.f2 x.f3 x.f4) (qF_ x : Int) := by
 induction m with
 | zero => intro x hx; cases x; simp at hx
 | succ m ih =>
  intro x hx hf hd
  obtain ⟨k, b, t, l, n⟩ := x
  have hl := fit_len hf
  have loop : ∀ d i most : Nat, i + d = l.length → most ≤ 4611686018427387904 → Ev (fun q => colophonref10_Depth.l0 q (most : Int) i k b t l n) (((max most (depthL (l.drop i)) + 1 : Nat)) : Int) := by
   intro d
   induction d with
   | zero =>
    intro i most hi hm
    refine Ev.step (f := fun _ => some ((most + 1 : Nat) : Int)) (fun q => ?_) ?_
    · rw [colophonref10_Depth.l0, if_neg (by omega), v_wrap (by omega) (by omega)]; rfl
    · rw [List.drop_of_length_le (by omega), depthL, Nat.max_zero]; exact Ev.now _
   | succ d ihd =>
    intro i most hi hm
    have hmem := mem_rd (l := l) (i := i) (by omega)
    have hdx : qF_ (qj_ l (i : Int)) ≤ 4611686018427387904 := by have := depth_mem hmem (k := k) (i := b) (t := t) (n := n); omega
    have h1 := ih _ (by have := mem_sizeV hmem (k := k) (i := b) (t := t) (n := n); omega) (fit_mem hf hmem) hdx
    have h2 := ihd (i + 1) (max most (qF_ (qj_ l (i : Int)))) (by omega) (by omega)
    rw [v_drop (l := l) (i := i) (by omega), depthL, ← Nat.max_assoc]
    refine Ev.step (f := fun q => (colophonref10_Depth.f q ((qj_ l i).f0) ((qj_ l i).f1) ((qj_ l i).f2) ((qj_ l i).f3) ((qj_ l i).f4)).bind fun ZS_ => (colophonref10_Depth.l0 q (mx most ZS_) ((i + 1 : Nat) : Int) k b t l n)) (fun q => ?_) (Ev.bind h1 ?_)
    · rw [colophonref10_Depth.l0, if_pos (by omega), if_pos (by omega), wrap_succ (n := l.length) (by omega) hl]
    · rw [mx_nat]; exact h2
  have := loop l.length 0 0 (by omega) (by omega)
  rw [List.drop_zero, Nat.zero_max] at this
  exact Ev.step (fun k => by rw [colophonref10_Depth.f]; rfl) this
/-! ### too deep -/
theorem deep36 (m : Nat) : ∀ (x : S25) (a : Int), SizeOf.sizeOf x ≤ m → fitV x = true → -1 ≤ a → a ≤ 1000 → Ev (fun k => colophonref10_Deep.f k x.f0 x.f1 x.f2 x.f3 x.f4 a) (deepV x a) := by
 induction m with
 | zero => intro x a hx; cases x; simp at hx
 | succ m ih =>
  intro x a hx hf ha ha2
  obtain ⟨k, b, t, l, n⟩ := x
  have hl := fit_len hf
  by_cases h0 : a < 0
  ·
   refine Ev.step (f := fun _ => some true) (fun q => by rw [colophonref10_Deep.f, if_pos h0]) ?_
   have : deepV ⟨k, b, t, l, n⟩ a = true := decide_eq_true (by have := depth_pos ⟨k, b, t, l, n⟩; omega)
   rw [this]; exact Ev.now _
  ·
   have loop : ∀ d i : Nat, i + d = l.length → Ev (fun q => colophonref10_Deep.l0 q a i k b t l n) (decide (a + 1 ≤ (depthL (l.drop i) : Int))) := by
    intro d
    induction d with
    | zero =>
     intro i hi
     refine Ev.step (f := fun _ => some false) (fun q => ?_) ?_
     · rw [colophonref10_Deep.l0, if_neg (by omega)]
     · rw [List.drop_of_length_le (by omega), depthL, decide_eq_false (by omega)]; exact Ev.now _
    | succ d ihd =>
     intro i hi
     have hmem := mem_rd (l := l) (i := i) (by omega)
     have h1 := ih (qj_ l (i : Int)) (a - 1) (by have := mem_sizeV hmem (k := k) (i := b) (t := t) (n := n); omega) (fit_mem hf hmem) (by omega) (by omega)
     have h2 := ihd (i + 1) (by omega)
     rw [v_drop (l := l) (i := i) (by omega), depthL]
     refine Ev.step (f := fun q => (colophonref10_Deep.f q ((qj_ l i).f0) ((qj_ l i).f1) ((qj_ l i).f2) ((qj_ l i).f3) ((qj_ l i).f4) (a - 1)).bind fun t349 => (if t349 = true then (some true) else (colophonref10_Deep.l0 q a ((i + 1 : Nat) : Int) k b t l n))) (fun q => ?_) (Ev.bind h1 ?_)
     · rw [colophonref10_Deep.l0, if_pos (by omega), if_pos (by omega), wrap_succ (n := l.length) (by omega) hl, v_wrap (show (-9223372036854775808 : Int) ≤ a - 1 by omega) (by omega)]
     ·
      by_cases hq : deepV (qj_ l (i : Int)) (a - 1) = true
      ·
       simp only [hq, if_true]
       unfold deepV at hq
       have hq' := of_decide_eq_true hq
       rw [decide_eq_true (by omega)]
       exact Ev.now _
      ·
       have hq2 : deepV (qj_ l (i : Int)) (a - 1) = false := by simpa using hq
       simp only [hq2, Bool.false_eq_true, if_false]
       unfold deepV at hq2
       have hq' := of_decide_eq_false hq2
       rw [show decide (a + 1 ≤ ((max (qF_ (qj_ l (i : Int))) (depthL (l.drop (i + 1))) : Nat) : Int)) = decide (a + 1 ≤ (depthL (l.drop (i + 1)) : Int)) from decide_eq_decide.mpr (by omega)]
       exact h2
   have := loop l.length 0 (by omega)
   rw [List.drop_zero] at this
   have e : deepV ⟨k, b, t, l, n⟩ a = decide (a + 1 ≤ (depthL l : Int)) := by
    unfold deepV; rw [qF_]; exact decide_eq_decide.mpr (by omega)
   rw [e]
   exact Ev.step (fun q => by rw [colophonref10_Deep.f, if_neg h0]; rfl) this
theorem deep13 (l : List S25) (hl : l.length ≤ 9223372036854775807) (hf : ∀ x ∈ l, fitV x = true) : Ev (fun k => colophonref10_DeepList.f k l) (anyDeep l) := by
 have loop : ∀ d i : Nat, i + d = l.length → Ev (fun q => colophonref10_DeepList.l0 q l i) (anyDeep (l.drop i)) := by
  intro d
  induction d with
  | zero =>
   intro i hi
   refine Ev.step (f := fun _ => some false) (fun q => ?_) ?_
   · rw [colophonref10_DeepList.l0, if_neg (by omega)]
   · rw [List.drop_of_length_le (by omega)]; exact Ev.now _
  | succ d ihd =>
   intro i hi
   have hmem := mem_rd (l := l) (i := i) (by omega)
   have h1 := deep36 _ (qj_ l (i : Int)) 990 (Nat.le_refl _) (hf _ hmem) (by omega) (by omega)
   have h2 := ihd (i + 1) (by omega)
   rw [v_drop (l := l) (i := i) (by omega), anyDeep, List.any_cons]
   refine Ev.step (f := fun q => (colophonref10_Deep.f q ((qj_ l i).f0) ((qj_ l i).f1) ((qj_ l i).f2) ((qj_ l i).f3) ((qj_ l i).f4) 990).bind fun t349 => (if t349 = true then (some true) else (colophonref10_DeepList.l0 q l ((i + 1 : Nat) : Int)))) (fun q => ?_) (Ev.bind h1 ?_)
   · rw [colophonref10_DeepList.l0, if_pos (by omega), if_pos (by omega), wrap_succ (n := l.length) (by omega) hl]
   ·
    by_cases hq : deepV (qj_ l (i : Int)) 990 = true
    ·
     simp only [hq, if_true, Bool.true_or]
     exact Ev.now _
    ·
     have hq2 : deepV (qj_ l (i : Int)) 990 = false := by simpa using hq
     simp only [hq2, Bool.false_eq_true, if_false, Bool.false_or]
     exact h2
 exact loop l.length 0 (by omega)
/-! ### may be -/
theorem may38 (m : Nat) : ∀ x : S25, SizeOf.sizeOf x ≤ m → fitV x = true → Ev (fun k => colophonref10_May.f k x.f0 x.f1 x.f2 x.f3 x.f4) (mayV x) := by
 induction m with
 | zero => intro x hx; cases x; simp at hx
 | succ m ih =>
  intro x hx hf
  obtain ⟨k, b, t, l, n⟩ := x
  have hl := fit_len hf
  have loop : ∀ d i : Nat, i + d = l.length → Ev (fun q => colophonref10_May.l0 q i k b t l n) (mayL (l.drop i)) := by
   intro d
   induction d with
   | zero =>
    intro i hi
    refine Ev.step (f := fun _ => some true) (fun q => ?_) ?_
    · rw [colophonref10_May.l0, if_neg (by omega)]
    · rw [List.drop_of_length_le (by omega), mayL]; exact Ev.now _
   | succ d ihd =>
    intro i hi
    have hmem := mem_rd (l := l) (i := i) (by omega)
    have h1 := ih (qj_ l (i : Int)) (by have := mem_sizeV hmem (k := k) (i := b) (t := t) (n := n); omega) (fit_mem hf hmem)
    have h2 := ihd (i + 1) (by omega)
    rw [v_drop (l := l) (i := i) (by omega), mayL]
    refine Ev.step (f := fun q => (colophonref10_May.f q ((qj_ l i).f0) ((qj_ l i).f1) ((qj_ l i).f2) ((qj_ l i).f3) ((qj_ l i).f4)).bind fun t376 => (if t376 = true then (colophonref10_May.l0 q ((i + 1 : Nat) : Int) k b t l n) else (some false))) (fun q => ?_) (Ev.bind h1 ?_)
    · rw [colophonref10_May.l0, if_pos (by omega), if_pos (by omega), wrap_succ (n := l.length) (by omega) hl]
    ·
     by_cases hq : mayV (qj_ l (i : Int)) = true
     · simp only [hq, if_true, Bool.true_and]; exact h2
     ·
      have hq2 : mayV (qj_ l (i : Int)) = false := by simpa using hq
      simp only [hq2, Bool.false_eq_true, if_false, Bool.false_and]
      exact Ev.now _
  have hloop := loop l.length 0 (by omega)
  rw [List.drop_zero] at hloop
  have hloop' : Ev (fun q => colophonref10_May.l0 q 0 k b t l n) (mayL l) := hloop
  clear loop hloop
  have hj1 : ∀ c : Bool, Ev (fun q => colophonref10_May.j1 q c k b t l n) (!c && mayL l) := by
   intro c
   cases c
   · exact Ev.step (fun q => by rw [colophonref10_May.j1, if_neg (by simp)]) (by simpa using hloop')
   · exact Ev.step (f := fun _ => some false) (fun q => by rw [colophonref10_May.j1, if_pos rfl]) (by simpa using Ev.now false)
  have hj0 : ∀ c : Bool, Ev (fun q => colophonref10_May.j0 q c k b t l n) (!c && ((!(k == 5) || decide (n.length = l.length)) && mayL l)) := by
   intro c
   cases c
   ·
    by_cases h5 : k = 5
    ·
     refine Ev.step (fun q => by rw [colophonref10_May.j0, if_neg (by simp), if_pos h5]) ?_
     have := hj1 ((n.length : Int) != (l.length : Int))
     have e : (!((n.length : Int) != (l.length : Int))) = decide (n.length = l.length) := by
      rw [Bool.eq_iff_iff]; simp [Int.natCast_inj]
     rw [e] at this
     simpa [h5] using this
    ·
     refine Ev.step (fun q => by rw [colophonref10_May.j0, if_neg (by simp), if_neg h5]) ?_
     have hb : (k == 5) = false := beq_eq_false_iff_ne.mpr h5
     simpa [hb] using hj1 false
   · exact Ev.step (f := fun _ => some false) (fun q => by rw [colophonref10_May.j0, if_pos rfl]) (by simpa using Ev.now false)
  rw [mayV]
  generalize hX : ((!(k == 5) || decide (n.length = l.length)) && mayL l) = X at hj0
  clear hX hj1 hloop'
  have hT : Ev (fun q => colophonref10_May.j0 q true k b t l n) false := hj0 true
  have hF : Ev (fun q => colophonref10_May.j0 q false k b t l n) X := by simpa using hj0 false
  have h5' : Ev (fun q => colophonref10_May.j0 q (k != 5) k b t l n) ((k == 5) && X) := by have := hj0 (k != 5); simpa [bne] using this
  refine Ev.step (fun q => by rw [colophonref10_May.f]) ?_
  dsimp only
  simp only [v_empty]
  by_cases h0 : k < 0
  · simp only [h0, if_true, decide_eq_false (show ¬ 0 ≤ k by omega), Bool.false_and]; exact hT
  by_cases h6 : k > 5
  · simp only [h0, h6, if_true, if_false, decide_eq_false (show ¬ k ≤ 5 by omega), Bool.false_and, Bool.and_false]; exact hT
  by_cases ht : t.size = 0
  all_goals by_cases hl0 : l.length = 0
  all_goals by_cases hn0 : n.length = 0
  all_goals
   have hlp : ((l.length : Int) > 0) = (l.length ≠ 0) := propext ⟨fun h => by omega, fun h => by omega⟩
   have hnp : ((n.length : Int) > 0) = (n.length ≠ 0) := propext ⟨fun h => by omega, fun h => by omega⟩
   simp only [hlp, hnp, ht, hl0, hn0, if_true, if_false, decide_true, decide_false, Bool.true_or, Bool.false_or, Bool.true_and, ne_eq, not_true_eq_false, not_false_eq_true]
   clear hlp hnp
   obtain rfl | rfl | rfl | rfl | rfl | rfl : k = 0 ∨ k = 1 ∨ k = 2 ∨ k = 3 ∨ k = 4 ∨ k = 5 := by omega
  all_goals
   cases b <;> first | simpa using hF | simpa using hT | simpa using h5'
end Go.Proofs.YtfpmompdgmklmaaDoor.P
/- What the printed functions over values come to: checked, alike, copied, found. -/
namespace Go.Proofs.YtfpmompdgmklmaaDoor.P
open Go.RowKit Go.Proofs.YtfpmompdgmklmaaDoorW.PrintWords Go.Proofs.YtfpmompdgmklmaaDoorW.PrintLast Go.Proofs.YtfpmompdgmklmaaDoorW.PrintMore
set_option linter.unusedVariables false
set_option linter.unusedSimpArgs false
theorem check16 (x : S25) (hf : fitV x = true) (hd : qF_ x ≤ 4611686018427387904) : Ev (fun k => value_Check.f k x.f0 x.f1 x.f2 x.f3 x.f4) (checkV x) := by
 unfold value_Check.f value_mayBe.f
 rw [may_eta]
 unfold checkV
 refine Ev.bind (Ev.now (mayV x)) ?_
 by_cases h : mayV x = true
 ·
  simp only [h, if_true]
  refine Ev.bind (depth18 _ x (Nat.le_refl _) hf hd) ?_
  by_cases h2 : qF_ x > 128
  · rw [if_pos h2, if_pos (by omega)]; exact Ev.now _
  · rw [if_neg h2, if_neg (by omega)]; exact Ev.now _
 · simp only [if_neg h]; exact Ev.now _
theorem check17 (x : S25) (hf : fitV x = true) (hd : qF_ x ≤ 4611686018427387904) : Ev (fun k => colophonref10_Check.f k x.f0 x.f1 x.f2 x.f3 x.f4) (checkV x) := by
 unfold colophonref10_Check.f
 unfold checkV
 refine Ev.bind (may38 _ x (Nat.le_refl _) hf) ?_
 by_cases h : mayV x = true
 ·
  simp only [h, if_true]
  refine Ev.bind (depth19 _ x (Nat.le_refl _) hf hd) ?_
  by_cases h2 : qF_ x > 128
  · rw [if_pos h2, if_pos (by omega)]; exact Ev.now _
  · rw [if_neg h2, if_neg (by omega)]; exact Ev.now _
 · simp only [if_neg h]; exact Ev.now _
theorem eq39 (l m : List ByteArray) (hl : l.length ≤ 9223372036854775807) : Ev (fun k => colophonref10_EqTexts.f k l m) (decide (l = m)) := by
 unfold colophonref10_EqTexts.f
 by_cases h : l.length = m.length
 ·
  simp only [if_pos (show (l.length : Int) = (m.length : Int) by omega)]
  have loop : ∀ d i : Nat, i + d = l.length → Ev (fun k => colophonref10_EqTexts.l0 k l m i) (decide (l.drop i = m.drop i)) := by
   intro d
   induction d with
   | zero =>
    intro i hi
    rw [List.drop_of_length_le (by omega), List.drop_of_length_le (by omega)]
    refine Ev.step (f := fun _ => some true) (fun k => ?_) (Ev.now _)
    rw [colophonref10_EqTexts.l0, if_neg (by omega)]
   | succ d ih =>
    intro i hi
    have hd := n_drop (l := l) (i := i) (by omega)
    have hd2 := n_drop (l := m) (i := i) (by omega)
    have e : ∀ k, colophonref10_EqTexts.l0 (k + 1) l m i = (if rdOf ByteArray.empty l i = rdOf ByteArray.empty m i then colophonref10_EqTexts.l0 k l m ((i + 1 : Nat) : Int) else some false) := fun k => by
     rw [colophonref10_EqTexts.l0, if_pos (by omega), if_pos (by omega), if_pos (by omega), wrap_succ (n := l.length) (by omega) hl]
     simp only [v_text]
    rw [hd, hd2]
    by_cases hq : rdOf ByteArray.empty l i = rdOf ByteArray.empty m i
    ·
     have := ih (i + 1) (by omega)
     refine Ev.step (fun k => by rw [e, if_pos hq]) ?_
     rw [hq]
     simpa using this
    ·
     refine Ev.step (f := fun _ => some false) (fun k => by rw [e, if_neg hq]) ?_
     rw [decide_eq_false (by simp [hq])]
     exact Ev.now _
  have := loop l.length 0 (by omega)
  rw [List.drop_zero, List.drop_zero] at this
  exact this
 ·
  simp only [if_neg (show ¬ (l.length : Int) = (m.length : Int) by omega)]
  rw [decide_eq_false (by rintro rfl; exact h rfl)]
  exact Ev.now _
theorem eq20 (m : Nat) : ∀ x y : S25, SizeOf.sizeOf x ≤ m → fitV x = true → Ev (fun k => colophonref10_Equal.f k x.f0 x.f1 x.f2 x.f3 x.f4 y.f0 y.f1 y.f2 y.f3 y.f4) (eqV x y) := by
 induction m with
 | zero => intro x y hx; cases x; simp at hx
 | succ m ih =>
  intro x y hx hf
  obtain ⟨k, b, t, l, n⟩ := x
  obtain ⟨k', b', t', l', n'⟩ := y
  have hl := fit_len hf
  have hn := fit_lenN hf
  have hj : l.length = l'.length → Ev (fun q => colophonref10_Equal.j0 q false k b t l n k' b' t' l' n') (eqL l l') := by
   intro hll
   have loop : ∀ d i : Nat, i + d = l.length → Ev (fun q => colophonref10_Equal.l0 q i k b t l n k' b' t' l' n') (eqL (l.drop i) (l'.drop i)) := by
    intro d
    induction d with
    | zero =>
     intro i hi
     rw [List.drop_of_length_le (by omega), List.drop_of_length_le (by omega)]
     refine Ev.step (f := fun _ => some true) (fun q => ?_) (by rw [eqL]; exact Ev.now _)
     rw [colophonref10_Equal.l0, if_neg (by omega)]
    | succ d ihd =>
     intro i hi
     have hmem := mem_rd (l := l) (i := i) (by omega)
     have h1 := ih (qj_ l (i : Int)) (qj_ l' (i : Int)) (by have := mem_sizeV hmem (k := k) (i := b) (t := t) (n := n); omega) (fit_mem hf hmem)
     have h2 := ihd (i + 1) (by omega)
     rw [v_drop (l := l) (i := i) (by omega), v_drop (l := l') (i := i) (by omega), eqL]
     refine Ev.step (f := fun q => (colophonref10_Equal.f q ((qj_ l i).f0) ((qj_ l i).f1) ((qj_ l i).f2) ((qj_ l i).f3) ((qj_ l i).f4) ((qj_ l' i).f0) ((qj_ l' i).f1) ((qj_ l' i).f2) ((qj_ l' i).f3) ((qj_ l' i).f4)).bind fun t387 => (if t387 = true then (colophonref10_Equal.l0 q ((i + 1 : Nat) : Int) k b t l n k' b' t' l' n') else (some false))) (fun q => ?_) (Ev.bind h1 ?_)
     · rw [colophonref10_Equal.l0, if_pos (by omega), if_pos (by omega), if_pos (by omega), wrap_succ (n := l.length) (by omega) hl]
     ·
      by_cases hq : eqV (qj_ l (i : Int)) (qj_ l' (i : Int)) = true
      · simp only [hq, if_true, Bool.true_and]; exact h2
      ·
       have hq2 : eqV (qj_ l (i : Int)) (qj_ l' (i : Int)) = false := by simpa using hq
       simp only [hq2, Bool.false_eq_true, if_false, Bool.false_and]
       exact Ev.now _
   have := loop l.length 0 (by omega)
   rw [List.drop_zero, List.drop_zero] at this
   exact Ev.step (fun q => by rw [colophonref10_Equal.j0, if_neg (by simp)]; rfl) this
  have hjT : Ev (fun q => colophonref10_Equal.j0 q true k b t l n k' b' t' l' n') false := Ev.step (f := fun _ => some false) (fun q => by rw [colophonref10_Equal.j0, if_pos rfl]) (Ev.now _)
  refine Ev.step (fun q => by rw [colophonref10_Equal.f]) ?_
  dsimp only
  rw [eqV]
  simp only [v_text]
  by_cases h1 : k = k'
  ·
   by_cases h2 : b = b'
   ·
    by_cases h3 : t = t'
    ·
     subst h1 h2 h3
     simp only [if_true, bne_self_eq_false, Bool.false_eq_true, if_false, beq_self_eq_true, decide_true, Bool.true_and]
     refine Ev.bind (eq39 n n' hn) ?_
     by_cases h4 : n = n'
     ·
      simp only [h4, decide_true, if_true, Bool.true_and]
      by_cases h5 : l.length = l'.length
      ·
       rw [show ((l.length : Int) != (l'.length : Int)) = false by simp [h5]]
       subst h4
       exact hj h5
      ·
       rw [show ((l.length : Int) != (l'.length : Int)) = true by simp; omega, eqL_len l l' h5]
       subst h4
       exact hjT
     ·
      simp only [h4, decide_false, Bool.false_eq_true, if_false, Bool.false_and]
      exact hjT
    ·
     subst h1 h2
     simp only [if_true, bne_self_eq_false, Bool.false_eq_true, if_false, h3, decide_false, Bool.false_and, Bool.and_false]
     exact hjT
   ·
    have hb : (b != b') = true := by simpa using h2
    have hb2 : (b == b') = false := by simpa using h2
    simp only [if_pos h1, hb, if_true, hb2, Bool.false_and, Bool.and_false]
    exact hjT
  ·
   have hb : (k == k') = false := by simpa using h1
   simp only [if_neg h1, hb, Bool.false_and]
   exact hjT
/-! ### copied -/
theorem copy15 (m : Nat) : ∀ x : S25, SizeOf.sizeOf x ≤ m → fitV x = true → Ev (fun k => colophonref10_Copy.f k x.f0 x.f1 x.f2 x.f3 x.f4) (x.f0, x.f1, x.f2, x.f3, x.f4) := by
 induction m with
 | zero => intro x hx; cases x; simp at hx
 | succ m ih =>
  intro x hx hf
  obtain ⟨k, b, t, l, n⟩ := x
  have hl := fit_len hf
  obtain ⟨_, hl8, hn16, _, _⟩ := fit_parts hf
  have loop : ∀ d i : Nat, i + d = l.length → Ev (fun q => colophonref10_Copy.l0 q i k b t l n k b t (l.take i)) (k, b, t, l, n) := by
   intro d
   induction d with
   | zero =>
    intro i hi
    refine Ev.step (f := fun _ => some (k, b, t, l, n)) (fun q => ?_) (Ev.now _)
    rw [colophonref10_Copy.l0, if_neg (by omega), if_pos (by simp only [List.length_nil]; omega), List.take_of_length_le (by omega), List.nil_append]
   | succ d ihd =>
    intro i hi
    have hmem := mem_rd (l := l) (i := i) (by omega)
    have h1 := ih (qj_ l (i : Int)) (by have := mem_sizeV hmem (k := k) (i := b) (t := t) (n := n); omega) (fit_mem hf hmem)
    have h2 := ihd (i + 1) (by omega)
    refine Ev.step (f := fun q => (colophonref10_Copy.f q ((qj_ l i).f0) ((qj_ l i).f1) ((qj_ l i).f2) ((qj_ l i).f3) ((qj_ l i).f4)).bind fun D3_ => (if (l.take i).length < 1759218604441 then (colophonref10_Copy.l0 q ((i + 1 : Nat) : Int) k b t l n k b t ((l.take i) ++ [(⟨D3_.1, D3_.2.1, D3_.2.2.1, D3_.2.2.2.1, D3_.2.2.2.2⟩ : S25)])) else (none))) (fun q => ?_) (Ev.bind h1 ?_)
    · rw [colophonref10_Copy.l0, if_pos (by omega), if_pos (by omega), wrap_succ (n := l.length) (by omega) hl]
    ·
     simp only [if_pos (show (l.take i).length < 1759218604441 by rw [List.length_take]; omega)]
     have e : l.take i ++ [(⟨(qj_ l i).f0, (qj_ l i).f1, (qj_ l i).f2, (qj_ l i).f3, (qj_ l i).f4⟩ : S25)] = l.take (i + 1) := by
      rw [List.take_succ_eq_append_getElem (by omega)]
      congr 1
      have e0 : ∀ z : S25, (⟨z.f0, z.f1, z.f2, z.f3, z.f4⟩ : S25) = z := fun z => by cases z; rfl
      rw [e0]
      unfold qj_
      rw [Int.toNat_natCast, List.getD_eq_getElem?_getD, List.getElem?_eq_getElem (by omega)]
      rfl
     simp only [e]
     exact h2
  have := loop l.length 0 (by omega)
  rw [List.take_zero] at this
  exact Ev.step (fun q => by rw [colophonref10_Copy.f]; rfl) this
theorem copy21 (x : S25) (hf : fitV x = true) : value_Copy.f x.f0 x.f1 x.f2 x.f3 x.f4 = some (x.f0, x.f1, x.f2, x.f3, x.f4) := by
 unfold value_Copy.f
 obtain ⟨k, b, t, l, n⟩ := x
 exact if_pos (fits_of_fit _ ⟨k, b, t, l, n⟩ (Nat.le_refl _) hf)
/-! ### found -/
def resG : Option S25 → Int × Bool × ByteArray × List S25 × List ByteArray × Bool
 | some x => (x.f0, x.f1, x.f2, x.f3, x.f4, true)
 | none => (0, false, ⟨#[]⟩, [], [], false)
theorem get24l (k : Int) (b : Bool) (t : ByteArray) (l : List S25) (n : List ByteArray) (s : ByteArray) (hf : ∀ x ∈ l, fitV x = true) (hl : l.length ≤ 9223372036854775807) : ∀ i : Nat, i ≤ l.length → i ≤ n.length → Ev (fun q => value_Get.l0 q s ((i : Int) - 1) k b t l n) (resG (getV l n s i)) := by
 intro i
 induction i with
 | zero =>
  intro _ _
  refine Ev.step (f := fun _ => some (resG none)) (fun q => ?_) (by rw [getV]; exact Ev.now _)
  rw [value_Get.l0, if_neg (by omega)]; rfl
 | succ i ih =>
  intro h1 h2
  have e : ((i + 1 : Nat) : Int) - 1 = (i : Int) := by omega
  have hw : wrap64 ((i : Int) - 1) = (i : Int) - 1 := v_wrap (by omega) (by omega)
  have hmem := mem_rd (l := l) (i := i) (by omega)
  rw [e, getV]
  by_cases hq : rdOf ByteArray.empty n (i : Int) = s
  ·
   refine Ev.step (f := fun _ => some (resG (some (qj_ l (i : Int))))) (fun q => ?_) (by rw [if_pos hq]; exact Ev.now _)
   rw [value_Get.l0, if_pos (by omega), if_pos (by omega), if_pos (by omega)]
   simp only [v_text]
   rw [if_pos hq, if_pos (by omega), copy21 _ (hf _ hmem)]
   rfl
  ·
   refine Ev.step (f := fun q => value_Get.l0 q s ((i : Int) - 1) k b t l n) (fun q => ?_) (by rw [if_neg hq]; exact ih (by omega) (by omega))
   rw [value_Get.l0, if_pos (by omega), if_pos (by omega), if_pos (by omega), hw]
   simp only [v_text]
   rw [if_neg hq]
theorem get25l (k : Int) (b : Bool) (t : ByteArray) (l : List S25) (n : List ByteArray) (s : ByteArray) (hf : ∀ x ∈ l, fitV x = true) (hl : l.length ≤ 9223372036854775807) : ∀ i : Nat, i ≤ l.length → i ≤ n.length → Ev (fun q => colophonref10_Get.l0 q s ((i : Int) - 1) k b t l n) (resG (getV l n s i)) := by
 intro i
 induction i with
 | zero =>
  intro _ _
  refine Ev.step (f := fun _ => some (resG none)) (fun q => ?_) (by rw [getV]; exact Ev.now _)
  rw [colophonref10_Get.l0, if_neg (by omega)]; rfl
 | succ i ih =>
  intro h1 h2
  have e : ((i + 1 : Nat) : Int) - 1 = (i : Int) := by omega
  have hw : wrap64 ((i : Int) - 1) = (i : Int) - 1 := v_wrap (by omega) (by omega)
  have hmem := mem_rd (l := l) (i := i) (by omega)
  rw [e, getV]
  by_cases hq : rdOf ByteArray.empty n (i : Int) = s
  ·
   refine Ev.step (f := fun q => (colophonref10_Copy.f q ((qj_ l i).f0) ((qj_ l i).f1) ((qj_ l i).f2) ((qj_ l i).f3) ((qj_ l i).f4)).bind fun K9_ => (some (K9_.1, K9_.2.1, K9_.2.2.1, K9_.2.2.2.1, K9_.2.2.2.2, true))) (fun q => ?_) ?_
   ·
    rw [colophonref10_Get.l0, if_pos (by omega), if_pos (by omega), if_pos (by omega)]
    simp only [v_text]
    rw [if_pos hq, if_pos (by omega)]
   ·
    rw [if_pos hq]
    exact Ev.bind (copy15 _ _ (Nat.le_refl _) (hf _ hmem)) (Ev.now _)
  ·
   refine Ev.step (f := fun q => colophonref10_Get.l0 q s ((i : Int) - 1) k b t l n) (fun q => ?_) (by rw [if_neg hq]; exact ih (by omega) (by omega))
   rw [colophonref10_Get.l0, if_pos (by omega), if_pos (by omega), if_pos (by omega), hw]
   simp only [v_text]
   rw [if_neg hq]
theorem mn_nat (a b : Nat) : mn (a : Int) (b : Int) = ((min a b : Nat) : Int) := by unfold mn; split <;> omega
theorem get24 (x : S25) (s : ByteArray) (hf : fitV x = true) : Ev (fun q => value_Get.f q x.f0 x.f1 x.f2 x.f3 x.f4 s) (resG (memberV x s)) := by
 obtain ⟨k, b, t, l, n⟩ := x
 unfold value_Get.f memberV
 dsimp only
 by_cases h5 : k = 5
 ·
  simp only [if_pos h5]
  have hl := fit_len hf
  rw [mn_nat, v_wrap (by omega) (by omega)]
  exact get24l k b t l n s (fun y hy => fit_mem hf hy) hl _ (by omega) (by omega)
 · simp only [if_neg h5]; exact Ev.now _
theorem get25 (x : S25) (s : ByteArray) (hf : fitV x = true) : Ev (fun q => colophonref10_Get.f q x.f0 x.f1 x.f2 x.f3 x.f4 s) (resG (memberV x s)) := by
 obtain ⟨k, b, t, l, n⟩ := x
 unfold colophonref10_Get.f memberV
 dsimp only
 by_cases h5 : k = 5
 ·
  simp only [if_pos h5]
  have hl := fit_len hf
  rw [mn_nat, v_wrap (by omega) (by omega)]
  exact get25l k b t l n s (fun y hy => fit_mem hf hy) hl _ (by omega) (by omega)
 · simp only [if_neg h5]; exact Ev.now _
theorem getV_mem {l : List S25} {n : List ByteArray} {s : ByteArray} {x : S25} : ∀ {i : Nat}, i ≤ l.length → getV l n s i = some x → x ∈ l
 | 0, _, h => by cases h
 | i + 1, hi, h => by
  rw [getV] at h
  split at h
  · obtain rfl := Option.some.inj h; exact mem_rd (by omega)
  · exact getV_mem (by omega) h
end Go.Proofs.YtfpmompdgmklmaaDoor.P
/- Values in memory: read, made within bounds; the contracts of the functions over values, told by values. -/
namespace Go.Proofs.YtfpmompdgmklmaaDoor.P
open Go.RowKit Go.Proofs.YtfpmompdgmklmaaDoorW.PrintWords Go.Proofs.YtfpmompdgmklmaaDoorW.PrintLast Go.Proofs.YtfpmompdgmklmaaDoorW.PrintMore
set_option linter.unusedVariables false
set_option linter.unusedSimpArgs false
theorem qV_ {w : World} {g : Nat} {t : TypeId} {a b c d e : Value} (h : w.heap[g]? = some (.cells #[a, b, c, d, e] t (0, 0))) : w.cell? ⟨g, 0, none⟩ = some a ∧ w.cell? ⟨g, 1, none⟩ = some b ∧ w.cell? ⟨g, 2, none⟩ = some c ∧ w.cell? ⟨g, 3, none⟩ = some d ∧ w.cell? ⟨g, 4, none⟩ = some e :=
 ⟨q1_ h 0, q1_ h 1, q1_ h 2, q1_ h 3, q1_ h 4⟩
theorem blk5z {w : World} {g : Nat} {t : TypeId} {a b c d e : Value} (h : w.heap[g]? = some (.cells #[a, b, c, d, e] t (0, 0))) : w.cell? ⟨g, 0, none⟩ = some a ∧ w.cell? ⟨g, 1, none⟩ = some b ∧ w.cell? ⟨g, 2, none⟩ = some c ∧ w.cell? ⟨g, 3, none⟩ = some d ∧ w.cell? ⟨g, 4, none⟩ = some e ∧ w.frozen? ⟨g, 0, none⟩ = false ∧ w.frozen? ⟨g, 1, none⟩ = false ∧ w.frozen? ⟨g, 2, none⟩ = false ∧ w.frozen? ⟨g, 3, none⟩ = false ∧ w.frozen? ⟨g, 4, none⟩ = false :=
 ⟨q1_ h 0, q1_ h 1, q1_ h 2, q1_ h 3, q1_ h 4, q3_ h 0, q3_ h 1, q3_ h 2, q3_ h 3, q3_ h 4⟩
theorem blk_put5 {w : World} {g : Nat} {t : TypeId} {a b c d e a' b' c' d' e' : Value} (h : w.heap[g]? = some (.cells #[a, b, c, d, e] t (0, 0))) : (w.setCells g 0 [a', b', c', d', e']).heap[g]? = some (.cells #[a', b', c', d', e'] t (0, 0)) :=
 qv_ (qv_ (qv_ (qv_ (qv_ h 0 _ rfl) 1 _ rfl) 2 _ rfl) 3 _ rfl) 4 _ rfl
theorem qb_ {w W : World} {g : Nat} {a b c d e : Value} (h : Below w.heap.size w W) (hg : w.heap.size ≤ g) : Below w.heap.size w (W.setCells g 0 [a, b, c, d, e]) :=
 qq_ (qq_ (qq_ (qq_ (qq_ h hg) hg) hg) hg) hg
def Rds (w : World) (x : S25) (v : Value) : Prop := ∃ A3 c3 A4 c4, v = .agg #[.int .i64 x.f0, .bool x.f1, .string x.f2, .slice A3 x.f3.length c3, .slice A4 x.f4.length c4] ∧ Kd.C k25 w A3 x.f3.length x.f3 ∧ x.f3.length ≤ c3 ∧ Kd.C Kd.string w A4 x.f4.length x.f4 ∧ x.f4.length ≤ c4
theorem Rds.below {w w1 : World} {x : S25} {v : Value} (h : Rds w x v) (hb : Below w.heap.size w w1) : Rds w1 x v := by
 obtain ⟨A3, c3, A4, c4, e, h3, l3, h4, l4⟩ := h
 exact ⟨A3, c3, A4, c4, e, Kd.qD_ h3 hb, l3, Kd.qD_ h4 hb, l4⟩
theorem Rds.isK {w : World} {x : S25} {v : Value} (h : Rds w x v) : k25.K w x v.cells.toList := by
 obtain ⟨A3, c3, A4, c4, rfl, h3, l3, h4, l4⟩ := h
 exact k25_mk w x l3 h3 l4 h4
def Own (lo hi : Nat) (w : World) (x : S25) (v : Value) : Prop := ∃ v3 v4 : Value, v = .agg #[.int .i64 x.f0, .bool x.f1, .string x.f2, v3, v4] ∧ Kd.R k25 25 w lo (fun k => k < hi ∧ some k ≠ v4.ownBlock) v3 x.f3 ∧ Kd.R Kd.string 9 w lo (fun k => k < hi) v4 x.f4
theorem Own.reads {lo hi : Nat} {w : World} {x : S25} {v : Value} (h : Own lo hi w x v) : Rds w x v := by
 obtain ⟨v3, v4, rfl, h3, h4⟩ := h
 obtain ⟨A3, c3, rfl, l3, g3⟩ := Kd.R_reads h3
 obtain ⟨A4, c4, rfl, l4, g4⟩ := Kd.R_reads h4
 exact ⟨A3, c3, A4, c4, rfl, g3, l3, g4, l4⟩
theorem Own.keep {lo hi : Nat} {w w1 : World} {x : S25} {v : Value} (h : Own lo hi w x v) (hk : ∀ k, lo ≤ k → k < hi → k < w.heap.size → w1.heap[k]? = w.heap[k]?) : Own lo hi w1 x v := by
 obtain ⟨v3, v4, rfl, h3, h4⟩ := h
 refine ⟨v3, v4, rfl, ?_, ?_⟩
 · exact Kd.qd_ (Kd.R_move (Kd.R_bound h3) (fun k hk' => hk k hk'.2.1 hk'.1.1 hk'.2.2.1)) (fun k hk' => hk'.1)
 · exact Kd.qd_ (Kd.R_move (Kd.R_bound h4) (fun k hk' => hk k hk'.2.1 hk'.1 hk'.2.2.1)) (fun k hk' => hk'.1)
theorem Own.below {lo hi : Nat} {w w1 : World} {x : S25} {v : Value} (h : Own lo hi w x v) (hb : Below w.heap.size w w1) : Own lo hi w1 x v := h.keep (fun k _ _ hk => hb.block k hk)
theorem Own.made {B : Nat} {w : World} {x : S25} {v3 v4 : Value} (h3 : Kd.R k25 25 w B (fun k => some k ≠ v4.ownBlock) v3 x.f3) (h4 : Kd.R Kd.string 9 w B (fun _ => True) v4 x.f4) : Own B w.heap.size w x (.agg #[.int .i64 x.f0, .bool x.f1, .string x.f2, v3, v4]) :=
 ⟨v3, v4, rfl, Kd.qd_ (Kd.R_bound h3) (fun k hk => ⟨hk.2.2.1, hk.1⟩), Kd.qd_ (Kd.R_bound h4) (fun k hk => hk.2.2.1)⟩
theorem Own.lit {B hi : Nat} {w : World} (k : Int) (b : Bool) (t : ByteArray) : Own B hi w ⟨k, b, t, [], []⟩ (.agg #[.int .i64 k, .bool b, .string t, .slice none 0 0, .slice none 0 0]) :=
 ⟨.slice none 0 0, .slice none 0 0, rfl, Kd.R_nil _ _ _ _ _, Kd.R_nil _ _ _ _ _⟩
/-! ### contracts -/
section
variable {x y : S25} {v u : Value} {w : World}
theorem sem_equal (hr : Rds w x v) (hs : Rds w y u) : Calls Tryd.prog 22 #[v, u] w fun e w' => e = .returned (.bool (eqV x y)) ∧ Below w.heap.size w w' := by
 obtain ⟨A3, c3, A4, c4, rfl, h3, l3, h4, l4⟩ := hr
 obtain ⟨B3, d3, B4, d4, rfl, g3, m3, g4, m4⟩ := hs
 exact value_Equal.calls _ _ _ _ _ _ _ _ _ _ _ _ _ _ _ _ _ _ _ _ h3 l3 h4 l4 g3 m3 g4 m4 (by unfold value_Equal.f; rw [eq_eta])
theorem sem_depth (hr : Rds w x v) (hf : fitV x = true) (hd : qF_ x ≤ 4611686018427387904) : Calls Tryd.prog 18 #[v] w fun e w' => e = .returned (.int .i64 (qF_ x)) ∧ Below w.heap.size w w' := by
 obtain ⟨A3, c3, A4, c4, rfl, h3, l3, h4, l4⟩ := hr
 obtain ⟨k, hk⟩ := (depth18 _ x (Nat.le_refl _) hf hd).rounds
 exact value_Depth.calls k _ _ _ _ _ _ _ _ _ _ _ h3 l3 h4 l4 hk
theorem sem_depthR (hr : Rds w x v) (hf : fitV x = true) (hd : qF_ x ≤ 4611686018427387904) : Calls Tryd.prog 19 #[v] w fun e w' => e = .returned (.int .i64 (qF_ x)) ∧ Below w.heap.size w w' := by
 obtain ⟨A3, c3, A4, c4, rfl, h3, l3, h4, l4⟩ := hr
 obtain ⟨k, hk⟩ := (depth19 _ x (Nat.le_refl _) hf hd).rounds
 exact colophonref10_Depth.calls k _ _ _ _ _ _ _ _ _ _ _ h3 l3 h4 l4 hk
theorem sem_check (hr : Rds w x v) (hf : fitV x = true) (hd : qF_ x ≤ 4611686018427387904) : Calls Tryd.prog 16 #[v] w fun e w' => e = .returned (.int .i64 (checkV x)) ∧ Below w.heap.size w w' := by
 obtain ⟨A3, c3, A4, c4, rfl, h3, l3, h4, l4⟩ := hr
 obtain ⟨k, hk⟩ := (check16 x hf hd).rounds
 exact value_Check.calls k _ _ _ _ _ _ _ _ _ _ _ h3 l3 h4 l4 hk
theorem sem_checkR (hr : Rds w x v) (hf : fitV x = true) (hd : qF_ x ≤ 4611686018427387904) : Calls Tryd.prog 17 #[v] w fun e w' => e = .returned (.int .i64 (checkV x)) ∧ Below w.heap.size w w' := by
 obtain ⟨A3, c3, A4, c4, rfl, h3, l3, h4, l4⟩ := hr
 obtain ⟨k, hk⟩ := (check17 x hf hd).rounds
 exact colophonref10_Check.calls k _ _ _ _ _ _ _ _ _ _ _ h3 l3 h4 l4 hk
theorem sem_equalR (hr : Rds w x v) (hs : Rds w y u) (hf : fitV x = true) : Calls Tryd.prog 20 #[v, u] w fun e w' => e = .returned (.bool (eqV x y)) ∧ Below w.heap.size w w' := by
 obtain ⟨A3, c3, A4, c4, rfl, h3, l3, h4, l4⟩ := hr
 obtain ⟨B3, d3, B4, d4, rfl, g3, m3, g4, m4⟩ := hs
 obtain ⟨k, hk⟩ := (eq20 _ x y (Nat.le_refl _) hf).rounds
 exact colophonref10_Equal.calls k _ _ _ _ _ _ _ _ _ _ _ _ _ _ _ _ _ _ _ _ h3 l3 h4 l4 g3 m3 g4 m4 hk
def Makes (w : World) (x : S25) (e : Ending) (w' : World) : Prop := ∃ u, e = .returned u ∧ Own w.heap.size w'.heap.size w' x u ∧ Below w.heap.size w w'
theorem sem_copy (hr : Rds w x v) (hf : fitV x = true) : Calls Tryd.prog 21 #[v] w (Makes w x) := by
 obtain ⟨A3, c3, A4, c4, rfl, h3, l3, h4, l4⟩ := hr
 refine (value_Copy.calls _ _ _ _ _ _ _ _ _ _ _ _ _ _ _ h3 l3 h4 l4 (copy21 x hf)).mono ?_
 rintro e w' ⟨v3, v4, rfl, g3, g4, hb⟩
 exact ⟨_, rfl, Own.made g3 g4, hb⟩
theorem sem_copyR (hr : Rds w x v) (hf : fitV x = true) : Calls Tryd.prog 15 #[v] w (Makes w x) := by
 obtain ⟨A3, c3, A4, c4, rfl, h3, l3, h4, l4⟩ := hr
 obtain ⟨k, hk⟩ := (copy15 _ x (Nat.le_refl _) hf).rounds
 refine (colophonref10_Copy.calls k _ _ _ _ _ _ _ _ _ _ _ _ _ _ _ h3 l3 h4 l4 hk).mono ?_
 rintro e w' ⟨v3, v4, rfl, g3, g4, hb⟩
 exact ⟨_, rfl, Own.made g3 g4, hb⟩
theorem sem_deep {A : Option Addr} {l : List S25} {c : Nat} (hr : Kd.C k25 w A l.length l) (hc : l.length ≤ c) (hf : ∀ x ∈ l, fitV x = true) : Calls Tryd.prog 13 #[.slice A l.length c] w fun e w' => e = .returned (.bool (anyDeep l)) ∧ Below w.heap.size w w' := by
 obtain ⟨k, hk⟩ := (deep13 l hr.2.1 hf).rounds
 exact colophonref10_DeepList.calls k _ _ _ _ _ hr hc hk
def zV : S25 := ⟨0, false, ⟨#[]⟩, [], []⟩
def Tells (w : World) (o : Option S25) (e : Ending) (w' : World) : Prop := ∃ u, e = .returned (.tuple #[u, .bool o.isSome]) ∧ Own w.heap.size w'.heap.size w' (o.getD zV) u ∧ Below w.heap.size w w'
theorem sem_get (s : ByteArray) (hr : Rds w x v) (hf : fitV x = true) : Calls Tryd.prog 24 #[v, .string s] w (Tells w (memberV x s)) := by
 obtain ⟨A3, c3, A4, c4, rfl, h3, l3, h4, l4⟩ := hr
 obtain ⟨k, hk⟩ := (get24 x s hf).rounds
 generalize memberV x s = o at hk ⊢
 cases o with
 | none =>
  refine (value_Get.calls k _ _ _ _ _ _ _ _ _ _ _ _ _ _ _ _ _ h3 l3 h4 l4 hk).mono ?_
  rintro e w' ⟨v3, v4, rfl, g3, g4, hb⟩
  exact ⟨_, rfl, Own.made (x := zV) g3 g4, hb⟩
 | some y =>
  refine (value_Get.calls k _ _ _ _ _ _ _ _ _ _ _ _ _ _ _ _ _ h3 l3 h4 l4 hk).mono ?_
  rintro e w' ⟨v3, v4, rfl, g3, g4, hb⟩
  exact ⟨_, rfl, Own.made (x := y) g3 g4, hb⟩
theorem sem_getR (s : ByteArray) (hr : Rds w x v) (hf : fitV x = true) : Calls Tryd.prog 25 #[v, .string s] w (Tells w (memberV x s)) := by
 obtain ⟨A3, c3, A4, c4, rfl, h3, l3, h4, l4⟩ := hr
 obtain ⟨k, hk⟩ := (get25 x s hf).rounds
 generalize memberV x s = o at hk ⊢
 cases o with
 | none =>
  refine (colophonref10_Get.calls k _ _ _ _ _ _ _ _ _ _ _ _ _ _ _ _ _ h3 l3 h4 l4 hk).mono ?_
  rintro e w' ⟨v3, v4, rfl, g3, g4, hb⟩
  exact ⟨_, rfl, Own.made (x := zV) g3 g4, hb⟩
 | some y =>
  refine (colophonref10_Get.calls k _ _ _ _ _ _ _ _ _ _ _ _ _ _ _ _ _ h3 l3 h4 l4 hk).mono ?_
  rintro e w' ⟨v3, v4, rfl, g3, g4, hb⟩
  exact ⟨_, rfl, Own.made (x := y) g3 g4, hb⟩
end
end Go.Proofs.YtfpmompdgmklmaaDoor.P
/- Words for walks typed by hand: a literal that is read; a region that draws its order, whose calls make memory and tell what does not hang on it. -/
namespace Go.Proofs.YtfpmompdgmklmaaDoor.P
open Go.RowKit Go.Proofs.YtfpmompdgmklmaaDoorW.PrintWords Go.Proofs.YtfpmompdgmklmaaDoorW.PrintLast Go.Proofs.YtfpmompdgmklmaaDoorW.PrintMore
set_option linter.unusedVariables false
set_option linter.unusedSimpArgs false
section
variable {P : Program} {ops : Array Oper} {o : Oper} {rest : List Oper} {a : Act} {Q : Exit → Act → World → Prop}
theorem lit_read {α : Type} (d : Kd α) {W : World} (e : Nat) (hgd : o.guard = none) {N : Tmp} (hd : o.dst = some N) {xs : List α} {inner : List Value}
  (hrun : (execOp a.eval o).run P W = .ok (.value (.slice (some ⟨W.heap.size, 0, none⟩) xs.length xs.length)) (W.alloc (.cells inner.toArray e)))
  (hrep : Reps (d.K W) d.sz xs inner) (hm : xs.length ≤ 9223372036854775807)
  (h : ∀ A c w1, Kd.C d w1 A xs.length xs → xs.length ≤ c → Below W.heap.size W w1 → wpList P ops Q rest (a.put o.dst (.slice A xs.length c)) w1) : wpList P ops Q (o :: rest) a W := by
 refine Kd.R_lit (Kd.fixed d W) (w0 := W) W.heap.size e hgd hd (xs := xs) (inner := inner) (ok := fun _ => True) (okp := fun _ => True) hrun hrep (fun _ hk => hk) trivial (Below.refl _ _) (Nat.le_refl _) hm ?_
 intro v1 w1 hr hb _ _
 obtain ⟨A, c, rfl, hl, hc⟩ := Kd.R_reads hr
 exact h A c w1 (ReadsRow.imp_ hc (Below.refl _ _) (fun _ _ hp => d.K_below hb hp)) hl hb
end
def Ext (w : World) : Type := { w' : World // Below w.heap.size w w' }
instance Ext.some (w : World) : Nonempty (Ext w) := ⟨⟨w, Below.refl _ _⟩⟩
def Ext.v {w : World} (t : Ext w) : World := t.1
theorem Ext.b {w : World} (t : Ext w) : Below w.heap.size w t.v := t.2
theorem region_ext {P : Program} {id : Nat} {Q : Exit → Act → World → Prop} {a : Act} {w : World} {l : List Oper} (hm : P.follows .mixedOrders = true) (hB : Region.lexB .any l.toArray = true)
  (h : wpQuiet P l.toArray (fun w' => ∃ t : Ext w, w' = t.v) (fun a' => ∀ w', (∃ t : Ext w, w' = t.v) → Q .normal a' w') l a) : (Code.region id l.toArray true).wp P Q a w :=
 wp_region_quiet (C := fun w' => ∃ t : Ext w, w' = t.v) hm hB ⟨⟨_, below_drew (Below.refl _ _)⟩, rfl⟩ (by simpa using h)
theorem ext_call {P : Program} {f : FuncId} {args : Array Value} {w : World} {t : Ext w} {v : Value}
  (h : Calls P f args t.v fun e w' => e = .returned v ∧ Below t.v.heap.size t.v w') : Calls P f args t.v fun e w'' => e = .returned v ∧ ∃ m : Ext w, w'' = m.v :=
 h.mono fun _ w'' ⟨he, hb⟩ => ⟨he, ⟨w'', q4_ t.b hb⟩, rfl⟩
def Box (w : World) (g : Nat) (v : Value) : Prop := w.heap[g]? = some (.cells v.cells 25 (0, 0))
theorem Box.below {w w1 : World} {g : Nat} {v : Value} (h : Box w g v) (hb : Below w.heap.size w w1) : Box w1 g v := q2_ h hb
theorem qX_ {w : World} {g : Nat} {cs : Array Value} (h : w.heap[g]? = some (.cells cs 25 (0, 0))) (i : Nat) (u : Value) (hu : cs[i]? = some u) : ∀ t : Ext w, t.v.cell? ⟨g, i, none⟩ = some u := fun t => (q1_ (q2_ h t.b) i).trans hu
theorem reps1 {α : Type} {R : α → List Value → Prop} {size : Nat} {x : α} {c : List Value} (h : R x c) (hl : c.length = size) : Reps R size [x] c := by
 have := Reps.snoc (Reps.none R size) h hl
 simpa using this
theorem deep_not {l : List S25} (h : anyDeep l = false) : ∀ x ∈ l, qF_ x ≤ 4611686018427387904 := by
 intro x hx
 have : ¬ deepV x 990 = true := fun e => by rw [show anyDeep l = true from List.any_eq_true.mpr ⟨x, hx, e⟩] at h; cases h
 unfold deepV at this
 have := of_decide_eq_false (Bool.eq_false_iff.mpr this)
 omega
theorem qg_ {x : S25} {v u : Value} {w : World} (hr : Rds w x v) (hs : Rds w x u) (hf : fitV x = true) : Calls Tryd.prog 20 #[v, u] w fun e w' => e = .returned (.bool true) ∧ Below w.heap.size w w' := by
 have := sem_equalR hr hs hf
 rwa [eqV_refl] at this
theorem sem_equal_at {x y : S25} {v u : Value} {w : World} {b : Bool} (h : eqV x y = b) (hr : Rds w x v) (hs : Rds w y u) : Calls Tryd.prog 22 #[v, u] w fun e w' => e = .returned (.bool b) ∧ Below w.heap.size w w' := by
 have := sem_equal hr hs
 rwa [h] at this
theorem sem_equalR_at {x y : S25} {v u : Value} {w : World} {b : Bool} (h : eqV x y = b) (hr : Rds w x v) (hs : Rds w y u) (hf : fitV x = true) : Calls Tryd.prog 20 #[v, u] w fun e w' => e = .returned (.bool b) ∧ Below w.heap.size w w' := by
 have := sem_equalR hr hs hf
 rwa [h] at this
theorem sem_equal_same {x : S25} {v u : Value} {w : World} (hr : Rds w x v) (hs : Rds w x u) : Calls Tryd.prog 22 #[v, u] w fun e w' => e = .returned (.bool true) ∧ Below w.heap.size w w' := by
 have := sem_equal hr hs
 rwa [eqV_refl] at this
end Go.Proofs.YtfpmompdgmklmaaDoor.P
/- The contracts of the functions that make values; numbers' texts. -/
namespace Go.Proofs.YtfpmompdgmklmaaDoor.P
open Go.RowKit Go.Proofs.YtfpmompdgmklmaaDoorW.PrintWords Go.Proofs.YtfpmompdgmklmaaDoorW.PrintLast Go.Proofs.YtfpmompdgmklmaaDoorW.PrintMore
set_option linter.unusedVariables false
set_option linter.unusedSimpArgs false
def numS (n : Int) : ByteArray := ⟨(Lib.itoa n).toArray⟩
def numV (n : Int) : S25 := ⟨2, false, numS n, [], []⟩
section
variable {x y : S25} {v u : Value} {w : World}
theorem sem_number (n : Int) (h0 : -9223372036854775808 ≤ n) (h1 : n ≤ 9223372036854775807) (hT : TAB w) : Calls Tryd.prog 26 #[.int .i64 n] w (Makes w (numV n)) := by
 refine (value_Number.calls n 2 false (numS n) [] [] w hT ?_).mono ?_
 ·
  unfold value_Number.f strconv_Itoa_44.f
  rw [if_pos ⟨h0, h1⟩]
  rfl
 ·
  rintro e w' ⟨v3, v4, rfl, g3, g4, hb⟩
  exact ⟨_, rfl, Own.made (x := numV n) g3 g4, hb⟩
theorem sem_number_at {n : Int} {s : ByteArray} (hs : numS n = s) (h0 : -9223372036854775808 ≤ n) (h1 : n ≤ 9223372036854775807) (hT : TAB w) : Calls Tryd.prog 26 #[.int .i64 n] w (Makes w ⟨2, false, s, [], []⟩) := by
 have := sem_number n h0 h1 hT
 unfold numV at this
 rwa [hs] at this
theorem sem_text (s : ByteArray) : Calls Tryd.prog 32 #[.string s] w (Makes w ⟨3, false, s, [], []⟩) := by
 refine (value_Text.calls s 3 false s [] [] w rfl).mono ?_
 rintro e w' ⟨v3, v4, rfl, g3, g4, hb⟩
 exact ⟨_, rfl, Own.made (x := ⟨3, false, s, [], []⟩) g3 g4, hb⟩
theorem sem_bool (b : Bool) : Calls Tryd.prog 33 #[.bool b] w (Makes w ⟨1, b, ⟨#[]⟩, [], []⟩) := by
 refine (value_Bool.calls b 1 b ⟨#[]⟩ [] [] w rfl).mono ?_
 rintro e w' ⟨v3, v4, rfl, g3, g4, hb⟩
 exact ⟨_, rfl, Own.made (x := ⟨1, b, ⟨#[]⟩, [], []⟩) g3 g4, hb⟩
def MakesE (w : World) (x : S25) (c : Int) (e : Ending) (w' : World) : Prop := ∃ u, e = .returned (.tuple #[u, .int .i64 c]) ∧ Own w.heap.size w'.heap.size w' x u ∧ Below w.heap.size w w'
def objV (n : List ByteArray) (l : List S25) : S25 := ⟨5, false, ⟨#[]⟩, l, n⟩
def arrV (l : List S25) : S25 := ⟨4, false, ⟨#[]⟩, l, []⟩
theorem sem_make {A A' : Option Addr} {c c' : Nat} {n : List ByteArray} {l : List S25} (hn : Kd.C Kd.string w A n.length n) (hcn : n.length ≤ c) (hl : Kd.C k25 w A' l.length l) (hcl : l.length ≤ c') (he : n.length = l.length) (hf : fitV (objV n l) = true) :
  Calls Tryd.prog 27 #[.slice A n.length c, .slice A' l.length c'] w (MakesE w (objV n l) 0) := by
 refine (value_Make.calls _ _ n _ _ l 5 false ⟨#[]⟩ l n 0 w hn hcn hl hcl ?_).mono ?_
 ·
  unfold value_Make.f
  rw [if_pos (by omega)]
  exact Option.bind_eq_some_iff.mpr ⟨_, copy21 (objV n l) hf, rfl⟩
 ·
  rintro e w' ⟨v3, v4, rfl, g3, g4, hb⟩
  exact ⟨_, rfl, Own.made (x := objV n l) g3 g4, hb⟩
theorem sem_makeR {A A' : Option Addr} {c c' : Nat} {n : List ByteArray} {l : List S25} (hn : Kd.C Kd.string w A n.length n) (hcn : n.length ≤ c) (hl : Kd.C k25 w A' l.length l) (hcl : l.length ≤ c') (he : n.length = l.length) (hf : fitV (objV n l) = true) :
  Calls Tryd.prog 29 #[.slice A n.length c, .slice A' l.length c'] w (MakesE w (objV n l) 0) := by
 obtain ⟨k, hk⟩ := (copy15 _ (objV n l) (Nat.le_refl _) hf).rounds
 refine (colophonref10_Make.calls k _ _ n _ _ l 5 false ⟨#[]⟩ l n 0 w hn hcn hl hcl ?_).mono ?_
 ·
  unfold colophonref10_Make.f
  rw [if_pos (by omega)]
  exact Option.bind_eq_some_iff.mpr ⟨_, hk, rfl⟩
 ·
  rintro e w' ⟨v3, v4, rfl, g3, g4, hb⟩
  exact ⟨_, rfl, Own.made (x := objV n l) g3 g4, hb⟩
theorem sem_makeR_no {A A' : Option Addr} {c c' : Nat} {n : List ByteArray} {l : List S25} (hn : Kd.C Kd.string w A n.length n) (hcn : n.length ≤ c) (hl : Kd.C k25 w A' l.length l) (hcl : l.length ≤ c') (he : n.length ≠ l.length) :
  Calls Tryd.prog 29 #[.slice A n.length c, .slice A' l.length c'] w (MakesE w zV 2) := by
 refine (colophonref10_Make.calls 0 _ _ n _ _ l 0 false ⟨#[]⟩ [] [] 2 w hn hcn hl hcl ?_).mono ?_
 ·
  unfold colophonref10_Make.f
  rw [if_neg (by omega)]
 ·
  rintro e w' ⟨v3, v4, rfl, g3, g4, hb⟩
  exact ⟨_, rfl, Own.made (x := zV) g3 g4, hb⟩
theorem sem_list {A : Option Addr} {c : Nat} {l : List S25} (hl : Kd.C k25 w A l.length l) (hcl : l.length ≤ c) (hf : fitV (arrV l) = true) :
  Calls Tryd.prog 30 #[.slice A l.length c] w (Makes w (arrV l)) := by
 refine (value_List.calls _ _ l 4 false ⟨#[]⟩ l [] w hl hcl ?_).mono ?_
 ·
  unfold value_List.f
  exact Option.bind_eq_some_iff.mpr ⟨_, copy21 (arrV l) hf, rfl⟩
 ·
  rintro e w' ⟨v3, v4, rfl, g3, g4, hb⟩
  exact ⟨_, rfl, Own.made (x := arrV l) g3 g4, hb⟩
theorem sem_listR {A : Option Addr} {c : Nat} {l : List S25} (hl : Kd.C k25 w A l.length l) (hcl : l.length ≤ c) (hf : fitV (arrV l) = true) :
  Calls Tryd.prog 28 #[.slice A l.length c] w (Makes w (arrV l)) := by
 obtain ⟨k, hk⟩ := (copy15 _ (arrV l) (Nat.le_refl _) hf).rounds
 refine (colophonref10_List.calls k _ _ l 4 false ⟨#[]⟩ l [] w hl hcl ?_).mono ?_
 ·
  unfold colophonref10_List.f
  exact Option.bind_eq_some_iff.mpr ⟨_, hk, rfl⟩
 ·
  rintro e w' ⟨v3, v4, rfl, g3, g4, hb⟩
  exact ⟨_, rfl, Own.made (x := arrV l) g3 g4, hb⟩
/-! ### nested -/
def qx_ : Nat → S25 → S25
 | 0, x => x
 | n + 1, x => qx_ n (arrV [x])
theorem nested_ev (n : Nat) (hn : n ≤ 1000000) : ∀ (d : Nat) (i : Nat) (x : S25), i + d = n → Ev (fun k => colophonlaw10_nested.l0 k n i x.f0 x.f1 x.f2 x.f3 x.f4) ((qx_ d x).f0, (qx_ d x).f1, (qx_ d x).f2, (qx_ d x).f3, (qx_ d x).f4) := by
 intro d
 induction d with
 | zero =>
  intro i x hi
  exact Ev.step (f := fun _ => some (x.f0, x.f1, x.f2, x.f3, x.f4)) (fun k => by rw [colophonlaw10_nested.l0, if_neg (by omega)]) (Ev.now _)
 | succ d ih =>
  intro i x hi
  have := ih (i + 1) (arrV [x]) (by omega)
  refine Ev.step (f := fun k => colophonlaw10_nested.l0 k n ((i + 1 : Nat) : Int) (arrV [x]).f0 (arrV [x]).f1 (arrV [x]).f2 (arrV [x]).f3 (arrV [x]).f4) (fun k => ?_) this
  rw [colophonlaw10_nested.l0, if_pos (by omega), wrap_succ (n := n) (by omega) (by omega)]
  cases x
  rfl
def Vds (w : World) (x : S25) (v : Value) : Prop := ∃ A3 c3 A4 c4, v = .agg #[.int .i64 x.f0, .bool x.f1, .string x.f2, .slice A3 x.f3.length c3, .slice A4 x.f4.length c4] ∧ Kd.V k25 25 w w.heap.size (fun _ => True) (.slice A3 x.f3.length c3) x.f3 ∧ Kd.V Kd.string 9 w w.heap.size (fun _ => True) (.slice A4 x.f4.length c4) x.f4
theorem Own.vds {lo hi : Nat} {w : World} {x : S25} {v : Value} (h : Own lo hi w x v) : Vds w x v := by
 obtain ⟨v3, v4, rfl, h3, h4⟩ := h
 obtain ⟨A3, c3, rfl⟩ := Kd.qp_ h3
 obtain ⟨A4, c4, rfl⟩ := Kd.qp_ h4
 exact ⟨A3, c3, A4, c4, rfl, Kd.V_mono (Kd.R_V h3) (fun _ _ => trivial), Kd.V_mono (Kd.R_V h4) (fun _ _ => trivial)⟩
theorem Vds.reads {w : World} {x : S25} {v : Value} (h : Vds w x v) : Rds w x v := by
 obtain ⟨A3, c3, A4, c4, rfl, h3, h4⟩ := h
 obtain ⟨-, l3, g3⟩ := Kd.V_reads' h3
 obtain ⟨-, l4, g4⟩ := Kd.V_reads' h4
 exact ⟨A3, c3, A4, c4, rfl, g3, l3, g4, l4⟩
def Holds (w : World) (x : S25) (e : Ending) (w' : World) : Prop := ∃ u, e = .returned u ∧ Rds w' x u ∧ Below w.heap.size w w'
theorem sem_nested (n : Nat) (hn : n ≤ 1000000) (hv : Vds w x v) : Calls Tryd.prog 35 #[v, .int .i64 n] w (Holds w (qx_ n x)) := by
 obtain ⟨A3, c3, A4, c4, rfl, h3, h4⟩ := hv
 obtain ⟨k, hk⟩ := (nested_ev n hn n 0 x (by omega)).rounds
 refine (colophonlaw10_nested.calls k _ _ _ (fun _ => True) _ _ _ (fun _ => True) _ _ _ n _ _ _ _ _ w h3 h4 (by unfold colophonlaw10_nested.f; exact hk)).mono ?_
 rintro e w' ⟨v3, v4, rfl, g3, g4, hb⟩
 obtain ⟨B3, d3, rfl⟩ := Kd.V_slice g3
 obtain ⟨B4, d4, rfl⟩ := Kd.V_slice g4
 obtain ⟨-, l3, q3⟩ := Kd.V_reads' g3
 obtain ⟨-, l4, q4⟩ := Kd.V_reads' g4
 exact ⟨_, rfl, ⟨_, _, _, _, rfl, q3, l3, q4, l4⟩, hb⟩
theorem sem_check_at {c : Int} (h : checkV x = c) (hr : Rds w x v) (hf : fitV x = true) (hd : qF_ x ≤ 4611686018427387904) : Calls Tryd.prog 16 #[v] w fun e w' => e = .returned (.int .i64 c) ∧ Below w.heap.size w w' := by
 have := sem_check hr hf hd
 rwa [h] at this
theorem sem_depth_at {n : Int} (h : (qF_ x : Int) = n) (hr : Rds w x v) (hf : fitV x = true) (hd : qF_ x ≤ 4611686018427387904) : Calls Tryd.prog 18 #[v] w fun e w' => e = .returned (.int .i64 n) ∧ Below w.heap.size w w' := by
 have := sem_depth hr hf hd
 rwa [h] at this
theorem sem_get_at {s : ByteArray} {o : Option S25} (h : memberV x s = o) (hr : Rds w x v) (hf : fitV x = true) : Calls Tryd.prog 24 #[v, .string s] w (Tells w o) := by
 have := sem_get s hr hf
 rwa [h] at this
end
end Go.Proofs.YtfpmompdgmklmaaDoor.P
/- Values made and spoilt, beside what is read. -/
namespace Go.Proofs.YtfpmompdgmklmaaDoor.P
open Go.RowKit Go.Proofs.YtfpmompdgmklmaaDoorW.PrintWords Go.Proofs.YtfpmompdgmklmaaDoorW.PrintLast Go.Proofs.YtfpmompdgmklmaaDoorW.PrintMore
set_option linter.unusedVariables false
set_option linter.unusedSimpArgs false
theorem Sep.reads {lo hi : Nat} {w : World} {x : S25} {v : Value} (h : Sep lo hi w x v) : Rds w x v := by
 obtain ⟨v3, v4, rfl, hs⟩ := h
 obtain ⟨h3, h4⟩ := sep_R hs
 exact (Own.made h3 h4).reads
theorem sem_copyS {x : S25} {v : Value} {w : World} (hr : Rds w x v) (hf : fitV x = true) : Calls Tryd.prog 21 #[v] w fun e w' => ∃ u, e = .returned u ∧ Sep w.heap.size w'.heap.size w' x u ∧ Below w.heap.size w w' := by
 obtain ⟨A3, c3, A4, c4, rfl, h3, l3, h4, l4⟩ := hr
 exact sep_copy h3 l3 h4 l4 hf
end Go.Proofs.YtfpmompdgmklmaaDoor.P
