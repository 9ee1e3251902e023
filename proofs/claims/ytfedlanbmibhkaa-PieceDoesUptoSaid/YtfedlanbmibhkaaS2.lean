/- Events of a walk whose world behind gets a letter: copy, clear, append of zeros; what they leave is told of the block alone. -/
import Derived.Test.YtfedlanbmibhkaaP1
import Derived.Test.YtfedlanbmibhkaaS1
import Derived.Lib.AppendZerosOnto
import Derived.Lib.Overlaps
import Derived.Lib.SliceRun
import Derived.Laws.Externs
import Derived.Laws.IdiomCopy
import Derived.Deep.RegionLaw
namespace Go.Proofs.Ytfedlanbmibhkaa.P
open Go.RowKit Go.Proofs.YtfedlanbmibhkaaW.PrintWords Go.Proofs.YtfedlanbmibhkaaW.PrintLast Go.Proofs.YtfedlanbmibhkaaW.PrintMore
set_option linter.unusedVariables false
set_option linter.unusedSimpArgs false
section
variable {P : Program} {o : Oper} {a : Act} {K : Act → World → Prop} {Q : Exit → Act → World → Prop} {w : World}

theorem blk_isSome {b : Nat} {e : TypeId} {cur : Array Value} (hb : w.heap[b]? = some (.cells cur e (0, 0))) {j : Nat} (hj : j < cur.size) : (w.cell? ⟨b, j, none⟩).isSome = true := by
  rw [blk_cell hb j, Array.getElem?_eq_getElem hj]; rfl
theorem grown_setCells (b o : Nat) (vs : List Value) : w.grownBy (w.setCells b o vs) (some b) := by
  obtain ⟨h1, h2, h3, h4⟩ := setCells_same b vs o w
  exact ⟨h1, h2, h3, Nat.le_of_eq h4.symm, fun k _ hk => setCells_far vs o k (fun e => hk (by rw [e]))⟩

/-- copy(d, x): the block of d is written; the world behind has a letter. -/
theorem wp_copy_w (d x : Operand) (t : TypeId) (ho : o.op = .call { callee := .builtin .copy, args := #[d, x], argTypes := #[t, t] }) (e : TypeId) (ht : P.underlying t = some (.slice e)) (hs : (P.info? e).map (·.size) = some 1)
    (b off dl dc : Nat) (cur : Array Value) (hd : a.eval d = .slice (some ⟨b, off, none⟩) dl dc) (ad : Addr) (sl sc : Nat) (hx : a.eval x = .slice (some ad) sl sc) (news : List Value) (hn : news.length = Nat.min sl dl)
    (hb : w.heap[b]? = some (.cells cur e (0, 0))) (hsrc : ∀ j v, news[j]? = some v → w.cell? (ad.add j) = some v) (hfit : off + news.length ≤ cur.size) (h1 : ∀ v ∈ news, v.oneCell' = true)
    (h : ∀ w1 cur', w1.heap[b]? = some (.cells cur' e (0, 0)) → cur'.size = cur.size → cur'.toList = cur.toList.take off ++ news ++ cur.toList.drop (off + news.length) → w.grownBy w1 (some b) → K (a.put o.dst (goInt news.length)) w1) : o.wp P a w K Q := by
  have hr := run_copy_cells (P := P) w t t o.type e b off dl dc ad sl sc news ht hs hn hsrc (fun j hj => blk_isSome hb (by omega)) (fun j _ => blk_frozen hb _) h1
  unfold Oper.wp execOp
  simp only [ho, resolve, invoke, builtin, Sem.run_bind, Sem.run_pure, Result.andThen_ok, List.map_toArray, List.map_cons, List.map_nil, hd, hx, hr]
  obtain ⟨cur', h2, h3, h4⟩ := setCells_row news off w cur hb hfit
  exact h _ cur' h2 h3 h4 (grown_setCells b off news)
/-- clear(s). -/
theorem wp_clear_w (d : Operand) (t : TypeId) (ho : o.op = .call { callee := .builtin .clear, args := #[d], argTypes := #[t] }) (e : TypeId) (z : Value) (ht : P.underlying t = some (.slice e)) (hv : ∀ w, (zeroValue e).run P w = .ok z w) (hz : z.cells = #[z]) (h1 : z.oneCell' = true)
    (b off n c : Nat) (cur : Array Value) (hd : a.eval d = .slice (some ⟨b, off, none⟩) n c) (hn : 0 < n) (hb : w.heap[b]? = some (.cells cur e (0, 0))) (hfit : off + n ≤ cur.size)
    (h : ∀ w1 cur', w1.heap[b]? = some (.cells cur' e (0, 0)) → cur'.size = cur.size → cur'.toList = cur.toList.take off ++ List.replicate n z ++ cur.toList.drop (off + n) → w.grownBy w1 (some b) → K (a.put o.dst (.tuple #[])) w1) : o.wp P a w K Q := by
  have hr := Lib.run_clear_slice (P := P) w t e o.type z ht hv hz h1 b off n c hn (fun j hj => blk_isSome hb (by omega)) (fun j _ => blk_frozen hb _)
  unfold Oper.wp execOp
  simp only [ho, resolve, invoke, builtin, Sem.run_bind, Sem.run_pure, Result.andThen_ok, List.map_toArray, List.map_cons, List.map_nil, hd, hr]
  obtain ⟨cur', h2, h3, h4⟩ := setCells_row (List.replicate n z) off w cur hb (by simpa using hfit)
  rw [List.length_replicate] at h4
  exact h _ cur' h2 h3 h4 (grown_setCells b off _)
/-- append(s, k zeros), no room: a new row. -/
theorem wp_zeros_w (s x : Operand) (t tn : TypeId) (ho : o.op = .call { callee := .builtin .append, args := #[s, x], argTypes := #[t, tn] }) (e : TypeId) (i : TypeInfo) (z : Value) (kq kn : IntKind) (ht : P.underlying t = some (.slice e)) (htn : P.underlying tn = some (.int kn)) (hi : P.info? e = some i) (hz : i.zero = some z) (hs1 : i.size = 1) (hz1 : z.cells = #[z])
    (b n c k : Nat) (hs : a.eval s = .slice (some ⟨b, 0, none⟩) n c) (hx : a.eval x = .int kq k) (olds : List Value) (hl : olds.length = n) (hold : ∀ j v, olds[j]? = some v → w.cell? ⟨b, j, none⟩ = some v)
    (N : Nat) (hN : n + k = N) (h0 : 0 < k) (hg : c < n + k) (hbig : (n + k) * i.bytes ≤ 140737488355328) (hby : 0 < i.bytes)
    (h : ∀ w1 c1 cur', w1.heap[w.heap.size]? = some (.cells cur' e (0, 0)) → cur'.size = c1 → N ≤ c1 → c1 ≤ 9223372036854775807 → cur'.toList.take n = olds → Below w.heap.size w w1 → w.heap.size < w1.heap.size → K (a.put o.dst (.slice (some ⟨w.heap.size, 0, none⟩) N c1)) w1) : o.wp P a w K Q := by
  subst hN
  have hfc : (Builtin.firstCells i.size n (.slice (some ⟨b, 0, none⟩) n c)).run P w.drew = .ok olds.toArray w.drew := by
    rw [hs1]; exact run_firstCells_some w.drew 1 n ⟨b, 0, none⟩ n c olds (by omega) (fun j v hj => by rw [add_plain]; exact hold j v hj)
  have hnk : n + k ≤ 140737488355328 := Nat.le_trans (Nat.le_mul_of_pos_right _ hby) hbig
  have hkb : k * i.bytes ≤ 140737488355328 := Nat.le_trans (Nat.mul_le_mul_right _ (by omega)) hbig
  have hr := Lib.run_append_grow_zeros (P := P) w t tn o.type e i z kq kn ht htn hi hz (some ⟨b, 0, none⟩) n c olds hfc k h0 (by omega) hg (by omega) (by omega) (growslice_fits hg hbig)
  unfold Oper.wp execOp
  simp only [ho, resolve, invoke, builtin, Sem.run_bind, Sem.run_pure, Result.andThen_ok, List.map_toArray, List.map_cons, List.map_nil, hs, hx, hr]
  have hm : n + k ≤ maxLen := by unfold maxLen; omega
  refine h _ (grownCap w (n + k) c e) _ (heap_alloc_new w.drew _) ?_ (grownCap_ge _ _ _ _) (grownCap_le_maxLen _ _ _ _ hm) ?_ ((below_drew (Below.refl _ w)).alloc (Nat.le_refl _) _) (by rw [World.size_alloc]; exact Nat.lt_succ_self _)
  · have := grownCap_ge w (n + k) c e
    simp [Builtin.zeroCells, hz1, hl]; omega
  · rw [Array.toList_append, Array.toList_append, List.append_assoc, List.take_append_of_le_length (by simp [hl])]
    simp [← hl]
/-- append of what lies elsewhere to an own row of one-cell elements: where the row behind lies. -/
theorem run_append_at (w : World) (base : Nat) (t ty e : TypeId) (i : TypeInfo) (z : Value) (ht : P.underlying t = some (.slice e)) (hi : P.info? e = some i) (hz : i.zero = some z) (hs1 : i.size = 1) (hz1 : z.cells.size = 1)
    (v : Value) (n : Nat) (xs : List Value) (hown : w.ownsRow base e 1 v n xs) (ad : Addr) (m c : Nat) (news : List Value) (hl : news.length = m) (hnews : ∀ j u, news[j]? = some u → w.cell? (ad.add j) = some u) (h1 : ∀ u ∈ news, u.oneCell' = true)
    (h63 : n + m ≤ 9223372036854775807) (hbytes : (n + m) * i.bytes ≤ 140737488355328) (hbase : base ≤ w.heap.size) :
    ∃ v' w', (Builtin.append_ #[t, t] ty #[v, .slice (some ad) m c]).run P w = .ok v' w' ∧ w'.ownsRow base e 1 v' (n + m) (xs ++ news) ∧ w.grownBy w' v.ownBlock ∧ (v'.ownBlock = v.ownBlock ∨ ∃ b, v'.ownBlock = some b ∧ w.heap.size ≤ b) := by
  have hm' : n + m ≤ maxLen := h63
  obtain ⟨v', w', hr, ho, hg, hn⟩ := run_append_own (P := P) w base t ty e i z 1 i.bytes ht hi hz hs1 rfl hz1 (by decide) v n xs hown ad m c news (by omega) hnews h1 hm' hbytes hbase
  refine ⟨v', w', hr, ho, hg, ?_⟩
  rcases hown.2 with ⟨rfl, rfl⟩ | ⟨g, cap, cur, rfl, hbg, hgg, hnc, hcm, hcs, htake⟩
  · by_cases hm0 : m = 0
    · left; rw [hn.mpr ⟨rfl, hm0⟩]
    · have hr2 := run_append_nil (P := P) w t ty e i z ht hi hz ad m c news (by rw [hs1]; omega) hnews (by omega) (by unfold maxLen at hm'; omega) (by have := hbytes; rw [Nat.zero_add] at this; omega)
      rw [hr2] at hr
      injection hr with h2 _
      right; rw [← h2]; exact ⟨_, rfl, Nat.le_refl _⟩
  · by_cases hroom : n + m ≤ cap
    · obtain ⟨w2, hr2, _⟩ := run_append_fits (P := P) w base t ty e i 1 ht hi hs1 g n cap xs hown ad m c news (by omega) hnews h1 hroom
      rw [hr2] at hr
      injection hr with h2 _
      left; rw [← h2]; rfl
    · have holds : ∀ j u, xs[j]? = some u → w.cell? ((⟨g, 0, none⟩ : Addr).add j) = some u := hown.cells (g := g) rfl
      have hr2 := run_append_grow (P := P) w t ty e i z ht hi hz ⟨g, 0, none⟩ n cap xs (by rw [hs1]; exact hown.1) holds ad m c news (by rw [hs1]; omega) hnews (by omega) (by unfold maxLen at hm'; omega) (growslice_fits (by omega) hbytes)
      rw [hr2] at hr
      injection hr with h2 _
      right; rw [← h2]; exact ⟨_, rfl, Nat.le_refl _⟩
theorem wp_append_w (s x : Operand) (t : TypeId) (ho : o.op = .call { callee := .builtin .append, args := #[s, x], argTypes := #[t, t] }) (base : Nat) (e : TypeId) (i : TypeInfo) (z : Value) (ht : P.underlying t = some (.slice e)) (hi : P.info? e = some i) (hz : i.zero = some z) (hs1 : i.size = 1) (hz1 : z.cells.size = 1)
    (v : Value) (n : Nat) (xs : List Value) (hs : a.eval s = v) (hown : w.ownsRow base e 1 v n xs) (ad : Addr) (m c : Nat) (news : List Value) (hx : a.eval x = .slice (some ad) m c) (hl : news.length = m) (hnews : ∀ j u, news[j]? = some u → w.cell? (ad.add j) = some u) (h1 : ∀ u ∈ news, u.oneCell' = true)
    (h63 : n + m ≤ 9223372036854775807) (hbytes : (n + m) * i.bytes ≤ 140737488355328) (hbase : base ≤ w.heap.size)
    (h : ∀ v' w', w'.ownsRow base e 1 v' (n + m) (xs ++ news) → w.grownBy w' v.ownBlock → (v'.ownBlock = v.ownBlock ∨ ∃ b, v'.ownBlock = some b ∧ w.heap.size ≤ b) → K (a.put o.dst v') w') : o.wp P a w K Q := by
  obtain ⟨v', w', hr, h2, h3, h4⟩ := run_append_at (P := P) w base t o.type e i z ht hi hz hs1 hz1 v n xs hown ad m c news hl hnews h1 h63 hbytes hbase
  unfold Oper.wp execOp
  simp only [ho, resolve, invoke, builtin, Sem.run_bind, Sem.run_pure, Result.andThen_ok, List.map_toArray, List.map_cons, List.map_nil, hs, hx, hr]
  exact h v' w' h2 h3 h4
/-- append where there is room: the block of s is written. -/
theorem wp_append_in (s x : Operand) (t : TypeId) (ho : o.op = .call { callee := .builtin .append, args := #[s, x], argTypes := #[t, t] }) (e : TypeId) (i : TypeInfo) (ht : P.underlying t = some (.slice e)) (hi : P.info? e = some i) (hs1 : i.size = 1)
    (b n cap : Nat) (cur : Array Value) (hs : a.eval s = .slice (some ⟨b, 0, none⟩) n cap) (ad : Addr) (m c : Nat) (hx : a.eval x = .slice (some ad) m c) (news : List Value) (hl : news.length = m)
    (hb : w.heap[b]? = some (.cells cur e (0, 0))) (hsrc : ∀ j v, news[j]? = some v → w.cell? (ad.add j) = some v) (hroom : n + m ≤ cap) (hfit : n + m ≤ cur.size) (h1 : ∀ v ∈ news, v.oneCell' = true)
    (h : ∀ w1 cur', w1.heap[b]? = some (.cells cur' e (0, 0)) → cur'.size = cur.size → cur'.toList = cur.toList.take n ++ news ++ cur.toList.drop (n + news.length) → w.grownBy w1 (some b) → K (a.put o.dst (.slice (some ⟨b, 0, none⟩) (n + m) cap)) w1) : o.wp P a w K Q := by
  subst hl
  have hr := run_append_room_src (P := P) w t t o.type e i ht hi b 0 n cap (.slice (some ad) news.length c) news.length news (by rw [hs1]; exact Src.ofSlice w ht ad news.length c news (by omega) hsrc h1) hroom (fun j hj => by rw [hs1, Nat.mul_one, Nat.zero_add]; exact blk_isSome hb (by omega)) (fun j hj => by rw [hs1, Nat.mul_one, Nat.zero_add]; exact blk_frozen hb _)
  rw [hs1, Nat.mul_one, Nat.zero_add] at hr
  unfold Oper.wp execOp
  simp only [ho, resolve, invoke, builtin, Sem.run_bind, Sem.run_pure, Result.andThen_ok, List.map_toArray, List.map_cons, List.map_nil, hs, hx, hr]
  obtain ⟨cur', h2, h3, h4⟩ := setCells_row news n w cur hb hfit
  exact h _ cur' h2 h3 h4 (grown_setCells b n news)
/-- An event met in a list of operations, or in a region that draws. -/
theorem list_of {ops : Array Oper} {rest : List Oper} (hg : o.guard = none) (h : ∀ K : Act → World → Prop, (∀ a w, wpList P ops Q rest a w → K a w) → o.wp P a w K Q) : wpList P ops Q (o :: rest) a w := wpList_plain hg h
theorem step_of {ops : Array Oper} {E : Prop} (hg : o.guard = none) (h : o.wp P a w K Q) : if Region.wanted o (yielded ops a.tmps) = true then Oper.wp P o a w K Q else E := by
  have hw : Region.wanted o (yielded ops a.tmps) = true := by simp [Region.wanted, hg]
  rw [if_pos hw]; exact h
end
/-- what two copies leave, plainly -/
theorem two_grow {A B C vs us : List Value} {i j : Nat} (hi : i ≤ vs.length) (hA : i + us.length ≤ A.length) (t1 : A.take i = vs.take i) (t2 : B = A.take i ++ us ++ A.drop (i + us.length)) (t3 : C = B.take (i + us.length) ++ vs.drop j ++ B.drop (i + us.length + (vs.drop j).length)) (m : Nat) (hm : m = i + us.length + (vs.length - j)) :
    C.take m = vs.take i ++ us ++ vs.drop j := by
  have l1 : (A.take i ++ us).length = i + us.length := by rw [List.length_append, List.length_take]; omega
  have h1 : B.take (i + us.length) = vs.take i ++ us := by rw [t2, ← l1, List.take_left, t1]
  have l2 : (vs.take i ++ us ++ vs.drop j).length = m := by rw [hm, List.length_append, List.length_append, List.length_take, List.length_drop]; omega
  rw [t3, h1, ← l2, List.take_left]
theorem two_room {A C D vs us : List Value} {i j n : Nat} (hi : i ≤ n) (hl : vs.length = n) (hA : i + us.length + (n - j) ≤ A.length) (t0 : A.take n = vs) (t1 : C = A.take (i + us.length) ++ vs.drop j ++ A.drop (i + us.length + (vs.drop j).length)) (t2 : D = C.take i ++ us ++ C.drop (i + us.length)) (m : Nat) (hm : m = i + us.length + (n - j)) :
    D.take m = vs.take i ++ us ++ vs.drop j := by
  have l0 : (A.take (i + us.length)).length = i + us.length := by rw [List.length_take]; omega
  have h1 : C.take i = vs.take i := by
    rw [t1, List.append_assoc, List.take_append_of_le_length (by omega), List.take_take, Nat.min_eq_left (by omega), ← t0, List.take_take, Nat.min_eq_left hi]
  have h2 : C.drop (i + us.length) = vs.drop j ++ A.drop (i + us.length + (vs.drop j).length) := by
    rw [t1, List.append_assoc, List.drop_left' l0]
  have l2 : (vs.take i ++ us ++ vs.drop j).length = m := by rw [hm, List.length_append, List.length_append, List.length_take, List.length_drop]; omega
  rw [t2, h1, h2, ← List.append_assoc, ← l2, List.take_left]
theorem grown_trans {w w1 w2 : World} {r : Option Nat} (h : w.grownBy w1 r) {r2 : Option Nat} (k : w1.grownBy w2 r2) (hr : r2 = r ∨ ∃ b, r2 = some b ∧ w.heap.size ≤ b) : w.grownBy w2 r :=
  ⟨k.os.trans h.os, k.tape.trans h.tape, k.output.trans h.output, Nat.le_trans h.size k.size, fun b hb hne => (k.block b (Nat.lt_of_lt_of_le hb h.size) (by
    rcases hr with rfl | ⟨c, rfl, hc⟩
    · exact hne
    · intro e; injection e with e; omega)).trans (h.block b hb hne)⟩
theorem grown_drew {w w1 : World} {r : Option Nat} (h : w.drew.grownBy w1 r) : w.grownBy w1 r := ⟨h.os, h.tape, h.output, h.size, h.block⟩
/-- the row as it lies -/
structure RowAt (w : World) (base g n cap : Nat) (E : TypeId) (cur : Array Value) (vs : List Value) : Prop where
  lo : base ≤ g
  blk : w.heap[g]? = some (.cells cur E (0, 0))
  nc : n ≤ cap
  cm : cap ≤ 9223372036854775807
  cs : cur.size = cap
  tk : cur.toList.take n = vs
  len : vs.length = n
theorem RowAt.cell {w : World} {base g n cap : Nat} {E : TypeId} {cur : Array Value} {vs : List Value} (h : RowAt w base g n cap E cur vs) (j : Nat) (u : Value) (hu : vs[j]? = some u) : w.cell? ⟨g, j, none⟩ = some u := by
  rw [blk_cell h.blk j]
  rw [← h.tk, List.getElem?_take] at hu
  split at hu
  · simpa using hu
  · cases hu
theorem RowAt.own {w : World} {base g n cap : Nat} {E : TypeId} {cur : Array Value} {vs : List Value} (h : RowAt w base g n cap E cur vs) : w.ownsRow base E 1 (.slice (some ⟨g, 0, none⟩) n cap) n vs :=
  ⟨by rw [h.len, Nat.mul_one], .inr ⟨g, cap, cur, rfl, h.lo, h.blk, h.nc, h.cm, by rw [h.cs, Nat.mul_one], by rw [Nat.mul_one]; exact h.tk⟩⟩
theorem RowAt.move {w w' : World} {base g n cap : Nat} {E : TypeId} {cur : Array Value} {vs : List Value} (h : RowAt w base g n cap E cur vs) (hm : w'.heap[g]? = w.heap[g]?) : RowAt w' base g n cap E cur vs := { h with blk := hm.trans h.blk }
theorem own_rowAt {w : World} {base n : Nat} {E : TypeId} {v : Value} {vs : List Value} (h : w.ownsRow base E 1 v n vs) : (v = .slice none 0 0 ∧ n = 0 ∧ vs = []) ∨ ∃ g cap cur, v = .slice (some ⟨g, 0, none⟩) n cap ∧ RowAt w base g n cap E cur vs := by
  rcases h.2 with ⟨rfl, rfl⟩ | ⟨g, cap, cur, rfl, hgb, hg, hnc, hcm, hcs, ht⟩
  · exact .inl ⟨rfl, rfl, List.eq_nil_of_length_eq_zero (by simpa using h.1)⟩
  · exact .inr ⟨g, cap, cur, rfl, hgb, hg, hnc, hcm, by rw [hcs, Nat.mul_one], by rw [← ht, Nat.mul_one], by rw [h.1, Nat.mul_one]⟩
theorem own_lower {w : World} {base base' : Nat} {e : TypeId} {size n : Nat} {v : Value} {xs : List Value} (h : w.ownsRow base e size v n xs) (hb : base' ≤ base) : w.ownsRow base' e size v n xs := by
  refine ⟨h.1, ?_⟩
  rcases h.2 with hn | ⟨g, cap, cur, e1, h1, rest⟩
  · exact .inl hn
  · exact .inr ⟨g, cap, cur, e1, Nat.le_trans hb h1, rest⟩
theorem getElem_lt {α : Type} {l : List α} {j : Nat} (h : j < l.length) : ∃ x, l[j]? = some x := ⟨_, List.getElem?_eq_getElem h⟩
theorem flat_take_succ {α : Type} {ps : List (List α)} {q : Nat} {p : List α} (h : ps[q]? = some p) : (ps.take (q + 1)).flatten.length = (ps.take q).flatten.length + p.length := by
  rw [List.take_add_one, h]; simp
theorem flat_take_le {α : Type} (ps : List (List α)) (q : Nat) : (ps.take q).flatten.length ≤ ps.flatten.length := by
  have h : ps.flatten.length = ((ps.take q) ++ (ps.drop q)).flatten.length := by rw [List.take_append_drop]
  rw [h, List.flatten_append, List.length_append]; omega
theorem slot_alloc {W : World} {a : Addr} {v : Value} (o : Obj) (h : W.cell? a = some v ∧ W.frozen? a = false) : (W.alloc o).cell? a = some v ∧ (W.alloc o).frozen? a = false := by
  refine ⟨Lib.cell?_alloc_some o h.1, ?_⟩
  rw [← h.2]
  exact World.frozen?_of_block (Below.heap_alloc W o a.block (World.block_lt_of_cell? W a h.1))
theorem slot_grown {W W1 : World} {a : Addr} {v : Value} {row : Option Nat} (hg : W.grownBy W1 row) (hne : some a.block ≠ row) (h : W.cell? a = some v ∧ W.frozen? a = false) : W1.cell? a = some v ∧ W1.frozen? a = false :=
  have hb := hg.block a.block (World.block_lt_of_cell? W a h.1) hne
  ⟨(World.cell?_of_block hb).trans h.1, (World.frozen?_of_block hb).trans h.2⟩

theorem nums_get {k : IntKind} {xs : List Int} {j : Nat} {x : Int} (h : xs[j]? = some x) : (nums k xs)[j]? = some (.int k x) := by unfold nums; rw [List.getElem?_map, h]; rfl
theorem putS_cons {α : Type} {ps : List (List α)} {i : Nat} {xs : List α} (h0 : 0 < xs.length) : putS ps i xs = ps.take i ++ xs :: ps.drop i := by
  cases xs with
  | nil => simp at h0
  | cons x r => rfl
theorem full_put {α : Type} {ps : List (List α)} {i : Nat} {xs : List α} (h : Full ps) : Full (putS ps i xs) := by
  cases xs with
  | nil => exact h
  | cons x r => exact full_append.mpr ⟨fun p hp => h p (List.mem_of_mem_take hp), full_cons.mpr ⟨by simp, fun p hp => h p (List.mem_of_mem_drop hp)⟩⟩
theorem putS_new {α : Type} (xs : List α) : putS [] 0 xs = newS xs := by cases xs <;> simp [putS, newS]
theorem drop_get {α : Type} {ps : List α} {q : Nat} {p : α} (h : ps[q]? = some p) : ps.drop q = p :: ps.drop (q + 1) := by
  obtain ⟨hlt, rfl⟩ := List.getElem?_eq_some_iff.1 h
  exact List.drop_eq_getElem_cons hlt
theorem take_get {α : Type} {ps : List α} {q : Nat} {p : α} (h : ps[q]? = some p) : ps.take (q + 1) = ps.take q ++ [p] := by
  rw [List.take_add_one, h]; rfl
theorem ret_num {k : IntKind} {a b : Int} (h : a = b) : Value.int k a = .int k b := by rw [h]
theorem add_block (ad : Addr) (j : Nat) : (ad.add j).block = ad.block := by unfold Addr.add; split <;> rfl
theorem C_move {k : IntKind} {w w' : World} {A : Option Addr} {n : Nat} {xs : List Int} (h : Kd.C (Kd.int k) w A n xs) (hm : ∀ ad, A = some ad → ad.block < w.heap.size → w'.heap[ad.block]? = w.heap[ad.block]?) : Kd.C (Kd.int k) w' A n xs := by
  obtain ⟨h1, h2, h3⟩ := h
  refine ⟨h1, h2, fun hp => ?_⟩
  obtain ⟨ad, e, h4⟩ := h3 hp
  refine ⟨ad, e, fun j p hj => ?_⟩
  obtain ⟨c, hc1, hc2, hc3⟩ := h4 j p hj
  exact ⟨c, hc1, hc2, fun i u hu => (World.cell?_of_block (by rw [add_block]; exact hm ad e (by have := World.block_lt_of_cell? w _ (hc3 i u hu); rwa [add_block] at this))).trans (hc3 i u hu)⟩
theorem own_chain {a b c : Option Nat} {s s1 : Nat} (h : a = b ∨ ∃ x, a = some x ∧ s1 ≤ x) (k : b = c ∨ ∃ x, b = some x ∧ s ≤ x) (hs : s ≤ s1) : a = c ∨ ∃ x, a = some x ∧ s ≤ x := by
  rcases h with rfl | ⟨x, e, hx⟩
  · exact k
  · exact .inr ⟨x, e, Nat.le_trans hs hx⟩
end Go.Proofs.Ytfedlanbmibhkaa.P
