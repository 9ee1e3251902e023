/- The document's cut and Replace, plainly: lists of lengths. -/
import Derived.Test.YtfedlanbmibhkaaSQ
import Derived.Test.YtfedlanbmibhkaaS15
namespace Go.Proofs.Ytfedlanbmibhkaa.P
open Go.RowKit Go.Shelf Go.Proofs.YtfedlanbmibhkaaW.PrintWords Go.Proofs.YtfedlanbmibhkaaW.PrintLast Go.Proofs.YtfedlanbmibhkaaW.PrintMore
set_option linter.unusedVariables false
set_option linter.unusedSimpArgs false
def lens (ps : List (List Int)) : List Int := ps.map (fun p => (p.length : Int))
theorem lens_cons (p : List Int) (r : List (List Int)) : lens (p :: r) = (p.length : Int) :: lens r := rfl
theorem lens_nil : lens [] = [] := rfl
theorem lens_app (a b : List (List Int)) : lens (a ++ b) = lens a ++ lens b := by unfold lens; rw [List.map_append]
theorem lens_length (ps : List (List Int)) : (lens ps).length = ps.length := by unfold lens; rw [List.length_map]
theorem lens_pos (ps : List (List Int)) : ∀ x ∈ lens ps, 0 ≤ x := by
  intro x hx
  obtain ⟨p, _, rfl⟩ := List.mem_map.mp hx
  omega
theorem lens_full {ps : List (List Int)} (h : Full ps) : ∀ x ∈ lens ps, 0 < x := by
  intro x hx
  obtain ⟨p, hp, rfl⟩ := List.mem_map.mp hx
  have := List.length_pos_iff.mpr (h p hp)
  omega
theorem lens_sum (ps : List (List Int)) : (lens ps).sum = (ps.flatten.length : Int) := by
  induction ps with
  | nil => rfl
  | cons p r ih => rw [lens_cons, List.sum_cons, ih, List.flatten_cons, List.length_append]; omega
def cutR : List Int → Int → Int → List Int
  | [], _, _ => []
  | x :: r, s, a => (if s < a ∧ a < s + x then [a - s, s + x - a] else [x]) ++ cutR r (s + x) a
theorem cutR_done : ∀ (L : List Int) (s a : Int), a ≤ s → (∀ x ∈ L, 0 ≤ x) → cutR L s a = L
  | [], _, _, _, _ => rfl
  | x :: r, s, a, h, hp => by
    have h0 := hp x (by simp)
    rw [cutR, if_neg (by omega), cutR_done r (s + x) a (by omega) (fun y hy => hp y (by simp [hy]))]; rfl
theorem cutR_cutS (ps : List (List Int)) : ∀ (s : Int) (k : Nat), cutR (lens ps) s (s + (k : Int)) = lens (cutS ps k).1 := by
  induction ps with
  | nil => intro s k; rfl
  | cons p r ih =>
    intro s k
    by_cases h0 : k = 0
    · subst h0
      rw [cutR_done _ _ _ (by omega) (lens_pos _)]
      simp [cutS]
    · by_cases h1 : k < p.length
      · rw [lens_cons, cutR, if_pos (by omega), cutR_done _ _ _ (by omega) (lens_pos _)]
        simp only [cutS, if_neg h0, if_pos h1, lens_cons, List.length_take, List.length_drop, List.cons_append, List.nil_append]
        congr 1
        · omega
        · congr 1; omega
      · rw [lens_cons, cutR, if_neg (by omega)]
        have := ih (s + (p.length : Int)) (k - p.length)
        rw [show s + (p.length : Int) + ((k - p.length : Nat) : Int) = s + (k : Int) by omega] at this
        rw [this]
        simp only [cutS, if_neg h0, if_neg h1, lens_cons, List.cons_append, List.nil_append]
theorem w64_in (x : Int) (h1 : -9223372036854775808 ≤ x) (h2 : x ≤ 9223372036854775807) : wrap64 x = x := by unfold wrap64; omega
theorem rd_mid (pre r : List Int) (x : Int) : rd (pre ++ x :: r) (pre.length : Int) = x := by
  unfold rd; rw [Int.toNat_natCast, List.getD_eq_getElem?_getD, List.getElem?_append_right (Nat.le_refl _)]; simp
theorem cut_l0 (a : Int) (ha : 0 ≤ a ∧ a ≤ 5000000) : ∀ (r pre out : List Int) (s : Int), 0 ≤ s → (∀ x ∈ r, 0 ≤ x) → s + r.sum ≤ 5000000 → out.length + 2 * r.length ≤ 1000000000 → pre.length + r.length ≤ 1000000000 →
    colophonref14_cut.l0 (r.length + 1) (pre ++ r) a out s (pre.length : Int) = some (out ++ cutR r s a)
  | [], pre, out, s, _, _, _, _, _ => by
    rw [List.length_nil, colophonref14_cut.l0, if_neg (by simp), cutR, List.append_nil]
  | x :: r, pre, out, s, h0, hp, hs, ho, hl => by
    have hx := hp x (by simp)
    have hsum : 0 ≤ r.sum := by
      have : ∀ l : List Int, (∀ x ∈ l, 0 ≤ x) → 0 ≤ l.sum := by
        intro l; induction l with
        | nil => intro _; simp
        | cons y l ih => intro h; rw [List.sum_cons]; have := h y (by simp); have := ih (fun z hz => h z (by simp [hz])); omega
      exact this r (fun y hy => hp y (by simp [hy]))
    rw [List.sum_cons] at hs
    simp only [List.length_cons] at ho hl
    have ih := fun out' h => cut_l0 a ha r (pre ++ [x]) out' (s + x) (by omega) (fun y hy => hp y (by simp [hy])) (by omega) h (by simp; omega)
    have e1 : pre ++ x :: r = pre ++ [x] ++ r := by simp
    have e2 : ((pre ++ [x]).length : Int) = (pre.length : Int) + 1 := by simp
    rw [e2, ← e1] at ih
    rw [List.length_cons, colophonref14_cut.l0, if_pos (by simp; omega), cutR, rd_mid, w64_in (s + x) (by omega) (by omega), w64_in ((pre.length : Int) + 1) (by omega) (by omega)]
    by_cases c1 : s < a
    · rw [if_pos c1, if_pos (show (0 : Int) ≤ (pre.length : Int) by omega)]
      by_cases c2 : a < s + x
      · rw [if_pos c2, if_pos (show s < a ∧ a < s + x from ⟨c1, c2⟩), Option.bind_some, w64_in (a - s) (by omega) (by omega), w64_in (s + x - a) (by omega) (by omega), if_pos (by simp; omega), ih _ (by simp; omega), List.append_assoc]
      · rw [if_neg c2, if_neg (fun h : s < a ∧ a < s + x => c2 h.2), if_pos (by omega), ih _ (by simp; omega), List.append_assoc]
    · rw [if_neg c1, if_neg (fun h : s < a ∧ a < s + x => c1 h.1), if_pos (by omega), if_pos (by omega), ih _ (by simp; omega), List.append_assoc]
theorem cut_f (ps : List (List Int)) (a : Nat) (ha : a ≤ 5000000) (hs : ps.flatten.length ≤ 5000000) (hl : ps.length ≤ 5000000) : ∃ q, colophonref14_cut.f q (lens ps) (a : Int) = some (lens (cutS ps a).1) := by
  refine ⟨(lens ps).length + 1, ?_⟩
  have := cut_l0 (a : Int) (by omega) (lens ps) [] [] 0 (by omega) (lens_pos ps) (by rw [lens_sum]; omega) (by rw [lens_length]; simp; omega) (by rw [lens_length]; simp; omega)
  rw [List.nil_append, List.nil_append] at this
  unfold colophonref14_cut.f
  rw [show (([] : List Int).length : Int) = 0 from rfl] at this
  rw [this]
  have h2 := cutR_cutS ps 0 a
  rw [Int.zero_add] at h2
  rw [h2]
def repR (f t m : Int) : List Int → Int → Bool → List Int
  | [], _, d => if d = false ∧ 0 < m then [m] else []
  | x :: r, s, d => (if f ≤ s ∧ d = false ∧ 0 < m then [m] else []) ++ ((if s < f ∨ t ≤ s then [x] else []) ++ repR f t m r (s + x) (d || decide (f ≤ s)))
theorem repR_tail (f t m : Int) : ∀ (r : List Int) (s : Int), t ≤ s → (∀ x ∈ r, 0 ≤ x) → repR f t m r s true = r
  | [], _, _, _ => by simp [repR]
  | x :: r, s, h, hp => by
    have h0 := hp x (by simp)
    rw [repR, if_neg (by simp), if_pos (.inr h), Bool.true_or, repR_tail f t m r (s + x) (by omega) (fun y hy => hp y (by simp [hy]))]; rfl
theorem repR_mid (f t m : Int) (D : List Int) : ∀ (C : List Int) (s : Int), f ≤ s → (∀ x ∈ C, 0 < x) → s + C.sum ≤ t → repR f t m (C ++ D) s true = repR f t m D (s + C.sum) true
  | [], s, _, _, _ => by simp
  | x :: C, s, h, hp, hs => by
    have h0 := hp x (by simp)
    rw [List.sum_cons] at hs ⊢
    have hsum : 0 ≤ C.sum := by
      have : ∀ l : List Int, (∀ x ∈ l, 0 < x) → 0 ≤ l.sum := by
        intro l; induction l with
        | nil => intro _; simp
        | cons y l ih => intro h; rw [List.sum_cons]; have := h y (by simp); have := ih (fun z hz => h z (by simp [hz])); omega
      exact this C (fun y hy => hp y (by simp [hy]))
    rw [List.cons_append, repR, if_neg (by simp), if_neg (by omega), Bool.true_or, repR_mid f t m D C (s + x) (by omega) (fun y hy => hp y (by simp [hy])) (by omega), show s + x + C.sum = s + (x + C.sum) by omega]; rfl
theorem repR_head (f t m : Int) (R : List Int) : ∀ (A : List Int) (s : Int), (∀ x ∈ A, 0 < x) → s + A.sum ≤ f → f ≤ t → repR f t m (A ++ R) s false = A ++ repR f t m R (s + A.sum) false
  | [], s, _, _, _ => by simp
  | x :: A, s, hp, hs, hft => by
    have h0 := hp x (by simp)
    rw [List.sum_cons] at hs ⊢
    have hsum : 0 ≤ A.sum := by
      have : ∀ l : List Int, (∀ x ∈ l, 0 < x) → 0 ≤ l.sum := by
        intro l; induction l with
        | nil => intro _; simp
        | cons y l ih => intro h; rw [List.sum_cons]; have := h y (by simp); have := ih (fun z hz => h z (by simp [hz])); omega
      exact this A (fun y hy => hp y (by simp [hy]))
    rw [List.cons_append, repR, if_neg (by omega), if_pos (.inl (by omega)), show (false || decide (f ≤ s)) = false from by rw [Bool.false_or]; exact decide_eq_false (by omega), repR_head f t m R A (s + x) (fun y hy => hp y (by simp [hy])) (by omega) hft, show s + x + A.sum = s + (x + A.sum) by omega]; rfl
theorem lens_new (x : List Int) : lens (newS x) = if 0 < (x.length : Int) then [(x.length : Int)] else [] := by
  cases x with
  | nil => rfl
  | cons y r => rw [if_pos (by simp)]; rfl
/-- what a replacement makes of the lengths -/
theorem repR_replS (ps : List (List Int)) (f t : Nat) (x : List Int) (hft : f ≤ t) (ht : t ≤ ps.flatten.length) (hf : Full ps) :
    repR (f : Int) (t : Int) (x.length : Int) (lens (cutS (cutS ps f).1 t).1) 0 false = lens (replS ps f t x) := by
  obtain ⟨A, B, e, e1, e2, f1, f2, l⟩ := cutS_parts ps f (by omega) hf
  have hA : A.flatten.length = f := by rw [e1, List.length_take]; omega
  have hB : B.flatten.length = ps.flatten.length - f := by rw [e2, List.length_drop]
  obtain ⟨C, D, e', e1', e2', f1', f2', l'⟩ := cutS_parts B (t - f) (by omega) f2
  have hC : C.flatten.length = t - f := by rw [e1', List.length_take]; omega
  have hs := cutS_skip A B t f1 (by omega)
  rw [hA, e'] at hs
  have er : replS ps f t x = A ++ newS x ++ D := by
    unfold replS
    rw [e]; simp only [hs]
    rw [show A ++ (C ++ D) = (A ++ C) ++ D by simp, show A.length + C.length = (A ++ C).length by simp, List.drop_left, List.append_assoc, List.take_left]
    rw [putS_mid]
  rw [er, e]
  simp only [hs]
  rw [lens_app, lens_app, lens_app, lens_app, lens_new]
  rw [repR_head _ _ _ _ _ _ (lens_full f1) (by rw [lens_sum]; omega) (by omega), lens_sum, hA, Int.zero_add, List.append_assoc]
  congr 1
  cases C with
  | nil =>
    have htf : t = f := by simp at hC; omega
    subst htf
    rw [lens_nil, List.nil_append]
    cases D with
    | nil => simp [repR, lens_nil]
    | cons d D =>
      rw [lens_cons, repR, if_pos (show (t : Int) < t ∨ (t : Int) ≤ t from .inr (Int.le_refl _)), show (false || decide ((t : Int) ≤ (t : Int))) = true by simp, repR_tail _ _ _ _ _ (by omega) (lens_pos D)]
      congr 1
      by_cases hx : 0 < (x.length : Int)
      · rw [if_pos ⟨Int.le_refl _, rfl, hx⟩, if_pos hx]
      · rw [if_neg (fun h => hx h.2.2), if_neg hx]
  | cons c C =>
    have hc := List.length_pos_iff.mpr ((full_cons.mp f1').1)
    rw [List.flatten_cons, List.length_append] at hC
    rw [lens_cons, List.cons_append, repR, if_neg (show ¬ ((f : Int) < f ∨ (t : Int) ≤ f) by omega), show (false || decide ((f : Int) ≤ (f : Int))) = true by simp, repR_mid _ _ _ _ _ _ (by omega) (lens_full (full_cons.mp f1').2) (by rw [lens_sum]; omega), repR_tail _ _ _ _ _ (by rw [lens_sum]; omega) (lens_pos D), List.nil_append]
    congr 1
    by_cases hx : 0 < (x.length : Int)
    · rw [if_pos ⟨Int.le_refl _, rfl, hx⟩, if_pos hx]
    · rw [if_neg (fun h => hx h.2.2), if_neg hx]
end Go.Proofs.Ytfedlanbmibhkaa.P
/- The document's table: Replace. -/
namespace Go.Proofs.Ytfedlanbmibhkaa.P
open Go.RowKit Go.Shelf Go.Proofs.YtfedlanbmibhkaaW.PrintWords Go.Proofs.YtfedlanbmibhkaaW.PrintLast Go.Proofs.YtfedlanbmibhkaaW.PrintMore
set_option linter.unusedVariables false
set_option linter.unusedSimpArgs false
theorem cut14 {w : World} {A : Option Addr} {c n m : Nat} {ps : List (List Int)} (hn : ps.length = n) (hr : Kd.C (Kd.int .i64) w A n (lens ps)) (hc : n ≤ c) (a : Nat) (ha : a ≤ 5000000) (hs : ps.flatten.length ≤ 5000000) (hl : ps.length ≤ 5000000) (hm : (cutS ps a).1.length = m) :
    Calls Try.prog 41 #[.slice A n c, .int .i64 (a : Int)] w fun e w' => ∃ A' c', e = .returned (.slice A' m c') ∧ m ≤ c' ∧ Kd.C (Kd.int .i64) w' A' m (lens (cutS ps a).1) ∧ Below w.heap.size w w' := by
  obtain ⟨q, hq⟩ := cut_f ps a ha hs hl
  rw [← hn, ← lens_length ps] at hr hc ⊢
  refine (colophonref14_cut.calls q A c (lens ps) a _ w hr hc hq).mono ?_
  rintro e w' ⟨v, rfl, hR, hb⟩
  obtain ⟨A', c', rfl, hl1, hC⟩ := Kd.R_reads hR
  rw [lens_length, hm] at hl1 hC ⊢
  exact ⟨A', c', rfl, hl1, hC, hb⟩
section
variable {P : Program} {ops : Array Oper} {rest : List Oper} {o : Oper} {a : Act} {Q : Exit → Act → World → Prop}
/-- one int behind a row of ints of the call's own -/
theorem app1_i (hg : o.guard = none) (s x : Operand) (ho : o.op = .call { callee := .builtin .append, args := #[s, x], argTypes := #[51, 51] }) {w2 wr : World} (v : Value) (out : List Int) (y : Int)
    (hs : a.eval s = v) (hx : a.eval x = .slice (some ⟨wr.heap.size, 0, none⟩) 1 1) (HO : wr.ownsRow w2.heap.size 3 1 v out.length (nums .i64 out)) (HB : Below w2.heap.size w2 wr) (hl : out.length ≤ 10000000)
    (h : ∀ v1 w1, w1.ownsRow w2.heap.size 3 1 v1 (out ++ [y]).length (nums .i64 (out ++ [y])) → Below w2.heap.size w2 w1 → wpList Try.prog ops Q rest (a.put o.dst v1) w1) : wpList Try.prog ops Q (o :: rest) a (wr.alloc (.cells #[.int .i64 y] 3)) := by
  refine list_of hg (fun K hK => ?_)
  have hb := below_alloc HB (.cells #[.int .i64 y] 3)
  refine wp_append_row_i w2.heap.size s x ho v out.length out [y] (some ⟨wr.heap.size, 0, none⟩) 1 1 hs hx (pw_own_below HO (below_alloc (Below.refl _ wr) _)) (C_lit_i (heap_alloc_new wr _) (by simp) (fun j z hz => ?_)) rfl hb.size (by omega) ?_
  · cases j with
    | zero => cases hz; rfl
    | succ j => cases hz
  · intro v1 w1 o1 g1 n1
    refine hK _ _ (h v1 w1 (by rw [List.length_append]; exact o1) (pw_below_grown hb _ hb.size g1 (fun k hk => own_base HO k hk)))
end
theorem rep_dec (f k m : Int) (x s : Int) (r : List Int) (d : Bool) : repR f k m (x :: r) s d = (if f ≤ s ∧ d = false ∧ 0 < m then [m] else []) ++ ((if s < f ∨ k ≤ s then [x] else []) ++ repR f k m r (s + x) (d || decide (f ≤ s))) := rfl
/-- what lies in ints or bytes does not lie in a table -/
theorem C_ne {k : IntKind} {w w' : World} {A : Option Addr} {n rb : Nat} {xs : List Int} {A1 A2 : Option Addr} {n1 n2 c1 c2 : Nat} {t : TypeId} (hC : Kd.C (Kd.int k) w A n xs) (hb : w.heap[rb]? = some (.cells #[.slice A1 n1 c1, .slice A2 n2 c2] t (0, 0))) (hk : ∀ g, g < w.heap.size → g ≠ rb → w'.heap[g]? = w.heap[g]?) : Kd.C (Kd.int k) w' A n xs := by
  by_cases h0 : 0 < n
  · refine C_move hC (fun ad e hl => hk _ hl (fun eb => ?_))
    obtain ⟨h1, h2, h3⟩ := hC
    obtain ⟨ad', e', h4⟩ := h3 h0
    rw [e] at e'; cases e'
    obtain ⟨x, hx⟩ := getElem_lt (show 0 < xs.length by omega)
    obtain ⟨cs, l1, l2, l3⟩ := h4 0 x hx
    have hi : cs = [.int k x] := l2
    subst hi
    have hc := l3 0 _ rfl
    unfold World.cell? at hc
    rw [add_block, eb, hb] at hc
    dsimp only at hc
    split at hc
    · cases hc
    · generalize (ad.add (0 * (Kd.int k).sz + 0)).off = q at hc
      match q, hc with
      | 0, hc => cases hc
      | 1, hc => cases hc
      | q + 2, hc => simp at hc
  · obtain ⟨h1, h2, h3⟩ := hC
    exact ⟨h1, h2, fun h => absurd h h0⟩
end Go.Proofs.Ytfedlanbmibhkaa.P
/- The document's table: Replace, the walk. -/
namespace Go.Proofs.Ytfedlanbmibhkaa.P
open Go.RowKit Go.Shelf Go.Proofs.YtfedlanbmibhkaaW.PrintWords Go.Proofs.YtfedlanbmibhkaaW.PrintLast Go.Proofs.YtfedlanbmibhkaaW.PrintMore
set_option linter.unusedVariables false
set_option linter.unusedSimpArgs false
theorem list_sum_pos : ∀ l : List Int, (∀ x ∈ l, 0 ≤ x) → 0 ≤ l.sum
  | [], _ => by simp
  | y :: l, h => by rw [List.sum_cons]; have := h y (by simp); have := list_sum_pos l (fun z hz => h z (by simp [hz])); omega
theorem C_pre14 {w : World} {A : Option Addr} {M : Nat} {xs : List Int} (h : Kd.C (Kd.int .u8) w A M xs) (hl : xs.length = M) (f : Nat) (hf : f ≤ M) : Kd.C (Kd.int .u8) w A f (xs.take f) := by
  subst hl
  have h1 := Kd.C_take h hf
  rwa [show (xs.take f).length = f by rw [List.length_take]; omega] at h1
theorem ty_put {w : World} {A : Option Addr} {e t : TypeId} {rb : Nat} {cs0 : Array Value} {fr0 : Nat × Nat} (h : ∀ ad, A = some ad → ∃ cs fr, w.heap[ad.block]? = some (.cells cs e fr)) (hb : w.heap[rb]? = some (.cells cs0 t fr0)) (hne : e ≠ t) (j : Nat) (v : Value) : ∀ ad, A = some ad → ∃ cs fr, (w.setCell ⟨rb, j, none⟩ v).heap[ad.block]? = some (.cells cs e fr) := fun ad ea => by
  obtain ⟨cs, fr, h⟩ := h ad ea
  refine ⟨cs, fr, (Below.heap_setCell w ⟨rb, j, none⟩ v _ (fun eb => hne ?_)).trans h⟩
  have eb : ad.block = rb := eb
  rw [eb, hb] at h
  injection h with h; injection h with _ h _
  exact h.symm
theorem grown_then {W w6 w9 : World} {rb : Nat} (G : W.grownBy w6 (some rb)) (B : Below w6.heap.size w6 w9) (j : Nat) (v : Value) : W.grownBy (w9.setCell ⟨rb, j, none⟩ v) (some rb) :=
  ⟨B.os.trans G.os, B.tape.trans G.tape, B.output.trans G.output, by have := G.size; have := B.size; simp; omega, fun g hg hne => (Below.heap_setCell w9 ⟨rb, j, none⟩ v g (fun e => hne (by rw [e]))).trans ((B.block g (Nat.lt_of_lt_of_le hg G.size)).trans (G.block g hg hne))⟩
theorem blk_cell0 {w : World} {rb M n : Nat} {A A2 : Option Addr} {c c2 n2 : Nat} {t : TypeId} (h : w.heap[rb]? = some (.cells #[.slice A n c, .slice A2 n2 c2] t (0, 0))) (hn : n = M) : w.cell? ⟨rb, 0, none⟩ = some (.slice A M c) := by
  subst hn; exact blk_cell h 0
theorem grown_put {W w : World} (h : Below W.heap.size W w) (rb j : Nat) (v : Value) : W.grownBy (w.setCell ⟨rb, j, none⟩ v) (some rb) :=
  ⟨h.os, h.tape, h.output, by have := h.size; simpa using this, fun g hg hne => (Below.heap_setCell w ⟨rb, j, none⟩ v g (fun e => hne (by rw [e]))).trans (h.block g hg)⟩
set_option maxRecDepth 100000 in
set_option maxHeartbeats 40000000 in
theorem rep14 {W : World} {rb : Nat} {A : Option Addr} {c : Nat} {Al : Option Addr} {cl : Nat} {ps : List (List Int)} (h : Rt W rb A c Al cl ps.flatten (lens ps)) (hf : Full ps) (f k : Nat) (hfk : f ≤ k) (hk : k ≤ ps.flatten.length) (hb : ps.flatten.length ≤ 3000000)
    {Ax : Option Addr} {cx m : Nat} {xs : List Int} (hm : xs.length = m) (hmx : m ≤ 2000000) (hr : Kd.C (Kd.int .u8) W Ax m xs) (hcx : m ≤ cx) :
    Calls Try.prog 20 #[.pointer (some ⟨rb, 0, none⟩), .int .i64 f, .int .i64 k, .slice Ax m cx] W fun e w' => e = .returned (.int .i64 0) ∧ (∃ A' c' Al' cl', Rt w' rb A' c' Al' cl' (replS ps f k xs).flatten (lens (replS ps f k xs)) ∧ ∀ ad, A' = some ad → W.heap.size ≤ ad.block) ∧ W.grownBy w' (some rb) := by
  have hF := repR_replS ps f k xs hfk hk hf
  have hfl := replS_flat ps f k xs hfk hk hf
  obtain ⟨c1, c2, c3, c4⟩ := cutS_facts ps f (by omega) hf
  obtain ⟨d1, d2, d3, d4⟩ := cutS_facts (cutS ps f).1 k (by rw [c1]; exact hk) c2
  have q1 := full_le hf
  have hsum := lens_sum (cutS (cutS ps f).1 k).1
  rw [d1, c1] at hsum
  have hpos := lens_pos (cutS (cutS ps f).1 k).1
  obtain ⟨n1, hn1⟩ : ∃ n, ps.length = n := ⟨_, rfl⟩
  obtain ⟨n2, hn2⟩ : ∃ n, (cutS ps f).1.length = n := ⟨_, rfl⟩
  obtain ⟨N, hN⟩ : ∃ n, (cutS (cutS ps f).1 k).1.length = n := ⟨_, rfl⟩
  obtain ⟨M, hM⟩ : ∃ n, ps.flatten.length = n := ⟨_, rfl⟩
  have HC1 := Aside0.mk (fun (w1 : World) (A1 : Option Addr) (k1 : Nat) (hr : Kd.C (Kd.int .i64) w1 A1 n1 (lens ps)) (hc : n1 ≤ k1) => cut14 hn1 hr hc f (by omega) (by omega) (by omega) hn2)
  have HC2 := Aside0.mk (fun (w1 : World) (A1 : Option Addr) (k1 : Nat) (hr : Kd.C (Kd.int .i64) w1 A1 n2 (lens (cutS ps f).1)) (hc : n2 ≤ k1) => cut14 hn2 hr hc k (by omega) (by rw [c1]; omega) (by omega) hN)
  have hNl : N ≤ 3000002 := by omega
  have hlen : (lens (cutS (cutS ps f).1 k).1).length = N := by rw [lens_length, hN]
  have e1 : decide ((f : Int) < 0) = false := decide_eq_false (by omega)
  have e2 : decide (k < f) = false := decide_eq_false (by omega)
  have e3 : decide (M < k) = false := decide_eq_false (by omega)
  have hc0 := blk_cell h.blk 0
  have hc1 := blk_cell h.blk 1
  have hf0 := blk_frozen h.blk 0
  have hf1 := blk_frozen h.blk 1
  simp only [List.getElem?_toArray, List.getElem?_cons_zero, List.getElem?_cons_succ, lens_length] at hc0 hc1
  rw [hM] at hc0
  rw [hn1] at hc1
  have HCL := Aside0.mk h.CL
  have HPL := Aside0.mk h.capL
  rw [lens_length, hn1] at HCL HPL
  have HBK := Aside0.mk h.blk
  have HC := Aside0.mk h.C
  have HP := Aside0.mk h.cap
  have HF := Aside0.mk hF
  have HFL := Aside0.mk hfl
  have HSUM := Aside0.mk hsum
  have HPOS := Aside0.mk hpos
  have HLEN := Aside0.mk hlen
  have HM := Aside0.mk hM
  have HXM := Aside0.mk hm
  have HR := Aside0.mk hr
  generalize hL2 : lens (cutS (cutS ps f).1 k).1 = L2 at *
  rw [hm] at HF
  have HN2 := Aside0.mk hn2
  have HN1 := Aside0.mk hn1
  have H1 := Aside0.mk hfk
  have H2 := Aside0.mk (show k ≤ M from hM ▸ hk)
  have H3 := Aside0.mk (show M ≤ 3000000 from hM ▸ hb)
  have H4 := Aside0.mk hmx
  have H5 := Aside0.mk hNl
  clear h hf hF hfl c1 c2 c3 c4 d1 d2 d3 d4 q1 hsum hpos hn1 hn2 hN hM hNl hlen hL2 hr hmx hfk hk hb hm
  go_enter Try.func20, Try.ntmps20
  go_wp2_with (first
    | (go_at_call 41; (with_reducible refine (HC1.out _ _ _ HCL.out HPL.out).mono ?_); rintro e w1 ⟨A1, k1, rfl, hl_, hC_, b_⟩; have P1 := Aside0.mk hl_; have R1 := Aside0.mk hC_; have B1 := Aside0.mk b_; clear hl_ hC_ b_)
    | (go_at_call 41; (with_reducible refine (HC2.out _ _ _ R1.out P1.out).mono ?_); rintro e w2 ⟨A2, k2, rfl, hl_, hC_, b_⟩; have P2 := Aside0.mk hl_; have R2 := Aside0.mk hC_; have B2 := Aside0.mk (below_step B1.out b_); clear hl_ hC_ b_))
  go_loopg [10, 11, 12, 13] (N + 1) (fun kq v10 v11 v12 v13 wr => ∃ (j : Nat) (out : List Int) (s : Int) (d : Bool), v11 = .int .i64 s ∧ v12 = .bool d ∧ v13 = .int .i64 (j : Int) ∧ Aside0 (j ≤ N ∧ N < kq + j) ∧ Aside0 (out ++ repR f k m (L2.drop j) s d = lens (replS ps f k xs)) ∧ Aside0 (0 ≤ s ∧ s + (L2.drop j).sum = (M : Int)) ∧ Aside0 (out.length ≤ 2 * j) ∧ Aside0 (wr.ownsRow w2.heap.size 3 1 v10 out.length (nums .i64 out)) ∧ Aside0 (Below w2.heap.size w2 wr))
  case atStart => exact ⟨0, [], 0, false, rfl, rfl, rfl, ⟨by omega⟩, ⟨by rw [List.drop_zero, List.nil_append]; exact HF.out⟩, ⟨by rw [List.drop_zero, HSUM.out]; rw [HM.out]; exact ⟨Int.le_refl _, by omega⟩⟩, ⟨Nat.le_refl _⟩, ⟨⟨rfl, .inl ⟨rfl, rfl⟩⟩⟩, ⟨Below.refl _ _⟩⟩
  case round =>
    obtain ⟨j, out, s, d, rfl, rfl, rfl, hj, HE, HS, HO, OW, BW⟩ := hrel
    cases gk with
    | zero => exact absurd hj.out (by omega)
    | succ k1 =>
      by_cases hlt : j < N
      · have t1 : decide (j < N) = true := decide_eq_true hlt
        obtain ⟨ad, e_, hx0⟩ := Kd.at_int R2.out (j : Int) (by omega) (by omega)
        obtain rfl := e_
        rw [Int.toNat_natCast] at hx0
        have hd : L2.drop j = rd L2 (j : Int) :: L2.drop (j + 1) := by
          rw [List.drop_eq_getElem_cons (by rw [HLEN.out]; exact hlt)]
          congr 1
          unfold rd
          rw [Int.toNat_natCast, List.getD_eq_getElem?_getD, List.getElem?_eq_getElem (by rw [HLEN.out]; exact hlt)]; rfl
        have hx1 : 0 ≤ rd L2 (j : Int) := by
          refine HPOS.out _ ?_
          have : rd L2 (j : Int) ∈ L2.drop j := by rw [hd]; exact List.mem_cons_self
          exact List.mem_of_mem_drop this
        have hE := HE.out
        have hS := HS.out
        rw [hd] at hE hS
        rw [List.sum_cons] at hS
        have hps := list_sum_pos (L2.drop (j + 1)) (fun y hy => HPOS.out y (List.mem_of_mem_drop hy))
        generalize rd L2 (j : Int) = x at hx0 hx1 hE hS
        rw [rep_dec] at hE
        clear HE HS hd
        have hx2 := pw_cell_below BW.out hx0
        have w1_ : wrap64 (s + x) = s + x := w64_in _ (by omega) (by have := H3.out; omega)
        have w2_ : wrap64 ((j : Int) + 1) = (j : Int) + 1 := w64_in _ (by omega) (by have := H5.out; omega)
        have p1 : (0 : Int) ≤ (j : Int) := by omega
        have p2 : (j : Int) < (N : Int) := by omega
        have hk1 := H1.out
        by_cases c1 : (f : Int) ≤ s
        all_goals by_cases c2 : (k : Int) ≤ s
        all_goals by_cases c3 : 0 < m
        all_goals cases d
        all_goals first
          | (exfalso; omega)
          | skip
        all_goals
          (first | have t2 : decide ((f : Int) ≤ s) = true := decide_eq_true c1 | have t2 : decide ((f : Int) ≤ s) = false := decide_eq_false c1)
          (first | have t3 : decide ((k : Int) ≤ s) = true := decide_eq_true c2 | have t3 : decide ((k : Int) ≤ s) = false := decide_eq_false c2)
          (first | have t4 : decide (0 < m) = true := decide_eq_true c3 | have t4 : decide (0 < m) = false := decide_eq_false c3)
          (first | have t5 : decide (s < (f : Int)) = true := decide_eq_true (by omega) | have t5 : decide (s < (f : Int)) = false := decide_eq_false (by omega))
          (first
            | rw [if_pos (show ((f : Int) ≤ s ∧ false = false ∧ (0 : Int) < (m : Int)) from ⟨c1, rfl, by omega⟩)] at hE
            | rw [if_neg (show ¬ ((f : Int) ≤ s ∧ false = false ∧ (0 : Int) < (m : Int)) from fun h => by first | exact c1 h.1 | exact c3 (by have := h.2.2; omega))] at hE
            | rw [if_neg (show ¬ ((f : Int) ≤ s ∧ true = false ∧ (0 : Int) < (m : Int)) from fun h => by cases h.2.1)] at hE)
          (first
            | rw [if_pos (show s < (f : Int) ∨ (k : Int) ≤ s from by omega)] at hE
            | rw [if_neg (show ¬ (s < (f : Int) ∨ (k : Int) ≤ s) from by omega)] at hE)
          simp only [t2, Bool.false_or, Bool.true_or, List.nil_append, ← List.append_assoc] at hE
          have HE := Aside0.mk hE
          have HS := Aside0.mk hS
          have HPS := Aside0.mk hps
          have HX0 := Aside0.mk hx0
          have HD1 := Aside0.mk c1
          have HD2 := Aside0.mk c2
          have HD3 := Aside0.mk c3
          have HX1 := Aside0.mk hx1
          clear hE hS hps c1 c2 c3 hx1 hk1 hlt hx0
          go_wp2_with (first
            | (at_builtin; refine app1_i rfl (.tmp 55) (.tmp 58) rfl _ out (m : Int) rfl rfl OW.out BW.out (by have := HO.out; have := hj.out; have := H5.out; omega) ?_; intro v3 w3 o_ b_; have OW1 := Aside0.mk o_; have BW1 := Aside0.mk b_; have hx2 := pw_cell_below BW1.out HX0.out; clear o_ b_)
            | (at_builtin; refine app1_i rfl (.tmp 68) (.tmp 73) rfl _ _ x rfl rfl OW1.out BW1.out (by first | (simp; done) | (have := HO.out; have := hj.out; have := H5.out; simp; omega)) ?_; intro v4 w4 o_ b_; have OW2 := Aside0.mk o_; have BW2 := Aside0.mk b_; have hx3 := pw_cell_below BW2.out HX0.out; clear o_ b_)
            | (at_builtin; refine app1_i rfl (.tmp 68) (.tmp 73) rfl _ out x rfl rfl OW.out BW.out (by have := HO.out; have := hj.out; have := H5.out; omega) ?_; intro v4 w4 o_ b_; have OW2 := Aside0.mk o_; have BW2 := Aside0.mk b_; have hx3 := pw_cell_below BW2.out HX0.out; clear o_ b_))
          all_goals
            go_roundg k1
            case measure => omega
            case rel =>
              have hE := HE.out
              have hS := HS.out
              have ho := HO.out
              have hj' := hj.out
              have hx1 := HX1.out
              first
                | exact ⟨j + 1, _, s + x, _, by first | rfl | rw [w1_], rfl, by go_num, ⟨by omega⟩, ⟨hE⟩, ⟨by omega⟩, ⟨by simp only [List.length_append, List.length_cons, List.length_nil]; omega⟩, OW2, BW2⟩
                | exact ⟨j + 1, _, s + x, _, by first | rfl | rw [w1_], rfl, by go_num, ⟨by omega⟩, ⟨hE⟩, ⟨by omega⟩, ⟨by simp only [List.length_append, List.length_cons, List.length_nil]; omega⟩, OW1, BW1⟩
                | exact ⟨j + 1, _, s + x, _, by first | rfl | rw [w1_], rfl, by go_num, ⟨by omega⟩, ⟨hE⟩, ⟨by omega⟩, ⟨by omega⟩, OW, BW⟩
      · have t1 : decide (j < N) = false := decide_eq_false hlt
        have hE := HE.out
        rw [List.drop_eq_nil_of_le (by have := hj.out; rw [HLEN.out]; omega)] at hE
        have hE : out ++ (if d = false ∧ (0 : Int) < (m : Int) then [(m : Int)] else []) = lens (replS ps f k xs) := hE
        have ho := HO.out
        have hj' := hj.out
        have hN' := H5.out
        have HOL := Aside0.mk (show out.length ≤ 10000000 by omega)
        clear ho hj' hN' hj HO HS hlt
        cases d
        all_goals by_cases c3 : 0 < m
        all_goals
          (first | have t4 : decide (0 < m) = true := decide_eq_true c3 | have t4 : decide (0 < m) = false := decide_eq_false c3)
          (first
            | rw [if_pos (show (false = false ∧ (0 : Int) < (m : Int)) from ⟨rfl, by omega⟩)] at hE
            | rw [if_neg (show ¬ (false = false ∧ (0 : Int) < (m : Int)) from fun h => c3 (by have := h.2; omega)), List.append_nil] at hE
            | rw [if_neg (show ¬ (true = false ∧ (0 : Int) < (m : Int)) from fun h => by cases h.1), List.append_nil] at hE)
          obtain ⟨F, hF⟩ : ∃ F, lens (replS ps f k xs) = F := ⟨_, rfl⟩
          rw [hF] at hE
          have HE := Aside0.mk hE
          have HF2 := Aside0.mk hF
          clear hE c3 hF
          go_upto_region 19 with (at_builtin; refine app1_i rfl (.tmp 88) (.tmp 91) rfl _ out (m : Int) rfl rfl OW.out BW.out HOL.out ?_; intro v3 wr o_ b_; have OW := Aside0.mk o_; have BW := Aside0.mk b_; clear o_ b_)
          have OWF := OW.out
          rw [HE.out] at OWF
          have BWF := Aside0.mk (below_step B2.out BW.out)
          obtain ⟨Ao, co, rfl⟩ := own_slice OWF
          obtain ⟨pf1, pf2⟩ := own_ints OWF rfl (Below.refl _ _)
          obtain ⟨n3, hn3⟩ : ∃ n, F.length = n := ⟨_, rfl⟩
          rw [hn3] at pf1 pf2 ⊢
          have P3 := Aside0.mk pf1
          have C3 := Aside0.mk pf2
          have TY3 := Aside0.mk (ty_own OWF)
          have N3 := Aside0.mk hn3
          have BKF := Aside0.mk (blk_below HBK.out BWF.out)
          have HCF := Aside0.mk (Kd.C_below HC.out BWF.out)
          have HRF := Aside0.mk (Kd.C_below HR.out BWF.out)
          clear OW BW hc0 hc1 hf0 hf1 OWF pf1 pf2 hn3 HE
          have hc0 := blk_cell BKF.out 0
          have hc1 := blk_cell BKF.out 1
          have hf0 := blk_frozen BKF.out 0
          have hf1 := blk_frozen BKF.out 1
          simp only [List.getElem?_toArray, List.getElem?_cons_zero, List.getElem?_cons_succ, lens_length] at hc0 hc1
          rw [HM.out] at hc0
          go_upto_region 20 with (fail)
          have BK6 := Aside0.mk (show (wr.setCell ⟨rb, 1, none⟩ (.slice Ao n3 co)).heap[rb]? = some (.cells #[.slice A ps.flatten.length c, .slice Ao n3 co] 74 (0, 0)) from blk_put BKF.out 1 (.slice Ao n3 co) rfl)
          have KP6 := Aside0.mk (fun (g : Nat) (hg : g ≠ rb) => Below.heap_setCell wr ⟨rb, 1, none⟩ (.slice Ao n3 co) g hg)
          have G6 := Aside0.mk (show W.grownBy (wr.setCell ⟨rb, 1, none⟩ (.slice Ao n3 co)) (some rb) from grown_put BWF.out rb 1 _)
          have TY6 := Aside0.mk (ty_put TY3.out BKF.out (by decide) 1 (.slice Ao n3 co))
          generalize wr.setCell ⟨rb, 1, none⟩ (.slice Ao n3 co) = w6 at *
          clear hc0 hc1 hf0 hf1
          have hc0 := blk_cell BK6.out 0
          have hf0 := blk_frozen BK6.out 0
          simp only [List.getElem?_toArray, List.getElem?_cons_zero] at hc0
          rw [HM.out] at hc0
          have HC6 := Aside0.mk (C_ne HCF.out BKF.out (fun g _ hg => KP6.out g hg))
          have HR6 := Aside0.mk (C_ne HRF.out BKF.out (fun g _ hg => KP6.out g hg))
          have C36 := Aside0.mk (C_ne C3.out BKF.out (fun g _ hg => KP6.out g hg))
          rw [HM.out] at HC6
          have hMc : M ≤ c := by have := HP.out; rw [HM.out] at this; exact this
          have hfc : f ≤ c := by have := H1.out; have := H2.out; omega
          have hfM : f ≤ M := by have := H1.out; have := H2.out; omega
          have hkM := H2.out
          have hkc : k ≤ c := by omega
          have HPRE := Aside0.mk (C_pre14 HC6.out HM.out f hfM)
          have HPL6 := Aside0.mk (show (ps.flatten.take f).length = f by rw [List.length_take, HM.out]; omega)
          have HFC := Aside0.mk hfc
          have HF4 := Aside0.mk (show f ≤ 4000000 by have := H3.out; omega)
          obtain ⟨i0, hi0, hz0, hz1, hz2⟩ := info_parts infoe_b
          obtain ⟨A9, HZ, hA9⟩ := print_cut (P := Try.prog) 22 5 .i64 rfl hi0 hz1 A M c k hkM
          have HA9 := Aside0.mk (fun (w_ : World) (h_ : Kd.C (Kd.int .u8) w_ A M ps.flatten) => (Kd.C_of_reads (h1 := fun _ => rfl) (hA9 w_ .u8 ps.flatten hMc (Kd.reads_of_C (enc := Value.int .u8) (d := (0 : Int)) (h1 := fun _ => rfl) h_)) : Kd.C (Kd.int .u8) w_ A9 (M - k) (ps.flatten.drop k)))
          have HDL := Aside0.mk (show (ps.flatten.drop k).length = M - k by rw [List.length_drop, HM.out])
          have HBD := Aside0.mk (show f + m ≤ 5000000 ∧ f + m + (M - k) ≤ 8000000 by have := H3.out; have := H4.out; omega)
          clear hA9 hi0 hz0 hz1 hz2 i0 hMc hfM
          go_wp2_with (first
            | (go_at_call 12; (with_reducible refine (copy_up HPRE.out HPL6.out HFC.out HF4.out).mono ?_); rintro e w7 ⟨v7, rfl, o_, b_⟩; obtain ⟨A7, c7, rfl⟩ := own_slice o_; have O7 := Aside0.mk o_; have B7 := Aside0.mk b_; replace hc0 := pw_cell_below b_ hc0; clear o_ b_)
            | (at_builtin; refine list_of rfl (fun K_ hK_ => ?_); refine wp_append_row_b w6.heap.size (.tmp 103) (.tmp 104) rfl (.slice A7 f c7) f (ps.flatten.take f) xs Ax m cx rfl rfl O7.out (Kd.C_below HR6.out B7.out) HXM.out B7.out.size (by have := HBD.out; omega) ?_; intro v8 w8 o_ g_ n_; obtain ⟨A8, c8, rfl⟩ := own_slice o_; have O8 := Aside0.mk o_; have B8 := Aside0.mk (pw_below_grown B7.out _ B7.out.size g_ (fun q hq => own_base O7.out q hq)); replace hc0 := pw_cell_below B8.out (blk_cell0 BK6.out HM.out); refine hK_ _ _ ?_; clear o_ g_ n_ hK_ K_)
            | (at_builtin; refine list_of rfl (fun K_ hK_ => ?_); refine wp_append_row_b w6.heap.size (.tmp 107) (.tmp 113) rfl (.slice A8 (f + m) c8) (f + m) (ps.flatten.take f ++ xs) (ps.flatten.drop k) A9 (M - k) (c - k) rfl rfl O8.out (HA9.out _ (Kd.C_below HC6.out B8.out)) HDL.out B8.out.size (by have := HBD.out; omega) ?_; intro v9 w9 o_ g_ n_; obtain ⟨AA, ca, rfl⟩ := own_slice o_; have O9 := Aside0.mk o_; have B9 := Aside0.mk (pw_below_grown B8.out _ B8.out.size g_ (fun q hq => own_base O8.out q hq)); have BK9 := Aside0.mk (blk_below BK6.out B9.out); have hf0 := blk_frozen BK9.out 0; have hc0 := pw_cell_below B9.out (blk_cell0 BK6.out HM.out); refine hK_ _ _ ?_; clear o_ g_ n_ hK_ K_))
          go_ret
          have hl9 : (ps.flatten.take f ++ xs ++ ps.flatten.drop k).length = f + m + (M - k) := by rw [List.length_append, List.length_append, HPL6.out, HXM.out, HDL.out]
          obtain ⟨z1, z2⟩ := own_bytes O9.out hl9 (Below.refl _ _)
          have kp : ∀ g, g < w9.heap.size → g ≠ rb → (w9.setCell ⟨rb, 0, none⟩ (.slice AA (f + m + (M - k)) ca)).heap[g]? = w9.heap[g]? := fun g _ hg => Below.heap_setCell w9 ⟨rb, 0, none⟩ _ g hg
          refine ⟨rfl, ⟨AA, ca, Ao, co, ⟨?_, ?_, ?_, ?_, ?_, ?_, ?_⟩, fun ad ea => Nat.le_trans G6.out.size (own_lo O9.out ad ea)⟩, grown_then G6.out B9.out _ _⟩
          · rw [HFL.out, hl9, HF2.out, N3.out]; exact blk_put BK9.out 0 _ rfl
          · rw [HFL.out, hl9]; exact z1
          · rw [HFL.out, hl9]; exact C_ne z2 BK9.out kp
          · rw [HF2.out, N3.out]; exact P3.out
          · rw [HF2.out, N3.out]; exact C_ne (Kd.C_below C36.out B9.out) BK9.out kp
          · exact ty_put (ty_own O9.out) BK9.out (by decide) 0 _
          · exact ty_put (ty_below TY6.out B9.out) BK9.out (by decide) 0 _
end Go.Proofs.Ytfedlanbmibhkaa.P
/- Replace and Slice, of all places. -/
namespace Go.Proofs.Ytfedlanbmibhkaa.P
open Go.RowKit Go.Shelf Go.Proofs.YtfedlanbmibhkaaW.PrintWords Go.Proofs.YtfedlanbmibhkaaW.PrintLast Go.Proofs.YtfedlanbmibhkaaW.PrintMore
set_option linter.unusedVariables false
set_option linter.unusedSimpArgs false
def okR (n : Nat) (f k : Int) : Prop := 0 ≤ f ∧ f ≤ k ∧ k ≤ (n : Int)
instance (n : Nat) (f k : Int) : Decidable (okR n f k) := by unfold okR; infer_instance
def repA (ps : List (List Int)) (f k : Int) (xs : List Int) : List (List Int) := if okR ps.flatten.length f k then replS ps f.toNat k.toNat xs else ps
def errA (n : Nat) (f k : Int) : Int := if okR n f k then 0 else 9
def cutA (l : List Int) (f k : Int) : List Int := if okR l.length f k then (l.take k.toNat).drop f.toNat else []
theorem repA_full {ps : List (List Int)} (f k : Int) (xs : List Int) (h : Full ps) : Full (repA ps f k xs) := by
  unfold repA
  split
  · rename_i hk; obtain ⟨h1, h2, h3⟩ := hk; exact replS_full ps _ _ xs (by omega) (by omega) h
  · exact h
theorem repA_flat {ps : List (List Int)} (f k : Int) (xs : List Int) (h : Full ps) : (repA ps f k xs).flatten.length ≤ ps.flatten.length + xs.length := by
  unfold repA
  split
  · rename_i hk; obtain ⟨h1, h2, h3⟩ := hk; rw [replS_flat ps _ _ xs (by omega) (by omega) h, List.length_append, List.length_append, List.length_take, List.length_drop]; omega
  · omega
theorem repA_len {ps : List (List Int)} (f k : Int) (xs : List Int) (h : Full ps) : (repA ps f k xs).length ≤ ps.length + 2 := by
  unfold repA
  split
  · rename_i hk; obtain ⟨h1, h2, h3⟩ := hk; exact replS_len ps _ _ xs (by omega) (by omega) h
  · omega
theorem cutA_len (l : List Int) (f k : Int) : (cutA l f k).length ≤ l.length := by
  unfold cutA
  split
  · rw [List.length_drop, List.length_take]; omega
  · exact Nat.zero_le _
theorem repA_calls {B : Nat} {w : World} {t : Nat} {C : Nat → Prop} {v : Value} {ps : List (List Int)} (h : Tab_b B w t C v ps) (f k : Int) (hs : ps.flatten.length ≤ 3000000) (hn : ps.length ≤ 900000)
    (A : Option Addr) (c n : Nat) (xs : List Int) (hl : xs.length = n) (hr : Kd.C (Kd.int .u8) w A n xs) (hx : n ≤ 3000000) (hA : 0 < n → ∀ ad, A = some ad → ad.block ≠ t ∧ some ad.block ≠ v.ownBlock) (hB : B ≤ w.heap.size) :
    Calls Try.prog 19 #[.pointer (some ⟨t, 0, none⟩), .int .i64 f, .int .i64 k, .slice A n c] w fun e w' => e = .returned (.int .i64 (errA ps.flatten.length f k)) ∧ Left_b B t (fun g => C g ∨ w.heap.size ≤ g) v (repA ps f k xs) w w' := by
  subst hl
  unfold errA repA
  by_cases hk : okR ps.flatten.length f k
  · rw [if_pos hk, if_pos hk]
    obtain ⟨h1, h2, h3⟩ := hk
    have := replace_calls_b h f.toNat k.toNat (by omega) (by omega) (by omega) hn A c xs hr (by omega) hA hB
    rwa [Int.toNat_of_nonneg h1, Int.toNat_of_nonneg (show 0 ≤ k by omega)] at this
  · rw [if_neg hk, if_neg hk]
    refine (replace_no_b h f k hk (by omega) A xs.length c).mono ?_
    rintro e w' ⟨rfl, rfl⟩
    exact ⟨rfl, v, h.weaken (fun g hg => .inl hg), Eff_b.refl _ _ _, .inl rfl⟩
theorem rep14_no {W : World} {rb : Nat} {A : Option Addr} {c : Nat} {Al : Option Addr} {cl : Nat} {B L : List Int} (h : Rt W rb A c Al cl B L) (f k : Int) (hbad : ¬ okR B.length f k) (Ax : Option Addr) (m cx : Nat) :
    Calls Try.prog 20 #[.pointer (some ⟨rb, 0, none⟩), .int .i64 f, .int .i64 k, .slice Ax m cx] W fun e w' => e = .returned (.int .i64 9) ∧ W = w' := by
  have hc0 := blk_cell h.blk 0
  simp at hc0
  obtain ⟨n, hn⟩ : ∃ n, B.length = n := ⟨_, rfl⟩
  unfold okR at hbad
  rw [hn] at hc0 hbad
  clear h hn
  by_cases h1 : f < 0
  · have e1 : decide (f < 0) = true := decide_eq_true h1
    clear hbad
    go_enter Try.func20, Try.ntmps20
    go_wp2
    go_ret
    exact ⟨rfl, rfl⟩
  · have e1 : decide (f < 0) = false := decide_eq_false h1
    by_cases h2 : k < f
    · have e2 : decide (k < f) = true := decide_eq_true h2
      clear hbad
      go_enter Try.func20, Try.ntmps20
      go_wp2
      go_ret
      exact ⟨rfl, rfl⟩
    · have e2 : decide (k < f) = false := decide_eq_false h2
      have e3 : decide ((n : Int) < k) = true := decide_eq_true (by omega)
      clear hbad
      go_enter Try.func20, Try.ntmps20
      go_wp2
      go_ret
      exact ⟨rfl, rfl⟩
theorem grown_self (W : World) (o : Option Nat) : W.grownBy W o := ⟨rfl, rfl, rfl, Nat.le_refl _, fun _ _ _ => rfl⟩
/-- the document's table, whole -/
def RxD (W : World) (rb : Nat) (D : Nat → Prop) (ps : List (List Int)) : Prop := ∃ A c Al cl, Rt W rb A c Al cl ps.flatten (lens ps) ∧ ∀ ad, A = some ad → D ad.block
def Rx (W : World) (rb : Nat) (ps : List (List Int)) : Prop := ∃ A c Al cl, Rt W rb A c Al cl ps.flatten (lens ps)
theorem RxD.rx {W : World} {rb : Nat} {D : Nat → Prop} {ps : List (List Int)} (h : RxD W rb D ps) : Rx W rb ps := by
  obtain ⟨A, c, Al, cl, h, -⟩ := h
  exact ⟨A, c, Al, cl, h⟩
theorem RxD.weaken {W : World} {rb : Nat} {D D' : Nat → Prop} {ps : List (List Int)} (h : RxD W rb D ps) (hD : ∀ g, D g → D' g) : RxD W rb D' ps := by
  obtain ⟨A, c, Al, cl, h, hd⟩ := h
  exact ⟨A, c, Al, cl, h, fun ad ea => hD _ (hd ad ea)⟩
theorem RxD.tight {W : World} {rb : Nat} {D : Nat → Prop} {ps : List (List Int)} (h : RxD W rb D ps) : RxD W rb (fun g => D g ∧ g < W.heap.size) ps := by
  obtain ⟨A, c, Al, cl, h, hd⟩ := h
  exact ⟨A, c, Al, cl, h, fun ad ea => ⟨hd ad ea, by obtain ⟨cs, fr, hb⟩ := h.tyB ad ea; exact blk_ltF hb⟩⟩
theorem RxD.below {W W' : World} {rb : Nat} {D : Nat → Prop} {ps : List (List Int)} (h : RxD W rb D ps) (hb : Below W.heap.size W W') : RxD W' rb D ps := by
  obtain ⟨A, c, Al, cl, h, hd⟩ := h
  exact ⟨A, c, Al, cl, h.below hb, hd⟩
theorem Rx.below {W W' : World} {rb : Nat} {ps : List (List Int)} (h : Rx W rb ps) (hb : Below W.heap.size W W') : Rx W' rb ps := by
  obtain ⟨A, c, Al, cl, h⟩ := h
  exact ⟨A, c, Al, cl, h.below hb⟩
theorem Rx.lt {W : World} {rb : Nat} {ps : List (List Int)} (h : Rx W rb ps) : rb < W.heap.size := by
  obtain ⟨A, c, Al, cl, h⟩ := h
  exact blk_lt h.blk
theorem rep14D {W : World} {rb : Nat} {ps : List (List Int)} {D : Nat → Prop} (h : RxD W rb D ps) (hf : Full ps) (f k : Int) (hb : ps.flatten.length ≤ 3000000)
    {Ax : Option Addr} {cx m : Nat} {xs : List Int} (hm : xs.length = m) (hmx : m ≤ 2000000) (hr : Kd.C (Kd.int .u8) W Ax m xs) (hcx : m ≤ cx) :
    Calls Try.prog 20 #[.pointer (some ⟨rb, 0, none⟩), .int .i64 f, .int .i64 k, .slice Ax m cx] W fun e w' => e = .returned (.int .i64 (errA ps.flatten.length f k)) ∧ RxD w' rb (fun g => D g ∨ W.heap.size ≤ g) (repA ps f k xs) ∧ W.grownBy w' (some rb) := by
  obtain ⟨A, c, Al, cl, h, hd⟩ := h
  unfold errA repA
  by_cases hk : okR ps.flatten.length f k
  · rw [if_pos hk, if_pos hk]
    obtain ⟨h1, h2, h3⟩ := hk
    have := rep14 h hf f.toNat k.toNat (by omega) (by omega) hb hm hmx hr hcx
    rw [Int.toNat_of_nonneg h1, Int.toNat_of_nonneg (show 0 ≤ k by omega)] at this
    refine this.mono ?_
    rintro e w' ⟨rfl, ⟨A', c', Al', cl', hr', hl'⟩, hg⟩
    exact ⟨rfl, ⟨A', c', Al', cl', hr', fun ad ea => .inr (hl' ad ea)⟩, hg⟩
  · rw [if_neg hk, if_neg hk]
    refine (rep14_no h f k hk Ax m cx).mono ?_
    rintro e w' ⟨rfl, rfl⟩
    exact ⟨rfl, ⟨A, c, Al, cl, h, fun ad ea => .inl (hd ad ea)⟩, grown_self _ _⟩
theorem rep14A {W : World} {rb : Nat} {ps : List (List Int)} (h : Rx W rb ps) (hf : Full ps) (f k : Int) (hb : ps.flatten.length ≤ 3000000)
    {Ax : Option Addr} {cx m : Nat} {xs : List Int} (hm : xs.length = m) (hmx : m ≤ 2000000) (hr : Kd.C (Kd.int .u8) W Ax m xs) (hcx : m ≤ cx) :
    Calls Try.prog 20 #[.pointer (some ⟨rb, 0, none⟩), .int .i64 f, .int .i64 k, .slice Ax m cx] W fun e w' => e = .returned (.int .i64 (errA ps.flatten.length f k)) ∧ Rx w' rb (repA ps f k xs) ∧ W.grownBy w' (some rb) := by
  obtain ⟨A, c, Al, cl, h⟩ := h
  refine (rep14D (D := fun _ => True) ⟨A, c, Al, cl, h, fun _ _ => trivial⟩ hf f k hb hm hmx hr hcx).mono ?_
  rintro e w' ⟨rfl, h1, h2⟩
  exact ⟨rfl, h1.rx, h2⟩
theorem slice22A {B : Nat} {w : World} {t : Nat} {C : Nat → Prop} {v : Value} {ps : List (List Int)} (h : Tab_b B w t C v ps) (f k : Int) (hs : ps.flatten.length ≤ 4000000) (x : List Int) (xn : Nat) (hx : cutA ps.flatten f k = x) (hxn : x.length = xn) :
    Calls Try.prog 22 #[.pointer (some ⟨t, 0, none⟩), .int .i64 f, .int .i64 k] w fun e w' => ∃ Ax cx, e = .returned (.tuple #[.slice Ax xn cx, .int .i64 (errA ps.flatten.length f k)]) ∧ w'.ownsRow w.heap.size 5 1 (.slice Ax xn cx) xn (nums .u8 x) ∧ Below w.heap.size w w' := by
  subst hx hxn
  unfold errA cutA
  by_cases hk : okR ps.flatten.length f k
  · rw [if_pos hk, if_pos hk]
    obtain ⟨h1, h2, h3⟩ := hk
    have := slice_calls_b h f.toNat k.toNat (by omega) (by omega) (by omega)
    rw [Int.toNat_of_nonneg h1, Int.toNat_of_nonneg (show 0 ≤ k by omega)] at this
    refine this.mono ?_
    rintro e w' ⟨v', rfl, h1, h2⟩
    obtain ⟨A, c, rfl⟩ := own_slice h1
    exact ⟨A, c, rfl, h1, h2⟩
  · rw [if_neg hk, if_neg hk]
    refine (slice_no_b h f k hk (by omega)).mono ?_
    rintro e w' ⟨rfl, hb⟩
    exact ⟨none, 0, rfl, World.ownsRow_nil _ _ _ _, hb⟩
theorem slice23A {W : World} {rb : Nat} {ps : List (List Int)} (h : Rx W rb ps) (f k : Int) (hs : ps.flatten.length ≤ 4000000) (x : List Int) (xn : Nat) (hx : cutA ps.flatten f k = x) (hxn : x.length = xn) :
    Calls Try.prog 23 #[.pointer (some ⟨rb, 0, none⟩), .int .i64 f, .int .i64 k] W fun e w' => ∃ Ax cx, e = .returned (.tuple #[.slice Ax xn cx, .int .i64 (errA ps.flatten.length f k)]) ∧ w'.ownsRow W.heap.size 5 1 (.slice Ax xn cx) xn (nums .u8 x) ∧ Below W.heap.size W w' := by
  obtain ⟨A, c, Al, cl, h⟩ := h
  subst hx hxn
  unfold errA cutA
  by_cases hk : okR ps.flatten.length f k
  · rw [if_pos hk, if_pos hk]
    obtain ⟨h1, h2, h3⟩ := hk
    have := slice14 h f.toNat k.toNat (by omega) (by omega) hs _ _ rfl rfl
    rwa [Int.toNat_of_nonneg h1, Int.toNat_of_nonneg (show 0 ≤ k by omega)] at this
  · rw [if_neg hk, if_neg hk]
    refine (slice14_no h f k hk).mono ?_
    rintro e w' ⟨rfl, rfl⟩
    exact ⟨none, 0, rfl, World.ownsRow_nil _ _ _ _, Below.refl _ _⟩
theorem newRxD {w : World} {A : Option Addr} {n c : Nat} {l : List Int} (hn : l.length = n) (hr : Kd.C (Kd.int .u8) w A n l) (hc : n ≤ c) (hl : n ≤ 4000000) :
    Calls Try.prog 14 #[.slice A n c] w fun e w' => ∃ rb, e = .returned (.pointer (some ⟨rb, 0, none⟩)) ∧ RxD w' rb (fun g => w.heap.size ≤ g) (newS l) ∧ Below w.heap.size w w' ∧ w.heap.size ≤ rb := by
  refine (new14_calls hn hr hc hl).mono ?_
  rintro e w' ⟨rb, Ab, cb, Al, cl, rfl, h, hb, hlt, hlo⟩
  refine ⟨rb, rfl, ⟨Ab, cb, Al, cl, ?_, hlo⟩, hb, hlt⟩
  rw [newS_flat, lens_new, hn]
  have e1 : (if 0 < (n : Int) then [(n : Int)] else []) = (if 0 < n then [(n : Int)] else []) := by
    by_cases h0 : 0 < n
    · rw [if_pos h0, if_pos (by omega)]
    · rw [if_neg h0, if_neg (by omega)]
  rw [e1]
  exact h
theorem newRx {w : World} {A : Option Addr} {n c : Nat} {l : List Int} (hn : l.length = n) (hr : Kd.C (Kd.int .u8) w A n l) (hc : n ≤ c) (hl : n ≤ 4000000) :
    Calls Try.prog 14 #[.slice A n c] w fun e w' => ∃ rb, e = .returned (.pointer (some ⟨rb, 0, none⟩)) ∧ Rx w' rb (newS l) ∧ Below w.heap.size w w' ∧ w.heap.size ≤ rb := by
  refine (newRxD hn hr hc hl).mono ?_
  rintro e w' ⟨rb, rfl, h1, h2, h3⟩
  exact ⟨rb, rfl, h1.rx, h2, h3⟩
theorem snapRxD {w : World} {rb : Nat} {ps : List (List Int)} (h : Rx w rb ps) (hb : ps.flatten.length ≤ 4000000) (hl : ps.length ≤ 1000000) :
    Calls Try.prog 18 #[.pointer (some ⟨rb, 0, none⟩)] w fun e w' => ∃ rb2, e = .returned (.pointer (some ⟨rb2, 0, none⟩)) ∧ RxD w' rb2 (fun g => w.heap.size ≤ g) ps ∧ Below w.heap.size w w' ∧ w.heap.size ≤ rb2 := by
  obtain ⟨A, c, Al, cl, h⟩ := h
  refine (snap14 h hb (by rw [lens_length]; exact hl)).mono ?_
  rintro e w' ⟨rb2, A2, c2, Al2, cl2, rfl, h1, h2, h3, h4⟩
  exact ⟨rb2, rfl, ⟨A2, c2, Al2, cl2, h1, h4⟩, h2, h3⟩
theorem ty_eff {w W : World} {t : Nat} {own : Option Nat} {A : Option Addr} {e : TypeId} {ct : Array Value} (h : ∀ ad, A = some ad → ∃ cs fr, w.heap[ad.block]? = some (.cells cs e fr)) (hk : ∀ g, g < w.heap.size → g ≠ t → some g ≠ own → W.heap[g]? = w.heap[g]?) (ht : w.heap[t]? = some (.cells ct 71 (0, 0))) (ho : ∀ b, own = some b → ∃ cs, w.heap[b]? = some (.cells cs 22 (0, 0))) (h1 : e ≠ 71) (h2 : e ≠ 22) :
    ∀ ad, A = some ad → ad.block < w.heap.size ∧ W.heap[ad.block]? = w.heap[ad.block]? := fun ad ea => by
  obtain ⟨cs, fr, h⟩ := h ad ea
  refine ⟨blk_ltF h, hk _ (blk_ltF h) (fun eb => h1 ?_) (fun eb => h2 ?_)⟩
  · rw [eb, ht] at h; injection h with h; injection h with _ h _; exact h.symm
  · obtain ⟨cs2, h'⟩ := ho _ eb.symm; rw [h'] at h; injection h with h; injection h with _ h _; exact h.symm
theorem Tab_b.rowAt {B : Nat} {w : World} {t : Nat} {C : Nat → Prop} {v : Value} {ps : List (List Int)} (h : Tab_b B w t C v ps) : ∀ b, v.ownBlock = some b → ∃ cs, w.heap[b]? = some (.cells cs 22 (0, 0)) := fun b hb => by
  obtain ⟨vs, ho, -⟩ := h.row
  rcases own_rowAt ho with ⟨rfl, h0, rfl⟩ | ⟨g, cap, cur, rfl, hR⟩
  · cases hb
  · cases hb; exact ⟨_, hR.blk⟩
/-- the document's table is not touched by what the program does to its own -/
theorem Rx.eff {B : Nat} {w w' : World} {t rb : Nat} {C : Nat → Prop} {v : Value} {ps qs : List (List Int)} (h : Rx w rb qs) (T : Tab_b B w t C v ps) (e : Eff_b t v.ownBlock w w') : Rx w' rb qs := by
  obtain ⟨A, c, Al, cl, h⟩ := h
  have k1 := ty_eff h.tyB e.blk T.box T.rowAt (by decide) (by decide)
  have k2 := ty_eff h.tyL e.blk T.box T.rowAt (by decide) (by decide)
  refine ⟨A, c, Al, cl, ⟨?_, h.cap, C_move h.C (fun ad ea _ => (k1 ad ea).2), h.capL, C_move h.CL (fun ad ea _ => (k2 ad ea).2), fun ad ea => ?_, fun ad ea => ?_⟩⟩
  · refine (e.blk rb (blk_lt h.blk) (fun eb => ?_) (fun eb => ?_)).trans h.blk
    · have h1 := h.blk; rw [eb, T.box] at h1; injection h1 with h1; injection h1 with _ h1 _; exact absurd h1 (by decide)
    · obtain ⟨cs2, h'⟩ := T.rowAt _ eb.symm; have h1 := h.blk; rw [h'] at h1; injection h1 with h1; injection h1 with _ h1 _; exact absurd h1 (by decide)
  · rw [(k1 ad ea).2]; exact h.tyB ad ea
  · rw [(k2 ad ea).2]; exact h.tyL ad ea
/-- the program's table is not touched by what is done to the document's -/
theorem Tab_b.grown {B : Nat} {w w' : World} {t rb : Nat} {C : Nat → Prop} {v : Value} {ps : List (List Int)} {cs0 : Array Value} (h : Tab_b B w t C v ps) (hb : w.heap[rb]? = some (.cells cs0 74 (0, 0))) (g : w.grownBy w' (some rb)) : Tab_b B w' t C v ps := by
  refine ((h.sharp).move fun k hk hx => g.block k hk (fun e => ?_)).weaken (fun _ h => h.1)
  injection e with e
  subst e
  rcases hx with hx | hx | ⟨-, cs, hx⟩
  · subst hx; rw [h.box] at hb; injection hb with hb; injection hb with _ hb _; exact absurd hb (by decide)
  · obtain ⟨cs, h'⟩ := h.rowAt _ hx; rw [h'] at hb; injection hb with hb; injection hb with _ hb _; exact absurd hb (by decide)
  · rw [hx] at hb; injection hb with hb; injection hb with _ hb _; exact absurd hb (by decide)
theorem Rx.box {W : World} {rb : Nat} {ps : List (List Int)} (h : Rx W rb ps) : ∃ cs, W.heap[rb]? = some (.cells cs 74 (0, 0)) := by
  obtain ⟨A, c, Al, cl, h⟩ := h
  exact ⟨_, h.blk⟩
theorem eqB {w : World} {A A' : Option Addr} {n c c' : Nat} {xs : List Int} (hl : xs.length = n) (h : Kd.C (Kd.int .u8) w A n xs) (hc : n ≤ c) (h' : Kd.C (Kd.int .u8) w A' n xs) (hc' : n ≤ c') (hn : n ≤ 140737488355328) :
    Calls Try.prog 16 #[.slice A n c, .slice A' n c'] w fun e w' => e = .returned (.bool true) ∧ Below w.heap.size w w' := by
  subst hl
  obtain ⟨k, hk⟩ := eq_same_b xs hn xs.length 0 (by omega)
  refine (colophonref00_EqBytes.calls k A c xs A' c' xs true w h hc h' hc' (by unfold colophonref00_EqBytes.f; rw [if_pos rfl]; exact hk)).mono ?_
  rintro e w' ⟨rfl, hb⟩
  exact ⟨rfl, hb.below⟩
theorem sameA {w : World} {B0 rb t : Nat} {C : Nat → Prop} {v : Value} {ps : List (List Int)} (h : Tab_b B0 w t C v ps) (hr : Rx w rb ps) (hs : ps.flatten.length ≤ 4000000) :
    Calls Try.prog 15 #[.pointer (some ⟨t, 0, none⟩), .pointer (some ⟨rb, 0, none⟩)] w fun e w' => e = .returned (.bool true) ∧ Below w.heap.size w w' := by
  obtain ⟨A, c, Al, cl, hr⟩ := hr
  exact same_calls h hr (lens_length ps) hs
end Go.Proofs.Ytfedlanbmibhkaa.P
