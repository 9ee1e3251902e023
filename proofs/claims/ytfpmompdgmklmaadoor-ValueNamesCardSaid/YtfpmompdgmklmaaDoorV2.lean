/- value.mayBe and value.Equal in the printed form: by induction on the value. -/
import Derived.Test.YtfpmompdgmklmaaDoorV1a
import Derived.Test.YtfpmompdgmklmaaDoorV1c
import Derived.Test.YtfpmompdgmklmaaDoorV1d
import Derived.Lib.ConvBytes
namespace Go.Proofs.YtfpmompdgmklmaaDoor.P
open Go.RowKit Go.Proofs.YtfpmompdgmklmaaDoorW.PrintWords Go.Proofs.YtfpmompdgmklmaaDoorW.PrintLast Go.Proofs.YtfpmompdgmklmaaDoorW.PrintMore
set_option linter.unusedVariables false
set_option linter.unusedSimpArgs false
theorem v_wrap {i : Int} (h0 : -9223372036854775808 ≤ i) (h : i < 9223372036854775808) : wrap64 i = i := by unfold wrap64; omega
theorem v_text (a b : ByteArray) : (a.toList = b.toList) = (a = b) := by
 rw [ByteArray.toList_eq, ByteArray.toList_eq]
 apply propext
 constructor
 · intro h; exact ByteArray.ext (Array.toList_inj.mp h)
 · rintro rfl; rfl
theorem v_empty (a : ByteArray) : (a.toList = ([] : List UInt8)) = (a.size = 0) := by
 rw [ByteArray.toList_eq]
 apply propext
 have h : a.data.toList.length = a.size := Array.length_toList
 rw [← h]
 exact List.length_eq_zero_iff.symm
theorem v_drop {l : List S25} {i : Nat} (h : i < l.length) : l.drop i = qj_ l i :: l.drop (i + 1) := by
 unfold qj_
 rw [Int.toNat_natCast, List.getD_eq_getElem?_getD, List.getElem?_eq_getElem h]
 exact List.drop_eq_getElem_cons h
theorem may_eta (x : S25) : mayV ⟨x.f0, x.f1, x.f2, x.f3, x.f4⟩ = mayV x := by cases x; rfl
theorem eq_eta (x y : S25) : eqV ⟨x.f0, x.f1, x.f2, x.f3, x.f4⟩ ⟨y.f0, y.f1, y.f2, y.f3, y.f4⟩ = eqV x y := by cases x; cases y; rfl
theorem may49 (l : List S25) (hl : l.length ≤ 9223372036854775807) (d : Nat) : ∀ i : Nat, i + d = l.length → ∃ j : Int, Ev (fun k => api_Value_49.l0 k l (l.length : Int) i) j ∧ decide (j ≥ 0) = !mayL (l.drop i) := by
 induction d with
 | zero =>
  intro i hi
  refine ⟨-1, Ev.step (f := fun _ => some (-1)) (fun k => ?_) (Ev.now _), ?_⟩
  ·
   simp only [api_Value_49.l0]
   rw [if_neg (by omega)]
  ·
   rw [List.drop_of_length_le (by omega)]
   rfl
 | succ d ih =>
  intro i hi
  have hw : wrap64 ((i : Int) + 1) = ((i + 1 : Nat) : Int) := by rw [v_wrap (by omega) (by omega)]; rfl
  have hd := v_drop (l := l) (i := i) (by omega)
  have e : ∀ k, api_Value_49.l0 (k + 1) l (l.length : Int) i = (if (!mayV (qj_ l i)) = true then some (i : Int) else api_Value_49.l0 k l (l.length : Int) ((i + 1 : Nat) : Int)) := fun k => by
   rw [api_Value_49.l0, if_pos (by omega), if_pos (by omega), if_pos (by omega), hw]
   unfold value_mayBe1.f value_mayBe.f
   rw [Option.bind_some, Option.bind_some, may_eta]
  rw [hd]
  by_cases hm : mayV (qj_ l i) = true
  ·
   obtain ⟨j, h1, h2⟩ := ih (i + 1) (by omega)
   refine ⟨j, Ev.step (fun k => ?_) h1, ?_⟩
   · rw [e, hm]; rfl
   · rw [h2, mayL, hm, Bool.true_and]
  ·
   have hm' : mayV (qj_ l i) = false := by simpa using hm
   refine ⟨i, Ev.step (f := fun _ => some (i : Int)) (fun k => ?_) (Ev.now _), ?_⟩
   · rw [e, hm']; rfl
   · rw [mayL, hm', Bool.false_and, decide_eq_true (by omega)]; rfl
theorem may46 (l : List S25) (hl : l.length ≤ 9223372036854775807) : ∃ k, api_Value_46.f k l = some (!mayL l) := by
 obtain ⟨j, h1, h2⟩ := may49 l hl l.length 0 (by omega)
 rw [List.drop_zero] at h2
 refine Ev.rounds ?_
 unfold api_Value_46.f api_Value_49.f
 rw [← h2]
 exact Ev.bind h1 (Ev.now _)
theorem eq43 (l m : List S25) (hl : l.length ≤ 9223372036854775807) (hm : l.length = m.length) (d : Nat) : ∀ i : Nat, i + d = l.length → Ev (fun k => api_Value_43.l0 k m l (l.length : Int) i) (eqL (l.drop i) (m.drop i)) := by
 induction d with
 | zero =>
  intro i hi
  rw [List.drop_of_length_le (by omega), List.drop_of_length_le (by omega)]
  refine Ev.step (f := fun _ => some true) (fun k => ?_) (Ev.now _)
  simp only [api_Value_43.l0]
  rw [if_neg (by omega)]
 | succ d ih =>
  intro i hi
  have hw : wrap64 ((i : Int) + 1) = ((i + 1 : Nat) : Int) := by rw [v_wrap (by omega) (by omega)]; rfl
  have hd := v_drop (l := l) (i := i) (by omega)
  have hd2 := v_drop (l := m) (i := i) (by omega)
  have e : ∀ k, api_Value_43.l0 (k + 1) m l (l.length : Int) i = (if eqV (qj_ l i) (qj_ m i) = true then api_Value_43.l0 k m l (l.length : Int) ((i + 1 : Nat) : Int) else some false) := fun k => by
   rw [api_Value_43.l0, if_pos (by omega), if_pos (by omega), if_pos (by omega), if_pos (by omega), hw]
   unfold value_Equal.f
   rw [Option.bind_some, eq_eta]
  rw [hd, hd2, eqL]
  by_cases hq : eqV (qj_ l i) (qj_ m i) = true
  ·
   rw [hq, Bool.true_and]
   exact Ev.step (fun k => by rw [e, hq, if_pos rfl]) (ih (i + 1) (by omega))
  ·
   have hq' : eqV (qj_ l i) (qj_ m i) = false := by simpa using hq
   rw [hq', Bool.false_and]
   exact Ev.step (f := fun _ => some false) (fun k => by rw [e, hq', if_neg (by simp)]) (Ev.now _)
theorem eqL_len : ∀ (l m : List S25), l.length ≠ m.length → eqL l m = false
 | [], [], h => absurd rfl h
 | [], _ :: _, _ => by simp [eqL]
 | _ :: _, [], _ => by simp [eqL]
 | a :: r, b :: s, h => by rw [eqL, eqL_len r s (by simpa using h), Bool.and_false]
theorem eq43f (l m : List S25) (hl : l.length ≤ 9223372036854775807) : ∃ k, api_Value_43.f k l m = some (eqL l m) := by
 refine Ev.rounds ?_
 unfold api_Value_43.f
 by_cases h : l.length = m.length
 ·
  simp only [if_pos (show (l.length : Int) = (m.length : Int) by omega)]
  have := eq43 l m hl h l.length 0 (by omega)
  rw [List.drop_zero, List.drop_zero] at this
  exact this
 ·
  simp only [if_neg (show ¬ (l.length : Int) = (m.length : Int) by omega)]
  rw [eqL_len l m h]
  exact Ev.now _
theorem n_drop {l : List ByteArray} {i : Nat} (h : i < l.length) : l.drop i = rdOf ByteArray.empty l i :: l.drop (i + 1) := by
 unfold rdOf
 rw [Int.toNat_natCast, List.getD_eq_getElem?_getD, List.getElem?_eq_getElem h]
 exact List.drop_eq_getElem_cons h
theorem eq42 (l m : List ByteArray) (hl : l.length ≤ 9223372036854775807) (hm : l.length = m.length) (d : Nat) : ∀ i : Nat, i + d = l.length → Ev (fun k => slices_Equal_string_string.l0 k l m (l.length : Int) i) (decide (l.drop i = m.drop i)) := by
 induction d with
 | zero =>
  intro i hi
  rw [List.drop_of_length_le (by omega), List.drop_of_length_le (by omega)]
  refine Ev.step (f := fun _ => some true) (fun k => ?_) (Ev.now _)
  simp only [slices_Equal_string_string.l0]
  rw [if_neg (by omega)]
 | succ d ih =>
  intro i hi
  have hw : wrap64 ((i : Int) + 1) = ((i + 1 : Nat) : Int) := by rw [v_wrap (by omega) (by omega)]; rfl
  have hd := n_drop (l := l) (i := i) (by omega)
  have hd2 := n_drop (l := m) (i := i) (by omega)
  have e : ∀ k, slices_Equal_string_string.l0 (k + 1) l m (l.length : Int) i = (if rdOf ByteArray.empty l i = rdOf ByteArray.empty m i then slices_Equal_string_string.l0 k l m (l.length : Int) ((i + 1 : Nat) : Int) else some false) := fun k => by
   rw [slices_Equal_string_string.l0, if_pos (by omega), if_pos (by omega), if_pos (by omega), if_pos (by omega), hw]
   simp only [v_text]
  rw [hd, hd2]
  by_cases hq : rdOf ByteArray.empty l i = rdOf ByteArray.empty m i
  ·
   have := ih (i + 1) (by omega)
   refine Ev.step (fun k => by rw [e, if_pos hq]) ?_
   rw [hq]
   simpa using this
  ·
   refine Ev.step (f := fun _ => some false) (fun k => by rw [e, if_neg hq]) ?_
   rw [decide_eq_false (by simp [hq])]
   exact Ev.now _
theorem eq42f (l m : List ByteArray) (hl : l.length ≤ 9223372036854775807) : Ev (fun k => slices_Equal_string_string.f k l m) (decide (l = m)) := by
 unfold slices_Equal_string_string.f
 by_cases h : l.length = m.length
 ·
  simp only [if_pos (show (l.length : Int) = (m.length : Int) by omega)]
  have := eq42 l m hl h l.length 0 (by omega)
  rw [List.drop_zero, List.drop_zero] at this
  exact this
 ·
  simp only [if_neg (show ¬ (l.length : Int) = (m.length : Int) by omega)]
  rw [decide_eq_false (by rintro rfl; exact h rfl)]
  exact Ev.now _
theorem m4 (m : Nat) (b : Bool) (k : Int) (i : Bool) (t : ByteArray) (l : List S25) (n : List ByteArray) : value_mayBe2.j4 (m + 1) b k i t l n = some (!b && ((!(k == 5) || decide (n.length = l.length)) && mayL l)) := by
 rw [value_mayBe2.j4]
 cases b <;> by_cases h5 : k = 5 <;> by_cases hl : n.length = l.length <;> simp [h5, hl, conM.f, Int.natCast_inj]
theorem m3 (m : Nat) (b : Bool) (k : Int) (i : Bool) (t : ByteArray) (l : List S25) (n : List ByteArray) : value_mayBe2.j3 (m + 2) b k i t l n = some (!b && ((decide (n.length = 0) || k == 5) && ((!(k == 5) || decide (n.length = l.length)) && mayL l))) := by
 rw [value_mayBe2.j3]
 simp only [m4]
 cases b
 ·
  by_cases hn : n.length = 0
  · rw [if_neg (by simp), if_neg (by omega), hn]; simp
  ·
   rw [if_neg (by simp), if_pos (by omega)]
   by_cases h5 : k = 5
   · simp [h5, hn]
   ·
    have hb : (k == 5) = false := beq_eq_false_iff_ne.mpr h5
    simp [bne, hb, hn]
 · simp
theorem m2 (m : Nat) (b : Bool) (k : Int) (i : Bool) (t : ByteArray) (l : List S25) (n : List ByteArray) : value_mayBe2.j2 (m + 3) b k i t l n = some (!b && ((decide (l.length = 0) || (k == 4 || k == 5)) && ((decide (n.length = 0) || k == 5) && ((!(k == 5) || decide (n.length = l.length)) && mayL l)))) := by
 rw [value_mayBe2.j2]
 simp only [m3]
 cases b
 ·
  by_cases hn : l.length = 0
  · rw [if_neg (by simp), if_neg (by omega), hn]; simp
  ·
   rw [if_neg (by simp), if_pos (by omega)]
   by_cases h4 : k = 4
   · simp [h4]
   ·
    have ha : (k == 4) = false := beq_eq_false_iff_ne.mpr h4
    rw [if_neg h4]
    by_cases h5 : k = 5
    · simp [h5]
    ·
     have hb : (k == 5) = false := beq_eq_false_iff_ne.mpr h5
     simp [bne, ha, hb, show ¬ l = [] from fun e => hn (by rw [e]; rfl)]
 · simp
theorem m1 (m : Nat) (b : Bool) (k : Int) (i : Bool) (t : ByteArray) (l : List S25) (n : List ByteArray) : value_mayBe2.j1 (m + 4) b k i t l n = some (!b && ((decide (t.size = 0) || (k == 2 || k == 3)) && ((decide (l.length = 0) || (k == 4 || k == 5)) && ((decide (n.length = 0) || k == 5) && ((!(k == 5) || decide (n.length = l.length)) && mayL l))))) := by
 rw [value_mayBe2.j1]
 simp only [m2, v_empty]
 generalize ((decide (l.length = 0) || (k == 4 || k == 5)) && ((decide (n.length = 0) || k == 5) && ((!(k == 5) || decide (n.length = l.length)) && mayL l))) = X
 cases b
 ·
  by_cases hn : t.size = 0
  · rw [if_neg (by simp), if_pos hn]; simp [hn]
  ·
   rw [if_neg (by simp), if_neg hn]
   by_cases h4 : k = 2
   · simp [h4]
   ·
    have ha : (k == 2) = false := beq_eq_false_iff_ne.mpr h4
    rw [if_neg h4]
    by_cases h5 : k = 3
    · simp [h5]
    ·
     have hb : (k == 3) = false := beq_eq_false_iff_ne.mpr h5
     simp [bne, ha, hb, hn]
 · simp
theorem m0 (m : Nat) (b : Bool) (k : Int) (i : Bool) (t : ByteArray) (l : List S25) (n : List ByteArray) : value_mayBe2.j0 (m + 5) b k i t l n = some (!b && ((!i || k == 1) && ((decide (t.size = 0) || (k == 2 || k == 3)) && ((decide (l.length = 0) || (k == 4 || k == 5)) && ((decide (n.length = 0) || k == 5) && ((!(k == 5) || decide (n.length = l.length)) && mayL l)))))) := by
 rw [value_mayBe2.j0]
 simp only [m1]
 generalize ((decide (t.size = 0) || (k == 2 || k == 3)) && ((decide (l.length = 0) || (k == 4 || k == 5)) && ((decide (n.length = 0) || k == 5) && ((!(k == 5) || decide (n.length = l.length)) && mayL l)))) = X
 cases b
 ·
  cases i
  · simp
  ·
   by_cases h : k = 1
   · simp [h]
   ·
    have hb : (k == 1) = false := beq_eq_false_iff_ne.mpr h
    simp [bne, hb]
 · simp
theorem may37 (k : Int) (i : Bool) (t : ByteArray) (l : List S25) (n : List ByteArray) : ∃ m, value_mayBe2.f m k i t l n = some (mayV ⟨k, i, t, l, n⟩) := by
 refine ⟨5, ?_⟩
 unfold value_mayBe2.f
 rw [mayV]
 simp only [m0]
 generalize ((!i || k == 1) && ((decide (t.size = 0) || (k == 2 || k == 3)) && ((decide (l.length = 0) || (k == 4 || k == 5)) && ((decide (n.length = 0) || k == 5) && ((!(k == 5) || decide (n.length = l.length)) && mayL l))))) = X
 by_cases h0 : k < 0
 · rw [if_pos h0, decide_eq_false (show ¬ 0 ≤ k by omega)]; simp
 ·
  rw [if_neg h0, decide_eq_true (show 0 ≤ k by omega)]
  by_cases h5 : k > 5
  · rw [decide_eq_true h5, decide_eq_false (show ¬ k ≤ 5 by omega)]; simp
  · rw [decide_eq_false h5, decide_eq_true (show k ≤ 5 by omega)]; simp
theorem eq22 (k : Int) (i : Bool) (t : ByteArray) (l : List S25) (n : List ByteArray) (k' : Int) (i' : Bool) (t' : ByteArray) (l' : List S25) (n' : List ByteArray) (hn : n.length ≤ 9223372036854775807) : ∃ m, value_Equal2.f m k i t l n k' i' t' l' n' = some (eqV ⟨k, i, t, l, n⟩ ⟨k', i', t', l', n'⟩) := by
 refine Ev.rounds ?_
 refine Ev.step (f := fun m => _) (fun m => by rw [value_Equal2.f]) ?_
 rw [eqV]
 simp only [v_text]
 by_cases h1 : k = k'
 ·
  by_cases h2 : i = i'
  ·
   by_cases h3 : t = t'
   ·
    simp only [if_pos h1, if_pos h3, h2, beq_self_eq_true, if_true]
    refine Ev.bind (eq42f n n' hn) ?_
    subst h1 h3
    by_cases h4 : n = n'
    ·
     simp only [h4, decide_true, if_true, conE.f, Option.bind_some, beq_self_eq_true, Bool.true_and]
     exact Ev.now _
    ·
     simp only [h4, decide_false, Bool.false_eq_true, if_false, Bool.false_and, Bool.and_false]
     exact Ev.now _
   ·
    simp only [if_neg h3, if_pos h1, h2, beq_self_eq_true, if_true, h3, decide_false, Bool.false_and, Bool.and_false]
    exact Ev.now _
  ·
   have hb : (i == i') = false := by simpa using h2
   simp only [if_pos h1, hb, Bool.false_eq_true, if_false, Bool.false_and, Bool.and_false]
   exact Ev.now _
 ·
  have hb : (k == k') = false := by simpa using h1
  simp only [if_neg h1, hb, Bool.false_and]
  exact Ev.now _
theorem mem_size {x : S25} {l : List S25} (h : x ∈ l) {k : Int} {i : Bool} {t : ByteArray} {n : List ByteArray} : SizeOf.sizeOf x < SizeOf.sizeOf (S25.mk k i t l n) := by
 have := List.sizeOf_lt_of_mem h
 simp only [S25.mk.sizeOf_spec]
 omega
theorem C_len {w : World} {A : Option Addr} {l : List S25} (h : Kd.C k25 w A l.length l) : l.length ≤ 9223372036854775807 := h.2.1
theorem may_all (m : Nat) : ∀ x : S25, SizeOf.sizeOf x ≤ m → MayF x.f0 x.f1 x.f2 x.f3 x.f4 := by
 induction m with
 | zero => intro x hx; cases x; simp at hx
 | succ m ih =>
  intro x hx A3 c3 A4 c4 r w hC hc hS hs h
  obtain ⟨k, i, t, l, n⟩ := x
  simp only at hC hc hS hs h ⊢
  obtain ⟨f, hf⟩ := may37 k i t l n
  rw [show value_mayBe.f k i t l n = some (mayV ⟨k, i, t, l, n⟩) from rfl] at h
  rw [h] at hf
  refine value_mayBe2.calls f k i t A3 c3 l A4 c4 n r w hC hc hS hs ?_ hf
  intro A c r w hC hc h
  obtain ⟨g, hg⟩ := may46 l (C_len hC)
  rw [show conM.f l = some (!mayL l) from rfl] at h
  rw [h] at hg
  exact api_Value_46.calls g A c l r w hC hc (fun y hy => ih y (by have := mem_size hy (k := k) (i := i) (t := t) (n := n); omega)) hg
theorem eq_all (m : Nat) : ∀ x : S25, SizeOf.sizeOf x ≤ m → EqF x.f0 x.f1 x.f2 x.f3 x.f4 := by
 induction m with
 | zero => intro x hx; cases x; simp at hx
 | succ m ih =>
  intro x hx A3 c3 A4 c4 k' i' t' B3 d3 l' B4 d4 n' r w hC hc hS hs hC' hc' hS' hs' h
  obtain ⟨k, i, t, l, n⟩ := x
  simp only at hC hc hS hs h ⊢
  obtain ⟨f, hf⟩ := eq22 k i t l n k' i' t' l' n' hS.2.1
  rw [show value_Equal.f k i t l n k' i' t' l' n' = some (eqV ⟨k, i, t, l, n⟩ ⟨k', i', t', l', n'⟩) from rfl] at h
  rw [h] at hf
  refine value_Equal2.calls f k i t A3 c3 l A4 c4 n k' i' t' B3 d3 l' B4 d4 n' r w hC hc hS hs hC' hc' hS' hs' ?_ hf
  intro A c B d m' r w hC hc hC' hc' h
  obtain ⟨g, hg⟩ := eq43f l m' (C_len hC)
  rw [show conE.f l m' = some (eqL l m') from rfl] at h
  rw [h] at hg
  exact api_Value_43.calls g A c l B d m' r w hC hc hC' hc' (fun y hy => ih y (by have := mem_size hy (k := k) (i := i) (t := t) (n := n); omega)) hg
theorem value_mayBe.calls (z1_ : Int) (z5_ : Bool) (z3_ : ByteArray) (zj_ : Option Addr) (z9_ : Nat) (z0_ : List S25) (zz_ : Option Addr) (zq_ : Nat) (z2_ : List ByteArray) (r : Bool) (w : World) (jk_ : Kd.C k25 w zj_ z0_.length z0_) (jv_ : z0_.length ≤ z9_) (jx_ : Kd.C Kd.string w zz_ z2_.length z2_) (jy_ : z2_.length ≤ zq_) (h : value_mayBe.f z1_ z5_ z3_ z0_ z2_ = some r) :
  Calls Tryd.prog 37 #[.agg #[.int .i64 z1_, .bool z5_, .string z3_, .slice zj_ z0_.length z9_, .slice zz_ z2_.length zq_]] w fun e w' => e = .returned (.bool r) ∧ Below w.heap.size w w' :=
 may_all _ ⟨z1_, z5_, z3_, z0_, z2_⟩ (Nat.le_refl _) zj_ z9_ zz_ zq_ r w jk_ jv_ jx_ jy_ h
theorem value_Equal.calls (z1_ : Int) (z5_ : Bool) (z3_ : ByteArray) (zj_ : Option Addr) (z9_ : Nat) (z0_ : List S25) (zz_ : Option Addr) (zq_ : Nat) (z2_ : List ByteArray) (xv_ : Int) (x2_ : Bool) (xy_ : ByteArray) (Z3_ : Option Addr) (wK_ : Nat) (jj_ : List S25) (wY_ : Option Addr) (wX_ : Nat) (x7_ : List ByteArray) (r : Bool) (w : World) (jk_ : Kd.C k25 w zj_ z0_.length z0_) (jv_ : z0_.length ≤ z9_) (jx_ : Kd.C Kd.string w zz_ z2_.length z2_) (jy_ : z2_.length ≤ zq_) (Kh_ : Kd.C k25 w Z3_ jj_.length jj_) (Yr_ : jj_.length ≤ wK_) (KG_ : Kd.C Kd.string w wY_ x7_.length x7_) (YP_ : x7_.length ≤ wX_) (h : value_Equal.f z1_ z5_ z3_ z0_ z2_ xv_ x2_ xy_ jj_ x7_ = some r) :
  Calls Tryd.prog 22 #[.agg #[.int .i64 z1_, .bool z5_, .string z3_, .slice zj_ z0_.length z9_, .slice zz_ z2_.length zq_], .agg #[.int .i64 xv_, .bool x2_, .string xy_, .slice Z3_ jj_.length wK_, .slice wY_ x7_.length wX_]] w fun e w' => e = .returned (.bool r) ∧ Below w.heap.size w w' :=
 eq_all _ ⟨z1_, z5_, z3_, z0_, z2_⟩ (Nat.le_refl _) zj_ z9_ zz_ zq_ xv_ x2_ xy_ Z3_ wK_ jj_ wY_ wX_ x7_ r w jk_ jv_ jx_ jy_ Kh_ Yr_ KG_ YP_ h
end Go.Proofs.YtfpmompdgmklmaaDoor.P
