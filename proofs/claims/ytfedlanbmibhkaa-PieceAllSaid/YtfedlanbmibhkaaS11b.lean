/- A table of pieces: Slice. -/
import Derived.Test.YtfedlanbmibhkaaS10b
import Derived.Sort.BigQuietIn
import Derived.Maps.AppendAt
import Derived.RangeFuncBox
namespace Go.Proofs.Ytfedlanbmibhkaa.P
open Go.RowKit Go.Shelf Go.Proofs.YtfedlanbmibhkaaW.PrintWords Go.Proofs.YtfedlanbmibhkaaW.PrintLast Go.Proofs.YtfedlanbmibhkaaW.PrintMore
set_option linter.unusedVariables false
set_option linter.unusedSimpArgs false
attribute [local go_sem] Oper.semAt_some wide_fn
/-- what holds between two rounds of Slice's loop -/
structure SI_b (w : World) (f k : Nat) (pre : List Int) (W : World) : Prop where
  bf : Boxed W w.heap.size 3 (.int .i64 f)
  bk : Boxed W (w.heap.size + 1) 3 (.int .i64 k)
  bo : ∃ v', Boxed W (w.heap.size + 1 + 1) 22 v' ∧ W.ownsRow (w.heap.size + 5) 5 1 v' (pre.drop f).length (nums .u8 (pre.drop f))
  ba : Boxed W (w.heap.size + 1 + 1 + 1) 3 (.int .i64 pre.length)
  le : pre.length ≤ k
  sz : w.heap.size + 5 ≤ W.heap.size
  be : Below w.heap.size w W
theorem SI_b.kept {w : World} {f k : Nat} {pre : List Int} {W W' : World} (h : SI_b w f k pre W) {B : Nat} {row : Option Nat} (hB : w.heap.size ≤ B) (hg : W.grownBy W' row) (hr : ∀ r, row = some r → B ≤ r ∧ ∃ o : Obj, W.heap[r]? = some o ∧ o.isCells = false) : SI_b w f k pre W' := by
  have kb : ∀ {b : Nat} {t : TypeId} {v : Value}, Boxed W b t v → Boxed W' b t v := fun hb => hb.kept hg fun e => by
    obtain ⟨_, o, ho, hc⟩ := hr _ e.symm
    rw [show W.heap[_]? = _ from hb] at ho; cases ho; cases hc
  obtain ⟨v', h1, h2⟩ := h.bo
  refine ⟨kb h.bf, kb h.bk, ⟨v', kb h1, h2.kept hg ?_⟩, kb h.ba, h.le, Nat.le_trans h.sz hg.size, h.be.grown hg h.be.size fun j e => Nat.le_trans hB (hr j e).1⟩
  rcases own_rowAt h2 with ⟨rfl, -, -⟩ | ⟨g, cap, cur, rfl, hR⟩
  · exact .inl rfl
  · refine .inr fun e => ?_
    obtain ⟨_, o, ho, hc⟩ := hr g e.symm
    rw [hR.blk] at ho; cases ho; cases hc
theorem nums_snoc (k : IntKind) (xs : List Int) (x : Int) : nums k (xs ++ [x]) = nums k xs ++ [.int k x] := by unfold nums; simp
/-- at++ -/
theorem SI_b.step {w : World} {f k : Nat} {pre : List Int} {W : World} (h : SI_b w f k pre W) (x : Int) (hf : pre.length < f) (hk : pre.length < k) : SI_b w f k (pre ++ [x]) (W.setCell ⟨w.heap.size + 1 + 1 + 1, 0, none⟩ (.int .i64 ((pre.length : Int) + 1))) := by
  have hg := grownBy_setCell' W (w.heap.size + 1 + 1 + 1) (.int .i64 ((pre.length : Int) + 1))
  obtain ⟨v', h1, h2⟩ := h.bo
  refine ⟨h.bf.kept hg (by intro e_; injection e_ with e_; omega), h.bk.kept hg (by intro e_; injection e_ with e_; omega), ⟨v', h1.kept hg (by intro e_; injection e_ with e_; omega), ?_⟩, ?_, by simp; omega, by simpa [World.setCell] using h.sz, h.be.setCell (p := ⟨w.heap.size + 1 + 1 + 1, 0, none⟩) (by show w.heap.size ≤ w.heap.size + 1 + 1 + 1; omega) _⟩
  · have e1 : (pre ++ [x]).drop f = [] := List.drop_eq_nil_of_le (by simp; omega)
    have e2 : pre.drop f = [] := List.drop_eq_nil_of_le (by omega)
    rw [e1]; rw [e2] at h2
    refine h2.kept hg ?_
    by_cases e : v'.ownBlock = none
    · exact .inl e
    · refine .inr fun e' => ?_
      have := own_base h2 _ e'
      omega
  · have := h.ba.set (.int .i64 ((pre.length : Int) + 1))
    simpa using this
/-- out = append(out, x); at++ -/
theorem SI_b.app {w : World} {f k : Nat} {pre : List Int} {W : World} (h : SI_b w f k pre W) (x : Int) (hf : f ≤ pre.length) (hk : pre.length < k) {v' v1 : Value} (h1 : Boxed W (w.heap.size + 1 + 1) 22 v') (h2 : W.ownsRow (w.heap.size + 5) 5 1 v' (pre.drop f).length (nums .u8 (pre.drop f)))
    {w1 : World} {o : Obj} (k1 : w1.ownsRow (w.heap.size + 5) 5 1 v1 ((pre.drop f).length + 1) (nums .u8 (pre.drop f) ++ [.int .u8 x])) (k2 : (W.alloc o).grownBy w1 v'.ownBlock) :
    SI_b w f k (pre ++ [x]) ((w1.setCell ⟨w.heap.size + 1 + 1, 0, none⟩ v1).setCell ⟨w.heap.size + 1 + 1 + 1, 0, none⟩ (.int .i64 ((pre.length : Int) + 1))) := by
  have hne : ∀ b, b < w.heap.size + 5 → some b ≠ v'.ownBlock := fun b hb e => by have := own_base h2 _ e.symm; omega
  have hne1 : ∀ b, b < w.heap.size + 5 → v1.ownBlock ≠ some b := fun b hb e => by have := own_base k1 _ e; omega
  have g1 := grownBy_setCell' w1 (w.heap.size + 1 + 1) v1
  have g2 := grownBy_setCell' (w1.setCell ⟨w.heap.size + 1 + 1, 0, none⟩ v1) (w.heap.size + 1 + 1 + 1) (.int .i64 ((pre.length : Int) + 1))
  have kb : ∀ {b : Nat} {t : TypeId} {u : Value}, b < w.heap.size + 5 → Boxed W b t u → Boxed w1 b t u := fun hb hx => (hx.alloc o).kept k2 (hne _ hb)
  have hsz : w.heap.size + 5 ≤ w1.heap.size := Nat.le_trans h.sz (Nat.le_trans (by rw [World.size_alloc]; exact Nat.le_succ _) k2.size)
  refine ⟨((kb (by omega) h.bf).kept g1 (by intro e_; injection e_ with e_; omega)).kept g2 (by intro e_; injection e_ with e_; omega), ((kb (by omega) h.bk).kept g1 (by intro e_; injection e_ with e_; omega)).kept g2 (by intro e_; injection e_ with e_; omega), ⟨v1, ((kb (by omega) h1).set v1).kept g2 (by intro e_; injection e_ with e_; omega), ?_⟩, ?_, by simp; omega, by simpa [World.setCell] using hsz, ?_⟩
  · have e1 : (pre ++ [x]).drop f = pre.drop f ++ [x] := List.drop_append_of_le_length hf
    rw [e1, nums_snoc, List.length_append]
    refine (k1.kept g1 (.inr (hne1 _ (by omega)))).kept g2 (.inr (hne1 _ (by omega)))
  · have := ((((kb (by omega) h.ba).kept g1 (by intro e_; injection e_ with e_; omega)))).set (.int .i64 ((pre.length : Int) + 1))
    simpa using this
  · refine (((h.be.alloc h.be.size o).grown k2 (by rw [World.size_alloc]; exact Nat.le_trans h.be.size (Nat.le_succ _)) fun j e => ?_).setCell (p := ⟨w.heap.size + 1 + 1, 0, none⟩) (by show w.heap.size ≤ w.heap.size + 1 + 1; omega) _).setCell (p := ⟨w.heap.size + 1 + 1 + 1, 0, none⟩) (by show w.heap.size ≤ w.heap.size + 1 + 1 + 1; omega) _
    have := own_base h2 _ e; omega
theorem Tab_b.tight {B : Nat} {w : World} {t : Nat} {C : Nat → Prop} {v : Value} {ps : List (List Int)} (h : Tab_b B w t C v ps) : Tab_b B w t (fun g => C g ∧ g < w.heap.size) v ps := by
  obtain ⟨vs, ho, hr⟩ := h.row
  refine ⟨h.lo, h.box, ⟨vs, ho, hr.imp fun u p hb => ?_⟩, h.full⟩
  obtain ⟨g, o, c, cs, e, hc, hb, h1, h2, h3⟩ := hb
  exact ⟨g, o, c, cs, e, ⟨hc, blk_lt hb⟩, hb, h1, h2, h3⟩
/-- the world in which the loop begins -/
theorem SI_b.start (w : World) (f k q t : Nat) : SI_b w f k [] (((((((w.alloc (.cells #[.int .i64 f] 3)).alloc (.cells #[.int .i64 k] 3)).drewN q).alloc (.cells #[.slice none 0 0] 22)).alloc (.cells #[.int .i64 0] 3)).alloc (.cells #[.pointer (some ⟨t, 0, none⟩)] 25))) := by
  have b1 := Boxed.new w 3 (.int .i64 f)
  have b2 := Boxed.new (w.alloc (.cells #[.int .i64 f] 3)) 3 (.int .i64 k)
  have b3 := Boxed.new (((w.alloc (.cells #[.int .i64 f] 3)).alloc (.cells #[.int .i64 k] 3)).drewN q) 22 (.slice none 0 0)
  have b4 := Boxed.new ((((w.alloc (.cells #[.int .i64 f] 3)).alloc (.cells #[.int .i64 k] 3)).drewN q).alloc (.cells #[.slice none 0 0] 22)) 3 (.int .i64 0)
  have d1 : ∀ {b : Nat} {t : TypeId} {u : Value}, Boxed ((w.alloc (.cells #[.int .i64 f] 3)).alloc (.cells #[.int .i64 k] 3)) b t u → Boxed (((w.alloc (.cells #[.int .i64 f] 3)).alloc (.cells #[.int .i64 k] 3)).drewN q) b t u := fun h => h
  have s0 : (((w.alloc (.cells #[.int .i64 f] 3)).alloc (.cells #[.int .i64 k] 3)).drewN q).heap.size = w.heap.size + 1 + 1 := by
    show ((w.alloc (.cells #[.int .i64 f] 3)).alloc (.cells #[.int .i64 k] 3)).heap.size = _
    rw [World.size_alloc, World.size_alloc]
  rw [World.size_alloc] at b2 b4
  rw [s0] at b3 b4
  refine ⟨(((d1 (b1.alloc _)).alloc _).alloc _).alloc _, (((d1 b2).alloc _).alloc _).alloc _, ⟨_, (b3.alloc _).alloc _, by rw [List.drop_nil]; exact World.ownsRow_nil _ _ _ _⟩, b4.alloc _, by simp, ?_, ?_⟩
  · rw [World.size_alloc, World.size_alloc, World.size_alloc, s0]; exact Nat.le_refl _
  · exact below_alloc (below_alloc (below_alloc (pw_below_drewN (below_alloc (below_alloc (Below.refl _ w) _) _) _) _) _) _

theorem start_box_b (w : World) (f k : Int) (q t : Nat) : (((((((w.alloc (.cells #[.int .i64 f] 3)).alloc (.cells #[.int .i64 k] 3)).drewN q).alloc (.cells #[.slice none 0 0] 22)).alloc (.cells #[.int .i64 0] 3)).alloc (.cells #[.pointer (some ⟨t, 0, none⟩)] 25))).cell? ⟨w.heap.size + 1 + 1 + 1 + 1, 0, none⟩ = some (.pointer (some ⟨t, 0, none⟩)) := by
  have h := (Boxed.new (((((w.alloc (.cells #[.int .i64 f] 3)).alloc (.cells #[.int .i64 k] 3)).drewN q).alloc (.cells #[.slice none 0 0] 22)).alloc (.cells #[.int .i64 0] 3)) 25 (.pointer (some ⟨t, 0, none⟩))).cell
  rw [World.size_alloc, World.size_alloc] at h
  have s0 : (((w.alloc (.cells #[.int .i64 f] 3)).alloc (.cells #[.int .i64 k] 3)).drewN q).heap.size = w.heap.size + 1 + 1 := by
    show ((w.alloc (.cells #[.int .i64 f] 3)).alloc (.cells #[.int .i64 k] 3)).heap.size = _
    rw [World.size_alloc, World.size_alloc]
  rw [s0] at h
  exact h

set_option maxRecDepth 100000 in
set_option maxHeartbeats 4000000 in
theorem slice_calls_b {B : Nat} {w : World} {t : Nat} {C : Nat → Prop} {v : Value} {ps : List (List Int)} (h : Tab_b B w t C v ps) (f k : Nat) (hfk : f ≤ k) (hk : k ≤ ps.flatten.length) (hs : ps.flatten.length * 1 ≤ 140737488355328) :
    Calls Try.prog 22 #[.pointer (some ⟨t, 0, none⟩), .int .i64 f, .int .i64 k] w fun e w' => ∃ v', e = .returned (.tuple #[v', .int .i64 0]) ∧ w'.ownsRow w.heap.size 5 1 v' ((ps.flatten.take k).drop f).length (nums .u8 ((ps.flatten.take k).drop f)) ∧ Below w.heap.size w w' := by
  have hs' : ps.flatten.length ≤ 4611686018427387904 := by omega
  have HT := Aside0.mk h.tight
  have HS := Aside0.mk hs'
  have HSB := Aside0.mk hs
  have HK := Aside0.mk hk
  obtain ⟨N, hN⟩ : ∃ N, ps.flatten.length = N := ⟨_, rfl⟩
  have hlt1 : decide ((f : Int) < 0) = false := by simp
  have hlt2 : decide (k < f) = false := decide_eq_false (by omega)
  have hlt3 : decide (N < k) = false := decide_eq_false (by omega)
  have HN := Aside0.mk hN
  obtain ⟨i0, hi0, hz0, hz1, hz2⟩ := info_parts infoe_b
  have HI := Aside0.mk hi0
  have HB := Aside0.mk hz2
  clear h hs hs' hk hN hi0 hz2
  refine (callsIn_wide (n := 4)).1 ?_
  refine callsIn_of_wp_marks Try.func22 rfl trivial ?_ rfl
  simp only [Try.ntmps22, List.size_toArray, List.length_cons, List.length_nil, Nat.reduceAdd, Nat.reduceSub, Array.replicate_succ, Array.replicate_zero, List.push_toArray, List.append_toArray, List.nil_append, List.cons_append]
  gi_wp2_with (gi_at_call 37; refine (callsIn_wide.2 (none_calls_b (HT.out.below (below_alloc (below_alloc (Below.refl _ w) _) _)))).mono ?_; rintro e w' ⟨rfl, rfl⟩)
  gi_big_quiet_th ((gi_at_call 25; exact CallsIn.quiet_of_same (callsIn_wide.2 ((len_calls_b (HT.out.below (pw_below_drewN (below_alloc (below_alloc (Below.refl _ w) _) _) _)) HS.out N HN.out).mono fun e w' hh => ⟨hh.1, hh.2.symm⟩))))
  gi_wp2_with (gi_at_call 35; refine (callsIn_wide.2 (all_calls_b t _)).mono ?_; rintro e w' ⟨rfl, rfl⟩)
  have hSI := SI_b.start w f k nq t
  have hbx := start_box_b w f k nq t
  generalize ((((((w.alloc (.cells #[.int .i64 f] 3)).alloc (.cells #[.int .i64 k] 3)).drewN nq).alloc (.cells #[.slice none 0 0] 22)).alloc (.cells #[.int .i64 0] 3)).alloc (.cells #[.pointer (some ⟨t, 0, none⟩)] 25)) = W0 at hSI hbx ⊢
  have HTW := HT.out.below hSI.be
  have hFoot : ∀ g, Foot W0 (fun g => C g ∧ g < w.heap.size) v g → g < w.heap.size := fun g hg => by
    rcases hg.2 with e | e
    · exact (HT.out.ownB g e).2.1
    · exact e.2
  have hbW : w.heap.size ≤ W0.heap.size := hSI.be.size
  have hkeep : ∀ {W W' : World}, Below w.heap.size w W → Below w.heap.size w W' → Keep (Foot W0 (fun g => C g ∧ g < w.heap.size) v) W W' := fun h1 h2 g hg => (h2.block g (hFoot g hg)).trans (h1.block g (hFoot g hg)).symm
  refine wpIn_rangeFunc_ownG rfl (by decide) (gf := 48) (lb := #[.pointer (some ⟨w.heap.size + 1 + 1 + 1 + 1, 0, none⟩)]) rfl trivial (enters_of Try.func48 (by kernel_rfl) rfl)
    (all_stops_b HTW HS.out _ hbx) Keep.trans (fun W l o o' hl _ _ _ g hg => World.putObj_heap_other (by have := hFoot g hg; omega)) (Below.refl _ _) (fun _ => rfl)
    (fun pre W => SI_b w f k pre W) (fun c pre W => c = .exit 1 ∧ ∃ pre0 x, pre = pre0 ++ [x] ∧ k ≤ pre0.length ∧ SI_b w f k pre0 W)
    (fun s W W' row hs hg hr => hs.kept hbW hg hr) (fun c s W W' row hs hg hr => ⟨hs.1, by obtain ⟨p0, x, e, hk, h⟩ := hs.2; exact ⟨p0, x, e, hk, h.kept hbW hg hr⟩⟩) hSI
    (fun x : Int => { tmps := #[.pointer (some ⟨t, 0, none⟩), .int .i64 f, .int .i64 k, undef, .pointer (some ⟨w.heap.size, 0, none⟩), .pointer (some ⟨w.heap.size + 1, 0, none⟩), .slice none 0 0, .int .i64 0, .pointer (some ⟨w.heap.size + 1 + 1, 0, none⟩), .pointer (some ⟨w.heap.size + 1 + 1 + 1, 0, none⟩), .int .u8 x, .bool false, .pointer (some ⟨t, 0, none⟩), .bool false, .bool false, .int .i64 f, .bool false, .bool false, .int .i64 k, .int .i64 f, .bool false, .bool false, .bool false, .int .i64 k, .pointer (some ⟨t, 0, none⟩), .int .i64 N, .bool false, .bool false, .pointer (some ⟨t, 0, none⟩), .func (.func 48) #[] #[.pointer (some ⟨w.heap.size + 1 + 1 + 1 + 1, 0, none⟩)], .int .u8 x, undef, undef, undef, undef, undef, undef, undef, undef, undef, undef, undef, undef, undef], defers := [] }) ?assign ?body ?done ?stop
  case assign =>
    intro l x W K hK
    gi_wp2
    exact hK
  case body =>
    rintro l pre x W hI hlen
    obtain ⟨v', h1, h2⟩ := hI.bo
    have hcf := hI.bf.cell
    have hck := hI.bk.cell
    have hca := hI.ba.cell
    have hfa := hI.ba.frozen
    have HIi := Aside0.mk hI
    have hpl : pre.length ≤ 4611686018427387904 := by have := HS.out; omega
    have HL := Aside0.mk hlen
    by_cases e : pre.length = k
    · have t1 : decide (k ≤ pre.length) = true := decide_eq_true (by omega)
      have HE := Aside0.mk e
      clear hI h1 h2 hlen e
      gi_wp2
      exact ⟨KeepsFrom.refl _ _, rfl, pre, x, rfl, by rw [HE.out]; exact Nat.le_refl _, HIi.out⟩
    · have hlt : pre.length < k := by have := hI.le; omega
      have t1 : decide (k ≤ pre.length) = false := decide_eq_false (by omega)
      by_cases ef : f ≤ pre.length
      · have t2 : decide (f ≤ pre.length) = true := decide_eq_true ef
        have hco := h1.cell
        have hfo := h1.frozen
        have H1 := Aside0.mk h1
        obtain ⟨m, hm⟩ : ∃ m, (pre.drop f).length = m := ⟨_, rfl⟩
        have HM := Aside0.mk hm
        have hml : m ≤ pre.length := by rw [← hm, List.length_drop]; omega
        rw [hm] at h2
        have H2 := Aside0.mk h2
        obtain ⟨A1, c1, rfl⟩ := own_slice h2
        have HLt := Aside0.mk hlt
        have HEf := Aside0.mk ef
        clear hI h1 h2 hlen e ef hlt hm
        gi_wp2_with (gi_at_builtin; refine wpListIn_append_own _ rfl _ _ 22 rfl (w.heap.size + 5) 5 i0 (.int .u8 0) 1 1 Try.underlying22 HI.out hz0 hz1 HB.out rfl (by decide) _ _ _ rfl (H2.out.alloc _) ⟨W.heap.size, 0, none⟩ 1 1 [.int .u8 x] rfl rfl (cell_one_new _ _ _) (by simp [Value.oneCell']) (by unfold maxLen; omega) (by have := HL.out; have := HSB.out; omega) (by rw [World.size_alloc]; exact Nat.le_trans HIi.out.sz (Nat.le_succ _)) ?_; intro v1 w1 hown1 hgrow1 _; obtain ⟨g1, cap1, rfl⟩ := ownsRow_succ hown1; have K1 := Aside0.mk hown1; have K2 := Aside0.mk hgrow1; have kb1 := (H1.out.alloc (Obj.cells #[.int .u8 x] 5)).kept hgrow1 (fun e_ => by have := own_base H2.out _ e_.symm; omega); have kc1 := kb1.cell; have kf1 := kb1.frozen; have kb2 := (HIi.out.ba.alloc (Obj.cells #[.int .u8 x] 5)).kept hgrow1 (fun e_ => by have := own_base H2.out _ e_.symm; omega); have kc2 := kb2.cell; have kf2 := kb2.frozen; clear hown1 hgrow1 kb1 kb2)
        have hs := SI_b.app HIi.out x HEf.out HLt.out H1.out (by rw [HM.out]; exact H2.out) (by rw [HM.out]; exact K1.out) K2.out
        refine ⟨(((KeepsOthers.alloc W _).trans (KeepsOthers.of_grownBy K2.out fun j o ej hj => ?_)).trans ((KeepsOthers.setCell _ _ _).trans (KeepsOthers.setCell _ _ _))).from _, hkeep HIi.out.be hs.be, hs⟩
        rcases own_rowAt (H2.out.alloc (Obj.cells #[.int .u8 x] 5)) with ⟨e_, -, -⟩ | ⟨g2, cap2, cur2, e_, hR⟩
        · rw [e_] at ej; cases ej
        · rw [e_] at ej; cases ej; rw [hR.blk] at hj; cases hj; rfl
      · have t2 : decide (f ≤ pre.length) = false := decide_eq_false ef
        have HLt := Aside0.mk hlt
        have HEf := Aside0.mk ef
        clear hI h1 h2 hlen e ef hlt
        gi_wp2
        have hs := HIi.out.step x (by have := HEf.out; omega) HLt.out
        exact ⟨(KeepsOthers.setCell _ _ _).from _, hkeep HIi.out.be hs.be, hs⟩
  case done =>
    rintro D ys W hD rfl hI hK
    obtain ⟨v', h1, h2⟩ := hI.bo
    have hc := h1.cell
    have hl := hI.le
    have hbe := hI.be
    have e1 : (ps.flatten.take k).drop f = ps.flatten.drop f := by rw [List.take_of_length_le hl]
    have E1 := Aside0.mk e1
    obtain ⟨m, hm⟩ : ∃ m, (ps.flatten.drop f).length = m := ⟨_, rfl⟩
    have HM := Aside0.mk hm
    rw [hm] at h2
    obtain ⟨A1, c1, rfl⟩ := own_slice h2
    have H2 := Aside0.mk h2
    clear hI h1 h2 hl hm e1
    gi_wp2
    refine ⟨by simp, .inl ⟨_, _, rfl, run_takeDeferred hK, ?_⟩⟩
    exact ⟨_, results_tmp2 rfl _ _ _, ⟨_, rfl, by rw [E1.out, HM.out]; exact ownsRow_putObj (own_lower H2.out (by omega)) _ hK rfl, hbe.trans (belowK_b (w := W0) hbW W D _ _ hD hK rfl rfl)⟩⟩
  case stop =>
    rintro D c pre W hD hpre ⟨rfl, pre0, x, rfl, hk, hI⟩ hK
    obtain ⟨v', h1, h2⟩ := hI.bo
    have hc := h1.cell
    have hl := hI.le
    have hbe := hI.be
    have e1 : (ps.flatten.take k).drop f = pre0.drop f := by
      obtain ⟨r, hr⟩ := hpre
      rw [← hr, List.append_assoc, List.take_append_of_le_length (by omega), List.take_of_length_le hl]
    have E1 := Aside0.mk e1
    obtain ⟨m, hm⟩ : ∃ m, (pre0.drop f).length = m := ⟨_, rfl⟩
    have HM := Aside0.mk hm
    rw [hm] at h2
    obtain ⟨A1, c1, rfl⟩ := own_slice h2
    have H2 := Aside0.mk h2
    clear hI h1 h2 hl hm e1 hk
    gi_wp2
    refine ⟨by simp, .inl ⟨_, _, rfl, run_takeDeferred hK, ?_⟩⟩
    exact ⟨_, results_tmp2 rfl _ _ _, ⟨_, rfl, by rw [E1.out, HM.out]; exact ownsRow_putObj (own_lower H2.out (by omega)) _ hK rfl, hbe.trans (belowK_b (w := W0) hbW W D _ _ hD hK rfl rfl)⟩⟩

set_option maxRecDepth 100000 in
set_option maxHeartbeats 4000000 in
theorem slice_no_b {B : Nat} {w : World} {t : Nat} {C : Nat → Prop} {v : Value} {ps : List (List Int)} (h : Tab_b B w t C v ps) (f k : Int) (hbad : ¬ (0 ≤ f ∧ f ≤ k ∧ k ≤ (ps.flatten.length : Int))) (hs : ps.flatten.length ≤ 4611686018427387904) :
    Calls Try.prog 22 #[.pointer (some ⟨t, 0, none⟩), .int .i64 f, .int .i64 k] w fun e w' => e = .returned (.tuple #[.slice none 0 0, .int .i64 9]) ∧ Below w.heap.size w w' := by
  have HT := Aside0.mk h
  have HS := Aside0.mk hs
  obtain ⟨N, hN⟩ : ∃ N, ps.flatten.length = N := ⟨_, rfl⟩
  rw [hN] at hbad
  have HN := Aside0.mk hN
  clear h hs hN
  by_cases h1 : f < 0
  · have e1 : decide (f < 0) = true := decide_eq_true h1
    clear hbad
    go_enter Try.func22, Try.ntmps22
    go_wp2_with (go_at_call 37; refine (none_calls_b (HT.out.below (below_alloc (below_alloc (Below.refl _ w) _) _))).mono ?_; rintro e w' ⟨rfl, rfl⟩)
    go_quiet ((go_at_call 25; exact Calls.quiet_of_same ((len_calls_b (HT.out.below (pw_below_drewN (below_alloc (below_alloc (Below.refl _ w) _) _) _)) HS.out N HN.out).mono fun e w' hh => ⟨hh.1, hh.2.symm⟩)))
    go_wp2
    go_ret2
    exact ⟨rfl, pw_below_drewN (below_alloc (below_alloc (Below.refl _ w) _) _) _⟩
  · have e1 : decide (f < 0) = false := decide_eq_false h1
    by_cases h2 : k < f
    · have e2 : decide (k < f) = true := decide_eq_true h2
      clear hbad
      go_enter Try.func22, Try.ntmps22
      go_wp2_with (go_at_call 37; refine (none_calls_b (HT.out.below (below_alloc (below_alloc (Below.refl _ w) _) _))).mono ?_; rintro e w' ⟨rfl, rfl⟩)
      go_quiet ((go_at_call 25; exact Calls.quiet_of_same ((len_calls_b (HT.out.below (pw_below_drewN (below_alloc (below_alloc (Below.refl _ w) _) _) _)) HS.out N HN.out).mono fun e w' hh => ⟨hh.1, hh.2.symm⟩)))
      go_wp2
      go_ret2
      exact ⟨rfl, pw_below_drewN (below_alloc (below_alloc (Below.refl _ w) _) _) _⟩
    · have e2 : decide (k < f) = false := decide_eq_false h2
      have e3 : decide ((N : Int) < k) = true := decide_eq_true (by omega)
      clear hbad
      go_enter Try.func22, Try.ntmps22
      go_wp2_with (go_at_call 37; refine (none_calls_b (HT.out.below (below_alloc (below_alloc (Below.refl _ w) _) _))).mono ?_; rintro e w' ⟨rfl, rfl⟩)
      go_quiet ((go_at_call 25; exact Calls.quiet_of_same ((len_calls_b (HT.out.below (pw_below_drewN (below_alloc (below_alloc (Below.refl _ w) _) _) _)) HS.out N HN.out).mono fun e w' hh => ⟨hh.1, hh.2.symm⟩)))
      go_wp2
      go_ret2
      exact ⟨rfl, pw_below_drewN (below_alloc (below_alloc (Below.refl _ w) _) _) _⟩
end Go.Proofs.Ytfedlanbmibhkaa.P
