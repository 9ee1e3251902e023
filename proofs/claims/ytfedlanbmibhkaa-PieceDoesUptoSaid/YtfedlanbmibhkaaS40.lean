/- PieceDoes: the walk. -/
import Derived.Test.YtfedlanbmibhkaaS39
namespace Go.Proofs.Ytfedlanbmibhkaa.P
open Go.RowKit Go.Shelf Go.Proofs.YtfedlanbmibhkaaW.PrintWords Go.Proofs.YtfedlanbmibhkaaW.PrintLast Go.Proofs.YtfedlanbmibhkaaW.PrintMore
set_option linter.unusedVariables false
set_option linter.unusedSimpArgs false
/-- the block of a row -/
def obk (A : Option Addr) : Option Nat := A.map (·.block)
theorem obk_ty {w : World} {B n c : Nat} {A : Option Addr} {vs : List Value} (h : w.ownsRow B 5 1 (.slice A n c) n vs) : ∀ g, obk A = some g → (∃ (cs : Array Value) (fr : Nat × Nat), w.heap[g]? = some (Obj.cells cs 5 fr)) ∧ B ≤ g := fun g e => by
  cases A with
  | none => cases e
  | some ad => cases e; exact ⟨ty_own h ad rfl, own_lo h ad rfl⟩
theorem grown_setA {W wr : World} {ad : Addr} (h : W.grownBy wr (obk (some ad))) (j : Nat) (v : Value) (e : ad = ⟨ad.block, 0, none⟩) : W.grownBy (wr.setCell (ad.add j) v) (obk (some ad)) := by
  have e3 : ad.add j = ⟨ad.block, j, none⟩ := by rw [e, add_at, Nat.zero_add]
  rw [e3]
  exact ⟨h.os, h.tape, h.output, by have := h.size; simpa using this, fun g hg hne => (Below.heap_setCell wr ⟨ad.block, j, none⟩ v g (fun eb => hne (by rw [eb]; rfl))).trans (h.block g hg hne)⟩
theorem SpR.flat {w : World} {ad : Addr} {n lo : Nat} (h : SpR w (some ad) n lo) (h0 : 0 < n) : ad = ⟨ad.block, 0, none⟩ := by
  obtain ⟨ad', cur, e1, e2, -⟩ := h h0
  cases e1; exact e2
theorem grown_step {W w1 w2 : World} {ob : Option Nat} (h : Below W.heap.size W w1) (k : w1.grownBy w2 ob) : W.grownBy w2 ob :=
  ⟨k.os.trans h.os, k.tape.trans h.tape, k.output.trans h.output, Nat.le_trans h.size k.size, fun g hg hne => (k.block g (Nat.lt_of_lt_of_le hg h.size) hne).trans (h.block g hg)⟩
theorem obk_typed_below {w w' : World} {ob : Option Nat} (h : ∀ g, ob = some g → ∃ (cs : Array Value) (fr : Nat × Nat), w.heap[g]? = some (Obj.cells cs 5 fr)) (hb : Below w.heap.size w w') : ∀ g, ob = some g → ∃ (cs : Array Value) (fr : Nat × Nat), w'.heap[g]? = some (Obj.cells cs 5 fr) := fun g e => by
  obtain ⟨cs, fr, hc⟩ := h g e
  exact ⟨cs, fr, (hb.block _ (blk_ltF hc)).trans hc⟩
/-- the first pair, and its snapshots -/
theorem DI.first {B : Nat} {w0 W w1 w2 : World} {D : Nat → Prop} {ta : Nat} {va : Value} {pa : List (List Int)} {rb tn : Nat} {vn : Value} {rn : Nat} (ha : Tab_b B W ta D va pa) (hb : RxD W rb D pa) (lb : B ≤ rb) (be : Below B w0 W) (sz : B ≤ W.heap.size)
    (T : Tab_b B w1 tn D vn pa) (b1 : Below W.heap.size W w1) (l1 : W.heap.size ≤ tn) (o1 : ∀ b, vn.ownBlock = some b → W.heap.size ≤ b) {D2 : Nat → Prop} (R : RxD w2 rn D2 pa) (b2 : Below w1.heap.size w1 w2) (l2 : w1.heap.size ≤ rn) : DI B w0 w2 (fun _ => True) ta va pa rb tn vn pa rn := by
  have b12 := below_step b1 b2
  refine ⟨(ha.below b12).weaken (fun _ _ => trivial), (T.below b2).weaken (fun _ _ => trivial), (hb.below b12).weaken (fun _ _ => trivial), R.weaken (fun _ _ => trivial), ⟨?_, fun g e1 e2 => ?_⟩, ?_, lb, Nat.le_trans sz (Nat.le_trans b1.size l2), be.trans (b12.mono sz), Nat.le_trans sz b12.size⟩
  · have := blk_lt ha.box; omega
  · have := (ha.ownB g e1).2.1; have := o1 g e2; omega
  · have := hb.rx.lt; have := b1.size; omega
theorem left_keeps {B t : Nat} {C C' : Nat → Prop} {v : Value} {ps ps' : List (List Int)} {w w' : World} {A : Option Addr} (L : Left_b B t C' v ps' w w') (T : Tab_b B w t C v ps) (hty : ∀ g, obk A = some g → ∃ (cs : Array Value) (fr : Nat × Nat), w.heap[g]? = some (Obj.cells cs 5 fr)) :
    w.heap.size ≤ w'.heap.size ∧ ∀ g, obk A = some g → w'.heap[g]? = w.heap[g]? ∧ ∃ (cs : Array Value) (fr : Nat × Nat), w'.heap[g]? = some (Obj.cells cs 5 fr) := by
  obtain ⟨v', T', e, N⟩ := L
  refine ⟨e.size, fun g eg => ?_⟩
  obtain ⟨cs, fr, hh⟩ := hty g eg
  have := e.blk g (blk_ltF hh) (fun eb => by subst eb; exact ty_ne T.box hh (by decide)) (fun eb => by obtain ⟨c2, h2⟩ := T.rowAt _ eb.symm; exact ty_ne h2 hh (by decide))
  exact ⟨this, cs, fr, this.trans hh⟩
theorem rb_keeps {w w' w0 : World} {rb : Nat} {A : Option Addr} (hg : w.grownBy w' (some rb)) (hb : ∃ cs, w.heap[rb]? = some (.cells cs 74 (0, 0))) (hty : ∀ g, obk A = some g → w.heap[g]? = w0.heap[g]? ∧ ∃ (cs : Array Value) (fr : Nat × Nat), w.heap[g]? = some (Obj.cells cs 5 fr)) :
    (∀ g, obk A = some g → w'.heap[g]? = w.heap[g]?) ∧ ∀ g, obk A = some g → ∃ (cs : Array Value) (fr : Nat × Nat), w'.heap[g]? = some (Obj.cells cs 5 fr) := by
  obtain ⟨c0, hb⟩ := hb
  have key : ∀ g, obk A = some g → w'.heap[g]? = w.heap[g]? := fun g eg => by
    obtain ⟨-, cs, fr, hh⟩ := hty g eg
    exact hg.block g (blk_ltF hh) (fun eb => by injection eb with eb; subst eb; exact ty_ne hb hh (by decide))
  refine ⟨key, fun g eg => ?_⟩
  obtain ⟨-, cs, fr, hh⟩ := hty g eg
  exact ⟨cs, fr, (key g eg).trans hh⟩
theorem SpR.keep {w w' : World} {A : Option Addr} {n lo : Nat} (h : SpR w A n lo) (hk : ∀ g, obk A = some g → w'.heap[g]? = w.heap[g]?) : SpR w' A n lo := fun h0 => by
  obtain ⟨ad, cur, e1, e2, h1, h2, h3⟩ := h h0
  exact ⟨ad, cur, e1, e2, h1, (hk _ (by rw [e1]; rfl)).trans h2, h3⟩
def Szs (j : Nat) (pa pc : List (List Int)) : Prop := pa.flatten.length ≤ 1048576 + 1000 * j ∧ pa.length ≤ 1 + 2 * j ∧ pc.flatten.length ≤ 1048576 + 1000 * j ∧ pc.length ≤ 1 + 2 * j
set_option maxRecDepth 100000 in
set_option maxHeartbeats 40000000 in
theorem does_walk (l : List Int) (A : Option Addr) (c : Nat) (ds : List (Int × Int × List Int × Bool × Bool)) (A1 : Option Addr) (c1 : Nat) (w : World) (hr : Kd.C (Kd.int .u8) w A l.length l) (hc : l.length ≤ c) (hr1 : Kd.C k34 w A1 ds.length ds) (hc1 : ds.length ≤ c1) (hs1 : ds.length * 48 ≤ 140737488351232) (hb : l.length ≤ 1048576) :
    Calls Try.prog 3 #[.slice A l.length c, .slice A1 ds.length c1] w fun e w' => e = .returned (.bool true) ∧ Below w.heap.size w w' := by
  obtain ⟨n, hn⟩ : ∃ n, l.length = n := ⟨_, rfl⟩
  obtain ⟨n1, hn1⟩ : ∃ n, ds.length = n := ⟨_, rfl⟩
  have q4 := newS_len l
  have q6 : (newS l).flatten.length = n := by rw [newS_flat, hn]
  rw [hn] at hr hc hb q4 ⊢
  rw [hn1] at hr1 hc1 hs1 ⊢
  have HN := Aside0.mk hn
  have HN1 := Aside0.mk hn1
  have HR := Aside0.mk hr
  have HR1 := Aside0.mk hr1
  have HC := Aside0.mk hc
  have HB := Aside0.mk hb
  have Q4 := Aside0.mk (show (newS l).length ≤ 1 by omega)
  have Q6 := Aside0.mk q6
  have HS1 := Aside0.mk hs1
  clear hn hn1 hr hr1 hc hc1 hb q4 q6 hs1
  go_enter Try.func3, Try.ntmps3
  go_wp2_with (first
    | (go_at_call 12; (with_reducible refine (copy_up HR.out HN.out HC.out (by have := HB.out; omega)).mono ?_); rintro e w1 ⟨v1, rfl, o_, b_⟩; obtain ⟨Ai, ci, rfl⟩ := own_slice o_; have O1 := Aside0.mk o_; have B1 := Aside0.mk b_; clear o_ b_)
    | (go_at_call 13; refine (show Calls Try.prog 13 #[.slice Ai n ci] _ (fun e w' => ∃ t v, e = .returned (.pointer (some ⟨t, 0, none⟩)) ∧ Tab_b w.heap.size w' t (fun g => w1.heap.size ≤ g) v (newS l) ∧ Below w1.heap.size w1 w' ∧ w1.heap.size ≤ t ∧ ∀ b, v.ownBlock = some b → w1.heap.size ≤ b) from by have := new_calls_b (B := w.heap.size) Ai ci l (by rw [HN.out]; exact (own_bytes O1.out HN.out (Below.refl _ _)).2) (by have := HB.out; rw [HN.out]; omega) B1.out.size; rwa [HN.out] at this).mono ?_; rintro e w2 ⟨ta, va, rfl, T_, b_, -, -⟩; have T := Aside0.mk T_; have B2 := Aside0.mk b_; clear T_ b_)
    | (go_at_call 14; refine (newRxD HN.out (Kd.C_below HR.out (below_step B1.out B2.out)) HC.out (by have := HB.out; omega)).mono ?_; rintro e w3 ⟨rb, rfl, R_, b_, lr_⟩; have R := Aside0.mk (R_.weaken (D' := fun g => w1.heap.size ≤ g) (fun g hg => Nat.le_trans B2.out.size hg)); have LR := Aside0.mk (Nat.le_trans (Nat.le_trans B1.out.size B2.out.size) lr_); replace T := Aside0.mk (T.out.below b_); have B3 := Aside0.mk (below_step B2.out b_); clear R_ b_ lr_)
    | (go_at_call 15; refine (sameA T.out R.out.rx (by have := Q6.out; have := HB.out; omega)).mono ?_; rintro e w4 ⟨rfl, b_⟩; replace T := Aside0.mk (T.out.below b_); replace R := Aside0.mk (R.out.below b_); replace B3 := Aside0.mk (below_step B3.out b_); clear b_)
    | (go_at_call 16; refine (eqB HN.out (own_bytes O1.out HN.out B3.out).2 (own_bytes O1.out HN.out B3.out).1 (Kd.C_below HR.out (below_step B1.out B3.out)) HC.out (by have := HB.out; omega)).mono ?_; rintro e w5 ⟨rfl, b_⟩; replace T := Aside0.mk (T.out.below b_); replace R := Aside0.mk (R.out.below b_); replace B3 := Aside0.mk (below_step B3.out b_); clear b_))
  have OT := Aside0.mk (obk_typed_below (fun g e => (obk_ty O1.out g e).1) B3.out)
  have OL := Aside0.mk (fun g (e : obk Ai = some g) => (show w.heap.size ≤ g ∧ g < w1.heap.size from ⟨(obk_ty O1.out g e).2, by obtain ⟨cs, fr, hh⟩ := (obk_ty O1.out g e).1; exact blk_ltF hh⟩))
  go_loopg [8] (n + 1) (fun kq v8 wr => ∃ j : Nat, v8 = .int .i64 (j : Int) ∧ Aside0 (j ≤ n ∧ n < kq + j) ∧ Aside0 (SpR wr Ai n w.heap.size) ∧ Aside0 (w5.grownBy wr (obk Ai)))
  case atStart => exact ⟨0, rfl, ⟨by omega⟩, ⟨(SpR.of_own O1.out).below B3.out⟩, ⟨grown_self _ _⟩⟩
  case round =>
    obtain ⟨j, rfl, hj, SP, SG⟩ := hrel
    cases gk with
    | zero => exact absurd hj.out (by omega)
    | succ k1 =>
      by_cases hlt : j < n
      · have t1 : decide (j < n) = true := decide_eq_true hlt
        obtain ⟨ad, y, rfl, hlo, hy, hfz⟩ := SP.out.at j hlt
        have FL := Aside0.mk (SP.out.flat (by omega))
        have HL := Aside0.mk hlt
        have p1 : (0 : Int) ≤ (j : Int) := by omega
        have p2 : (j : Int) < (n : Int) := by omega
        have w2_ : wrap64 ((j : Int) + 1) = (j : Int) + 1 := w64_in _ (by omega) (by have := HB.out; omega)
        clear hlt hlo
        go_wp2_with (fail)
        go_roundg k1
        case measure => omega
        case rel => exact ⟨j + 1, by go_num, ⟨by have := hj.out; have := HL.out; omega⟩, ⟨SP.out.set j HL.out _⟩, ⟨grown_setA SG.out j _ FL.out⟩⟩
      · have t1 : decide (j < n) = false := decide_eq_false hlt
        clear hlt
        have T2 := Aside0.mk (T.out.spoil OT.out (fun g e h => absurd (OL.out g e).2 (Nat.not_lt.mpr h)) SG.out)
        have R2 := Aside0.mk (R.out.spoil OT.out (fun g e h => absurd (OL.out g e).2 (Nat.not_lt.mpr h)) SG.out)
        have B5 := Aside0.mk (pw_below_grown (below_step B1.out B3.out) _ (below_step B1.out B3.out).size SG.out (fun g e => (OL.out g e).1))
        clear T R OT OL SP SG B3
        go_wp2_with (first
          | (go_at_call 17; refine (snap_calls_b T2.out (by have := Q4.out; omega) B5.out.size).mono ?_; rintro e w7 ⟨tn, vn, rfl, T_, b_, l_, o_⟩; have T3 := Aside0.mk T_; have S3 := Aside0.mk b_; have L3 := Aside0.mk l_; have V3 := Aside0.mk o_; clear T_ b_ l_ o_)
          | (go_at_call 18; refine (snapRxD (R2.out.below S3.out).rx (by have := Q6.out; have := HB.out; omega) (by have := Q4.out; omega)).mono ?_; rintro e w8 ⟨rn, rfl, R_, b_, l_⟩; have R3 := Aside0.mk R_; have S4 := Aside0.mk b_; have L4 := Aside0.mk l_; clear R_ b_ l_))
        have HD := Aside0.mk (DI.first T2.out R2.out LR.out B5.out B5.out.size T3.out S3.out L3.out V3.out R3.out S4.out L4.out)
        go_loopg [6, 7, 9, 10, 11] 61 (fun kq s6 s7 s9 s10 s11 wr => ∃ (j ta : Nat) (va : Value) (pa : List (List Int)) (rb tc : Nat) (vc : Value) (pc : List (List Int)) (rd : Nat), s6 = .pointer (some ⟨ta, 0, none⟩) ∧ s7 = .pointer (some ⟨rb, 0, none⟩) ∧ s9 = .pointer (some ⟨tc, 0, none⟩) ∧ s10 = .pointer (some ⟨rd, 0, none⟩) ∧ s11 = .int .i64 (j : Int) ∧ Aside0 (j ≤ 60 ∧ j ≤ n1 ∧ 61 ≤ kq + j) ∧ Aside0 (DI w.heap.size w wr (fun _ => True) ta va pa rb tc vc pc rd) ∧ Aside0 (Szs j pa pc))
        case atStart => exact ⟨0, ta, va, newS l, rb, tn, vn, newS l, rn, rfl, rfl, rfl, rfl, rfl, ⟨by omega⟩, HD, ⟨by have := Q4.out; have := Q6.out; have := HB.out; unfold Szs; omega⟩⟩
        case round =>
          clear HD T2 R2 T3 R3 S3 S4 L3 L4 V3 LR O1 B1 B2 B5
          obtain ⟨j, ta, va, pa, rb, tc, vc, pc, rd, rfl, rfl, rfl, rfl, rfl, hj, HD, HZ⟩ := hrel
          cases gk with
          | zero => exact absurd hj.out (by omega)
          | succ kk =>
            by_cases hlt : j < n1 ∧ j < 60
            · have t1 : decide (j < n1) = true := decide_eq_true hlt.1
              have t2 : decide ((j : Int) < 60) = true := decide_eq_true (by omega)
              obtain ⟨ad, f, t, xs, Ax, cx, s1, s2, rfl, e0, e1, e2, e3, e4, hcx, hxr⟩ := C34_at HR1.out j (by rw [HN1.out]; exact hlt.1)
              have E0 := Aside0.mk e0
              have E1 := Aside0.mk e1
              have E2 := Aside0.mk e2
              have E3 := Aside0.mk e3
              have E4 := Aside0.mk e4
              have HLT := Aside0.mk hlt
              have HCX := Aside0.mk hcx
              have HXR := Aside0.mk hxr
              have p1 : (0 : Int) ≤ (j : Int) := by omega
              have p2 : (j : Int) < (n1 : Int) := by omega
              have w2_ : wrap64 ((j : Int) + 1) = (j : Int) + 1 := w64_in _ (by omega) (by omega)
              have W2 := Aside0.mk w2_
              obtain ⟨m, hm⟩ : ∃ m, xs.length = m := ⟨_, rfl⟩
              rw [hm] at E2 HCX HXR
              have HMX := Aside0.mk hm
              clear hlt e0 e1 e2 e3 e4 hcx hxr hm
              have x3 := pw_cell_below HD.out.be E3.out
              have x4 := pw_cell_below HD.out.be E4.out
              go_upto_if 62 with (fail)
              go_cut [6, 7, 9, 10] (fun s6 s7 s9 s10 wx => ∃ (ta : Nat) (va : Value) (pa : List (List Int)) (rb tc : Nat) (vc : Value) (pc : List (List Int)) (rd : Nat), s6 = .pointer (some ⟨ta, 0, none⟩) ∧ s7 = .pointer (some ⟨rb, 0, none⟩) ∧ s9 = .pointer (some ⟨tc, 0, none⟩) ∧ s10 = .pointer (some ⟨rd, 0, none⟩) ∧ Aside0 (DI w.heap.size w wx (fun _ => True) ta va pa rb tc vc pc rd) ∧ Aside0 (Szs j pa pc))
              case first =>
                cases s1
                · go_wp2_with (fail)
                  go_meet
                  case rel => exact ⟨ta, va, pa, rb, tc, vc, pc, rd, rfl, rfl, rfl, rfl, HD, HZ⟩
                · cases s2
                  all_goals
                    go_wp2_with (first
                      | (go_at_call 17; refine (snap_calls_b HD.out.a (by have := HZ.out; have := hj.out; unfold Szs at *; omega) HD.out.sz).mono ?_; rintro e w7 ⟨tn, vn, rfl, T_, b_, l_, o_⟩; have T3 := Aside0.mk T_; have S3 := Aside0.mk b_; have L3 := Aside0.mk l_; have V3 := Aside0.mk o_; replace x3 := pw_cell_below b_ x3; replace x4 := pw_cell_below b_ x4; clear T_ b_ l_ o_)
                      | (go_at_call 18; refine (snapRxD (HD.out.b.below S3.out).rx (by have := HZ.out; have := hj.out; unfold Szs at *; omega) (by have := HZ.out; have := hj.out; unfold Szs at *; omega)).mono ?_; rintro e w8 ⟨rn, rfl, R_, b_, l_⟩; have R3 := Aside0.mk (R_.weaken (D' := fun _ => True) (fun _ _ => trivial)); have S4 := Aside0.mk b_; have L4 := Aside0.mk l_; replace x3 := pw_cell_below b_ x3; replace x4 := pw_cell_below b_ x4; clear R_ b_ l_))
                    go_meet
                    case rel =>
                      have hz : Szs j pa pa := by have := HZ.out; unfold Szs at *; omega
                      first
                      | exact ⟨ta, va, pa, rb, tn, vn, pa, rn, rfl, rfl, rfl, rfl, ⟨HD.out.snap T3.out S3.out L3.out V3.out R3.out S4.out L4.out⟩, ⟨hz⟩⟩
                      | exact ⟨tn, vn, pa, rn, ta, va, pa, rb, rfl, rfl, rfl, rfl, ⟨(HD.out.snap T3.out S3.out L3.out V3.out R3.out S4.out L4.out).swap⟩, ⟨hz⟩⟩
              case rest =>
                clear x3 x4 HD HZ
                obtain ⟨ta, va, pa, rb, tc, vc, pc, rd, rfl, rfl, rfl, rfl, HD, HZ⟩ := hcut
                generalize hwq : wc = wx at *
                clear hwq
                clear w2_
                obtain ⟨mm, hmm⟩ : ∃ mm, (if m ≤ 1000 then m else 1000) = mm := ⟨_, rfl⟩
                have hm1 : mm ≤ m ∧ mm ≤ 1000 := by rw [← hmm]; split <;> omega
                have PL := Aside0.mk (show (xs.take mm).length = mm by rw [List.length_take, HMX.out]; omega)
                have PC := Aside0.mk (C_pre14 HXR.out HMX.out mm hm1.1)
                have HM1 := Aside0.mk hm1
                have HMM := Aside0.mk hmm
                have X2 := Aside0.mk (pw_cell_below HD.out.be E2.out)
                have pcx : mm ≤ cx := by have := HCX.out; omega
                have PCX := Aside0.mk pcx
                clear hm1 hmm
                go_upto_region 18 with (fail)
                (try simp only [Act.put, List.setIfInBounds_toArray, List.set_cons_zero, List.set_cons_succ])
                go_cut [12] (fun s12 wy => ∃ (A12 : Option Addr) (c12 lo : Nat), s12 = .slice A12 mm c12 ∧ Aside0 (wx.heap.size ≤ lo) ∧ Aside0 (wy.ownsRow lo 5 1 (.slice A12 mm c12) mm (nums .u8 (xs.take mm))) ∧ Aside0 (Below wx.heap.size wx wy))
                case first =>
                  by_cases c1k : m ≤ 1000
                  all_goals
                    have hmm := HMM.out
                    (first | rw [if_pos c1k] at hmm | rw [if_neg c1k] at hmm)
                    (first | have d5k : ((1000 : Int) < (m : Int)) = False := eq_false (by omega) | have d5k : ((1000 : Int) < (m : Int)) = True := eq_true (by omega))
                    subst hmm
                    clear c1k
                    have pcx' := PCX.out
                    (try have pci : (1000 : Int) ≤ (cx : Int) := by omega)
                    have SB := Aside0.mk (below_drew (Below.refl wx.heap.size wx))
                    refine wp_region_held_drew (S := fun W' => Below wx.heap.size wx W') (by kernel_rfl) SB.out (fun hS0 => ?_)
                    have hS0 : Below wx.heap.size wx wx.drew := hS0
                    generalize wx.drew = wd at *
                    (refine wpAnyH_take (i := 0) (v := ?_) rfl (by kernel_rfl) (by kernel_rfl) (by kernel_rfl) (fun _ _ _ h => h) (Or.inl ⟨by rfl, ?_⟩) (by assumption) ?_; rotate_left; (focus (intro w_ hSw; have g2_ := (hSw.cell (World.block_lt_of_cell? _ _ X2.out)).trans X2.out; clear hSw; go_simp; try with_reducible rfl)); (try simp only [List.getElem_toArray, List.getElem_cons_zero, List.getElem_cons_succ, Act.put, List.setIfInBounds_toArray, List.set_cons_zero, List.set_cons_succ]))
                    (refine wpAnyH_take (i := 1) (v := ?_) rfl (by kernel_rfl) (by kernel_rfl) (by kernel_rfl) (fun _ _ _ h => h) (Or.inl ⟨by rfl, ?_⟩) (by assumption) ?_; rotate_left; (focus (intro w_ hSw; have g2_ := (hSw.cell (World.block_lt_of_cell? _ _ X2.out)).trans X2.out; clear hSw; go_simp; try with_reducible rfl)); (try simp only [List.getElem_toArray, List.getElem_cons_zero, List.getElem_cons_succ, Act.put, List.setIfInBounds_toArray, List.set_cons_zero, List.set_cons_succ]))
                    (refine wpAnyH_take (i := 2) (v := ?_) rfl (by kernel_rfl) (by kernel_rfl) (by kernel_rfl) (fun _ _ _ h => h) (Or.inl ⟨by rfl, ?_⟩) (by assumption) ?_; rotate_left; (focus (intro w_ hSw; have g2_ := (hSw.cell (World.block_lt_of_cell? _ _ X2.out)).trans X2.out; clear hSw; go_simp; try with_reducible rfl)); (try simp only [List.getElem_toArray, List.getElem_cons_zero, List.getElem_cons_succ, Act.put, List.setIfInBounds_toArray, List.set_cons_zero, List.set_cons_succ]))
                    (refine wpAnyH_take (i := 3) (v := ?_) rfl (by kernel_rfl) (by kernel_rfl) (by kernel_rfl) (fun _ _ _ h => h) (Or.inl ⟨by rfl, ?_⟩) (by assumption) ?_; rotate_left; (focus (intro w_ hSw; have g2_ := (hSw.cell (World.block_lt_of_cell? _ _ X2.out)).trans X2.out; clear hSw; go_simp; try with_reducible rfl)); (try simp only [List.getElem_toArray, List.getElem_cons_zero, List.getElem_cons_succ, Act.put, List.setIfInBounds_toArray, List.set_cons_zero, List.set_cons_succ]))
                    (refine wpAnyH_take (i := 4) (v := ?_) rfl (by kernel_rfl) (by kernel_rfl) (by kernel_rfl) (fun _ _ _ h => h) (Or.inl ⟨by rfl, ?_⟩) (by assumption) ?_; rotate_left; (focus (intro w_ hSw; have g2_ := (hSw.cell (World.block_lt_of_cell? _ _ X2.out)).trans X2.out; clear hSw; go_simp; try with_reducible rfl)); (try simp only [List.getElem_toArray, List.getElem_cons_zero, List.getElem_cons_succ, Act.put, List.setIfInBounds_toArray, List.set_cons_zero, List.set_cons_succ]))
                    (refine wpAnyH_take (i := 5) (v := ?_) rfl (by kernel_rfl) (by kernel_rfl) (by kernel_rfl) (fun _ _ _ h => h) (Or.inl ⟨by rfl, ?_⟩) (by assumption) ?_; rotate_left; (focus (intro w_ hSw; have g2_ := (hSw.cell (World.block_lt_of_cell? _ _ X2.out)).trans X2.out; clear hSw; go_simp; try with_reducible rfl)); (try simp only [List.getElem_toArray, List.getElem_cons_zero, List.getElem_cons_succ, Act.put, List.setIfInBounds_toArray, List.set_cons_zero, List.set_cons_succ]))
                    (refine wpAnyH_take (i := 6) (v := ?_) rfl (by kernel_rfl) (by kernel_rfl) (by kernel_rfl) (fun _ _ _ h => h) (Or.inl ⟨by rfl, ?_⟩) (by assumption) ?_; rotate_left; (focus (intro w_ hSw; have g2_ := (hSw.cell (World.block_lt_of_cell? _ _ X2.out)).trans X2.out; clear hSw; go_simp; try with_reducible rfl)); (try simp only [List.getElem_toArray, List.getElem_cons_zero, List.getElem_cons_succ, Act.put, List.setIfInBounds_toArray, List.set_cons_zero, List.set_cons_succ]))
                    (refine wpAnyH_take (i := 7) (v := ?_) rfl (by kernel_rfl) (by kernel_rfl) (by kernel_rfl) (fun _ _ _ h => h) (Or.inl ⟨by rfl, ?_⟩) (by assumption) ?_; rotate_left; (focus (intro w_ hSw; have g2_ := (hSw.cell (World.block_lt_of_cell? _ _ X2.out)).trans X2.out; clear hSw; go_simp; try with_reducible rfl)); (try simp only [List.getElem_toArray, List.getElem_cons_zero, List.getElem_cons_succ, Act.put, List.setIfInBounds_toArray, List.set_cons_zero, List.set_cons_succ]))
                    (refine wpAnyH_take (i := 8) (v := ?_) rfl (by kernel_rfl) (by kernel_rfl) (by kernel_rfl) (fun _ _ _ h => h) (Or.inl ⟨by rfl, ?_⟩) (by assumption) ?_; rotate_left; (focus (intro w_ hSw; have g2_ := (hSw.cell (World.block_lt_of_cell? _ _ X2.out)).trans X2.out; clear hSw; go_simp; try with_reducible rfl)); (try simp only [List.getElem_toArray, List.getElem_cons_zero, List.getElem_cons_succ, Act.put, List.setIfInBounds_toArray, List.set_cons_zero, List.set_cons_succ]))
                    (refine wpAnyH_take (i := 9) (v := ?_) rfl (by kernel_rfl) (by kernel_rfl) (by kernel_rfl) (fun _ _ _ h => h) (Or.inl ⟨by rfl, ?_⟩) (by assumption) ?_; rotate_left; (focus (intro w_ hSw; have g2_ := (hSw.cell (World.block_lt_of_cell? _ _ X2.out)).trans X2.out; clear hSw; go_simp; try with_reducible rfl)); (try simp only [List.getElem_toArray, List.getElem_cons_zero, List.getElem_cons_succ, Act.put, List.setIfInBounds_toArray, List.set_cons_zero, List.set_cons_succ]))
                    (refine wpAnyH_take (i := 10) (v := ?_) rfl (by kernel_rfl) (by kernel_rfl) (by kernel_rfl) (fun _ _ _ h => h) (Or.inl ⟨by rfl, ?_⟩) (by assumption) ?_; rotate_left; (focus (intro w_ hSw; have g2_ := (hSw.cell (World.block_lt_of_cell? _ _ X2.out)).trans X2.out; clear hSw; go_simp; try with_reducible rfl)); (try simp only [List.getElem_toArray, List.getElem_cons_zero, List.getElem_cons_succ, Act.put, List.setIfInBounds_toArray, List.set_cons_zero, List.set_cons_succ]))
                    (refine wpAnyH_take (i := 11) (v := ?_) rfl (by kernel_rfl) (by kernel_rfl) (by kernel_rfl) (fun _ _ _ h => h) (Or.inl ⟨by rfl, ?_⟩) (by assumption) ?_; rotate_left; (focus (intro w_ hSw; have g2_ := (hSw.cell (World.block_lt_of_cell? _ _ X2.out)).trans X2.out; clear hSw; go_simp; try with_reducible rfl)); (try simp only [List.getElem_toArray, List.getElem_cons_zero, List.getElem_cons_succ, Act.put, List.setIfInBounds_toArray, List.set_cons_zero, List.set_cons_succ]))
                    (refine wpAnyH_take (i := 12) (v := ?_) rfl (by kernel_rfl) (by kernel_rfl) (by kernel_rfl) (fun _ _ _ h => h) (Or.inl ⟨by rfl, ?_⟩) (by assumption) ?_; rotate_left; (focus (intro w_ hSw; have g2_ := (hSw.cell (World.block_lt_of_cell? _ _ X2.out)).trans X2.out; clear hSw; go_simp; try with_reducible rfl)); (try simp only [List.getElem_toArray, List.getElem_cons_zero, List.getElem_cons_succ, Act.put, List.setIfInBounds_toArray, List.set_cons_zero, List.set_cons_succ]))
                    refine wpAnyH_ready (rs := [13]) (by decide +kernel) (by simp) ?_
                    refine AllReadyH.cons (i := 13) rfl (fun K_ hK => ?_) AllReadyH.nil
                    refine step_of rfl ?_
                    (go_simp; go_at_call 12; (with_reducible refine (copy_up (Kd.C_below PC.out (HD.out.be.trans (hS0.mono HD.out.sz))) PL.out PCX.out (by have := HM1.out; omega)).mono ?_); rintro e wy ⟨v1, rfl, o_, b_⟩; obtain ⟨A12, c12, rfl⟩ := own_slice o_; have O12 := Aside0.mk o_; have B12 := Aside0.mk (below_step hS0 b_); clear o_ b_)
                    refine hK.out _ _ B12.out (fun hS1 => ?_)
                    clear hK K_; (try simp only [List.getElem_toArray, List.getElem_cons_zero, List.getElem_cons_succ, Act.put, List.setIfInBounds_toArray, List.set_cons_zero, List.set_cons_succ])
                    (refine wpAnyH_take (i := 14) (v := ?_) rfl (by kernel_rfl) (by kernel_rfl) (by kernel_rfl) (fun _ _ _ h => h) (Or.inl ⟨by rfl, ?_⟩) (by assumption) ?_; rotate_left; (focus (intro w_ hSw; clear hSw; go_simp; try with_reducible rfl)); (try simp only [List.getElem_toArray, List.getElem_cons_zero, List.getElem_cons_succ, Act.put, List.setIfInBounds_toArray, List.set_cons_zero, List.set_cons_succ]))
                    refine wpAnyH_done (by decide +kernel) ?_ _
                    go_wp2_with (fail)
                    go_meet
                    case rel => exact ⟨A12, c12, wd.heap.size, rfl, ⟨hS0.size⟩, O12, B12⟩
                case rest =>
                  obtain ⟨A12, c12, lo, rfl, LO, O12, BY⟩ := hcut
                  generalize hwq : wc = wy at *
                  clear hwq
                  have HDW := Aside0.mk HD.out.sz
                  have HDY := Aside0.mk (HD.out.tight.below BY.out)
                  have TY := Aside0.mk (fun g e => (obk_ty O12.out g e).1)
                  have TL := Aside0.mk (fun g (e : obk A12 = some g) => (show wx.heap.size ≤ g ∧ g < wy.heap.size from ⟨Nat.le_trans LO.out (obk_ty O12.out g e).2, by obtain ⟨cs, fr, hh⟩ := (obk_ty O12.out g e).1; exact blk_ltF hh⟩))
                  obtain ⟨er, her⟩ : ∃ r, errA pa.flatten.length f t = r := ⟨_, rfl⟩
                  have HER := Aside0.mk her
                  have hsz : pa.flatten.length ≤ 1200000 ∧ pa.length ≤ 200 := by have := HZ.out; have := hj.out; unfold Szs at *; omega
                  have HSZ := Aside0.mk hsz
                  clear her hsz X2
                  have pcx' := PCX.out
                  have SB := Aside0.mk (HD.out.be.trans ((BY.out).mono HD.out.sz))
                  go_upto_region 19 with (fail)
                  (try simp only [Act.put, List.setIfInBounds_toArray, List.set_cons_zero, List.set_cons_succ])
                  refine wp_region_held_drew (S := fun W' => Below w.heap.size w W') (by kernel_rfl) (SB.out.trans ((below_drew (Below.refl wy.heap.size wy)).mono (Nat.le_trans HD.out.sz BY.out.size))) (fun hS0 => ?_)
                  have HDD := Aside0.mk (HDY.out.below (below_drew (Below.refl wy.heap.size wy)))
                  have BD := Aside0.mk (below_drew (Below.refl wy.heap.size wy))
                  have hS0 : Below w.heap.size w wy.drew := hS0
                  generalize wy.drew = wd at *
                  (refine wpAnyH_take (i := 0) (v := ?_) rfl (by kernel_rfl) (by kernel_rfl) (by kernel_rfl) (fun _ _ _ h => h) (Or.inl ⟨by rfl, ?_⟩) (by assumption) ?_; rotate_left; (focus (intro w_ hSw; clear hSw; go_simp; try with_reducible rfl)); (try simp only [List.getElem_toArray, List.getElem_cons_zero, List.getElem_cons_succ, Act.put, List.setIfInBounds_toArray, List.set_cons_zero, List.set_cons_succ]))
                  (refine wpAnyH_take (i := 1) (v := ?_) rfl (by kernel_rfl) (by kernel_rfl) (by kernel_rfl) (fun _ _ _ h => h) (Or.inl ⟨by rfl, ?_⟩) (by assumption) ?_; rotate_left; (focus (intro w_ hSw; clear hSw; go_simp; try with_reducible rfl)); (try simp only [List.getElem_toArray, List.getElem_cons_zero, List.getElem_cons_succ, Act.put, List.setIfInBounds_toArray, List.set_cons_zero, List.set_cons_succ]))
                  (refine wpAnyH_take (i := 2) (v := ?_) rfl (by kernel_rfl) (by kernel_rfl) (by kernel_rfl) (fun _ _ _ h => h) (Or.inl ⟨by rfl, ?_⟩) (by assumption) ?_; rotate_left; (focus (intro w_ hSw; clear hSw; go_simp; try with_reducible rfl)); (try simp only [List.getElem_toArray, List.getElem_cons_zero, List.getElem_cons_succ, Act.put, List.setIfInBounds_toArray, List.set_cons_zero, List.set_cons_succ]))
                  (refine wpAnyH_take (i := 3) (v := ?_) rfl (by kernel_rfl) (by kernel_rfl) (by kernel_rfl) (fun _ _ _ h => h) (Or.inl ⟨by rfl, ?_⟩) (by assumption) ?_; rotate_left; (focus (intro w_ hSw; clear hSw; go_simp; try with_reducible rfl)); (try simp only [List.getElem_toArray, List.getElem_cons_zero, List.getElem_cons_succ, Act.put, List.setIfInBounds_toArray, List.set_cons_zero, List.set_cons_succ]))
                  (refine wpAnyH_take (i := 4) (v := ?_) rfl (by kernel_rfl) (by kernel_rfl) (by kernel_rfl) (fun _ _ _ h => h) (Or.inl ⟨by rfl, ?_⟩) (by assumption) ?_; rotate_left; (focus (intro w_ hSw; clear hSw; go_simp; try with_reducible rfl)); (try simp only [List.getElem_toArray, List.getElem_cons_zero, List.getElem_cons_succ, Act.put, List.setIfInBounds_toArray, List.set_cons_zero, List.set_cons_succ]))
                  (refine wpAnyH_take (i := 5) (v := ?_) rfl (by kernel_rfl) (by kernel_rfl) (by kernel_rfl) (fun _ _ _ h => h) (Or.inl ⟨by rfl, ?_⟩) (by assumption) ?_; rotate_left; (focus (intro w_ hSw; have g_ := (hSw.cell (World.block_lt_of_cell? _ _ E0.out)).trans E0.out; clear hSw; go_simp; try with_reducible rfl)); (try simp only [List.getElem_toArray, List.getElem_cons_zero, List.getElem_cons_succ, Act.put, List.setIfInBounds_toArray, List.set_cons_zero, List.set_cons_succ]))
                  (refine wpAnyH_take (i := 6) (v := ?_) rfl (by kernel_rfl) (by kernel_rfl) (by kernel_rfl) (fun _ _ _ h => h) (Or.inl ⟨by rfl, ?_⟩) (by assumption) ?_; rotate_left; (focus (intro w_ hSw; clear hSw; go_simp; try with_reducible rfl)); (try simp only [List.getElem_toArray, List.getElem_cons_zero, List.getElem_cons_succ, Act.put, List.setIfInBounds_toArray, List.set_cons_zero, List.set_cons_succ]))
                  (refine wpAnyH_take (i := 7) (v := ?_) rfl (by kernel_rfl) (by kernel_rfl) (by kernel_rfl) (fun _ _ _ h => h) (Or.inl ⟨by rfl, ?_⟩) (by assumption) ?_; rotate_left; (focus (intro w_ hSw; clear hSw; go_simp; try with_reducible rfl)); (try simp only [List.getElem_toArray, List.getElem_cons_zero, List.getElem_cons_succ, Act.put, List.setIfInBounds_toArray, List.set_cons_zero, List.set_cons_succ]))
                  (refine wpAnyH_take (i := 8) (v := ?_) rfl (by kernel_rfl) (by kernel_rfl) (by kernel_rfl) (fun _ _ _ h => h) (Or.inl ⟨by rfl, ?_⟩) (by assumption) ?_; rotate_left; (focus (intro w_ hSw; clear hSw; go_simp; try with_reducible rfl)); (try simp only [List.getElem_toArray, List.getElem_cons_zero, List.getElem_cons_succ, Act.put, List.setIfInBounds_toArray, List.set_cons_zero, List.set_cons_succ]))
                  (refine wpAnyH_take (i := 9) (v := ?_) rfl (by kernel_rfl) (by kernel_rfl) (by kernel_rfl) (fun _ _ _ h => h) (Or.inl ⟨by rfl, ?_⟩) (by assumption) ?_; rotate_left; (focus (intro w_ hSw; clear hSw; go_simp; try with_reducible rfl)); (try simp only [List.getElem_toArray, List.getElem_cons_zero, List.getElem_cons_succ, Act.put, List.setIfInBounds_toArray, List.set_cons_zero, List.set_cons_succ]))
                  (refine wpAnyH_take (i := 10) (v := ?_) rfl (by kernel_rfl) (by kernel_rfl) (by kernel_rfl) (fun _ _ _ h => h) (Or.inl ⟨by rfl, ?_⟩) (by assumption) ?_; rotate_left; (focus (intro w_ hSw; have g_ := (hSw.cell (World.block_lt_of_cell? _ _ E1.out)).trans E1.out; clear hSw; go_simp; try with_reducible rfl)); (try simp only [List.getElem_toArray, List.getElem_cons_zero, List.getElem_cons_succ, Act.put, List.setIfInBounds_toArray, List.set_cons_zero, List.set_cons_succ]))
                  (refine wpAnyH_take (i := 11) (v := ?_) rfl (by kernel_rfl) (by kernel_rfl) (by kernel_rfl) (fun _ _ _ h => h) (Or.inl ⟨by rfl, ?_⟩) (by assumption) ?_; rotate_left; (focus (intro w_ hSw; clear hSw; go_simp; try with_reducible rfl)); (try simp only [List.getElem_toArray, List.getElem_cons_zero, List.getElem_cons_succ, Act.put, List.setIfInBounds_toArray, List.set_cons_zero, List.set_cons_succ]))
                  (refine wpAnyH_take (i := 13) (v := ?_) rfl (by kernel_rfl) (by kernel_rfl) (by kernel_rfl) (fun _ _ _ h => h) (Or.inl ⟨by rfl, ?_⟩) (by assumption) ?_; rotate_left; (focus (intro w_ hSw; clear hSw; go_simp; try with_reducible rfl)); (try simp only [List.getElem_toArray, List.getElem_cons_zero, List.getElem_cons_succ, Act.put, List.setIfInBounds_toArray, List.set_cons_zero, List.set_cons_succ]))
                  (refine wpAnyH_take (i := 14) (v := ?_) rfl (by kernel_rfl) (by kernel_rfl) (by kernel_rfl) (fun _ _ _ h => h) (Or.inl ⟨by rfl, ?_⟩) (by assumption) ?_; rotate_left; (focus (intro w_ hSw; clear hSw; go_simp; try with_reducible rfl)); (try simp only [List.getElem_toArray, List.getElem_cons_zero, List.getElem_cons_succ, Act.put, List.setIfInBounds_toArray, List.set_cons_zero, List.set_cons_succ]))
                  (refine wpAnyH_take (i := 15) (v := ?_) rfl (by kernel_rfl) (by kernel_rfl) (by kernel_rfl) (fun _ _ _ h => h) (Or.inl ⟨by rfl, ?_⟩) (by assumption) ?_; rotate_left; (focus (intro w_ hSw; clear hSw; go_simp; try with_reducible rfl)); (try simp only [List.getElem_toArray, List.getElem_cons_zero, List.getElem_cons_succ, Act.put, List.setIfInBounds_toArray, List.set_cons_zero, List.set_cons_succ]))
                  (refine wpAnyH_take (i := 16) (v := ?_) rfl (by kernel_rfl) (by kernel_rfl) (by kernel_rfl) (fun _ _ _ h => h) (Or.inl ⟨by rfl, ?_⟩) (by assumption) ?_; rotate_left; (focus (intro w_ hSw; clear hSw; go_simp; try with_reducible rfl)); (try simp only [List.getElem_toArray, List.getElem_cons_zero, List.getElem_cons_succ, Act.put, List.setIfInBounds_toArray, List.set_cons_zero, List.set_cons_succ]))
                  (refine wpAnyH_take (i := 17) (v := ?_) rfl (by kernel_rfl) (by kernel_rfl) (by kernel_rfl) (fun _ _ _ h => h) (Or.inl ⟨by rfl, ?_⟩) (by assumption) ?_; rotate_left; (focus (intro w_ hSw; clear hSw; go_simp; try with_reducible rfl)); (try simp only [List.getElem_toArray, List.getElem_cons_zero, List.getElem_cons_succ, Act.put, List.setIfInBounds_toArray, List.set_cons_zero, List.set_cons_succ]))
                  (refine wpAnyH_take (i := 18) (v := ?_) rfl (by kernel_rfl) (by kernel_rfl) (by kernel_rfl) (fun _ _ _ h => h) (Or.inl ⟨by rfl, ?_⟩) (by assumption) ?_; rotate_left; (focus (intro w_ hSw; have g_ := (hSw.cell (World.block_lt_of_cell? _ _ E0.out)).trans E0.out; clear hSw; go_simp; try with_reducible rfl)); (try simp only [List.getElem_toArray, List.getElem_cons_zero, List.getElem_cons_succ, Act.put, List.setIfInBounds_toArray, List.set_cons_zero, List.set_cons_succ]))
                  (refine wpAnyH_take (i := 19) (v := ?_) rfl (by kernel_rfl) (by kernel_rfl) (by kernel_rfl) (fun _ _ _ h => h) (Or.inl ⟨by rfl, ?_⟩) (by assumption) ?_; rotate_left; (focus (intro w_ hSw; clear hSw; go_simp; try with_reducible rfl)); (try simp only [List.getElem_toArray, List.getElem_cons_zero, List.getElem_cons_succ, Act.put, List.setIfInBounds_toArray, List.set_cons_zero, List.set_cons_succ]))
                  (refine wpAnyH_take (i := 20) (v := ?_) rfl (by kernel_rfl) (by kernel_rfl) (by kernel_rfl) (fun _ _ _ h => h) (Or.inl ⟨by rfl, ?_⟩) (by assumption) ?_; rotate_left; (focus (intro w_ hSw; clear hSw; go_simp; try with_reducible rfl)); (try simp only [List.getElem_toArray, List.getElem_cons_zero, List.getElem_cons_succ, Act.put, List.setIfInBounds_toArray, List.set_cons_zero, List.set_cons_succ]))
                  (refine wpAnyH_take (i := 21) (v := ?_) rfl (by kernel_rfl) (by kernel_rfl) (by kernel_rfl) (fun _ _ _ h => h) (Or.inl ⟨by rfl, ?_⟩) (by assumption) ?_; rotate_left; (focus (intro w_ hSw; clear hSw; go_simp; try with_reducible rfl)); (try simp only [List.getElem_toArray, List.getElem_cons_zero, List.getElem_cons_succ, Act.put, List.setIfInBounds_toArray, List.set_cons_zero, List.set_cons_succ]))
                  (refine wpAnyH_take (i := 22) (v := ?_) rfl (by kernel_rfl) (by kernel_rfl) (by kernel_rfl) (fun _ _ _ h => h) (Or.inl ⟨by rfl, ?_⟩) (by assumption) ?_; rotate_left; (focus (intro w_ hSw; clear hSw; go_simp; try with_reducible rfl)); (try simp only [List.getElem_toArray, List.getElem_cons_zero, List.getElem_cons_succ, Act.put, List.setIfInBounds_toArray, List.set_cons_zero, List.set_cons_succ]))
                  (refine wpAnyH_take (i := 23) (v := ?_) rfl (by kernel_rfl) (by kernel_rfl) (by kernel_rfl) (fun _ _ _ h => h) (Or.inl ⟨by rfl, ?_⟩) (by assumption) ?_; rotate_left; (focus (intro w_ hSw; have g_ := (hSw.cell (World.block_lt_of_cell? _ _ E1.out)).trans E1.out; clear hSw; go_simp; try with_reducible rfl)); (try simp only [List.getElem_toArray, List.getElem_cons_zero, List.getElem_cons_succ, Act.put, List.setIfInBounds_toArray, List.set_cons_zero, List.set_cons_succ]))
                  (refine wpAnyH_take (i := 24) (v := ?_) rfl (by kernel_rfl) (by kernel_rfl) (by kernel_rfl) (fun _ _ _ h => h) (Or.inl ⟨by rfl, ?_⟩) (by assumption) ?_; rotate_left; (focus (intro w_ hSw; clear hSw; go_simp; try with_reducible rfl)); (try simp only [List.getElem_toArray, List.getElem_cons_zero, List.getElem_cons_succ, Act.put, List.setIfInBounds_toArray, List.set_cons_zero, List.set_cons_succ]))
                  (refine wpAnyH_take (i := 25) (v := ?_) rfl (by kernel_rfl) (by kernel_rfl) (by kernel_rfl) (fun _ _ _ h => h) (Or.inl ⟨by rfl, ?_⟩) (by assumption) ?_; rotate_left; (focus (intro w_ hSw; clear hSw; go_simp; try with_reducible rfl)); (try simp only [List.getElem_toArray, List.getElem_cons_zero, List.getElem_cons_succ, Act.put, List.setIfInBounds_toArray, List.set_cons_zero, List.set_cons_succ]))
                  (refine wpAnyH_take (i := 26) (v := ?_) rfl (by kernel_rfl) (by kernel_rfl) (by kernel_rfl) (fun _ _ _ h => h) (Or.inl ⟨by rfl, ?_⟩) (by assumption) ?_; rotate_left; (focus (intro w_ hSw; clear hSw; go_simp; try with_reducible rfl)); (try simp only [List.getElem_toArray, List.getElem_cons_zero, List.getElem_cons_succ, Act.put, List.setIfInBounds_toArray, List.set_cons_zero, List.set_cons_succ]))
                  (refine wpAnyH_take (i := 27) (v := ?_) rfl (by kernel_rfl) (by kernel_rfl) (by kernel_rfl) (fun _ _ _ h => h) (Or.inl ⟨by rfl, ?_⟩) (by assumption) ?_; rotate_left; (focus (intro w_ hSw; clear hSw; go_simp; try with_reducible rfl)); (try simp only [List.getElem_toArray, List.getElem_cons_zero, List.getElem_cons_succ, Act.put, List.setIfInBounds_toArray, List.set_cons_zero, List.set_cons_succ]))
                  (refine wpAnyH_take (i := 28) (v := ?_) rfl (by kernel_rfl) (by kernel_rfl) (by kernel_rfl) (fun _ _ _ h => h) (Or.inl ⟨by rfl, ?_⟩) (by assumption) ?_; rotate_left; (focus (intro w_ hSw; have g_ := (hSw.cell (World.block_lt_of_cell? _ _ E2.out)).trans E2.out; clear hSw; go_simp; try with_reducible rfl)); (try simp only [List.getElem_toArray, List.getElem_cons_zero, List.getElem_cons_succ, Act.put, List.setIfInBounds_toArray, List.set_cons_zero, List.set_cons_succ]))
                  (refine wpAnyH_take (i := 29) (v := ?_) rfl (by kernel_rfl) (by kernel_rfl) (by kernel_rfl) (fun _ _ _ h => h) (Or.inl ⟨by rfl, ?_⟩) (by assumption) ?_; rotate_left; (focus (intro w_ hSw; clear hSw; go_simp; try with_reducible rfl)); (try simp only [List.getElem_toArray, List.getElem_cons_zero, List.getElem_cons_succ, Act.put, List.setIfInBounds_toArray, List.set_cons_zero, List.set_cons_succ]))
                  (refine wpAnyH_take (i := 30) (v := ?_) rfl (by kernel_rfl) (by kernel_rfl) (by kernel_rfl) (fun _ _ _ h => h) (Or.inl ⟨by rfl, ?_⟩) (by assumption) ?_; rotate_left; (focus (intro w_ hSw; clear hSw; go_simp; try with_reducible rfl)); (try simp only [List.getElem_toArray, List.getElem_cons_zero, List.getElem_cons_succ, Act.put, List.setIfInBounds_toArray, List.set_cons_zero, List.set_cons_succ]))
                  (refine wpAnyH_take (i := 31) (v := ?_) rfl (by kernel_rfl) (by kernel_rfl) (by kernel_rfl) (fun _ _ _ h => h) (Or.inl ⟨by rfl, ?_⟩) (by assumption) ?_; rotate_left; (focus (intro w_ hSw; clear hSw; go_simp; try with_reducible rfl)); (try simp only [List.getElem_toArray, List.getElem_cons_zero, List.getElem_cons_succ, Act.put, List.setIfInBounds_toArray, List.set_cons_zero, List.set_cons_succ]))
                  refine wpAnyH_ready (rs := [12]) (by decide +kernel) (by simp) ?_
                  refine AllReadyH.cons (i := 12) rfl (fun K_ hK => ?_) AllReadyH.nil
                  refine step_of rfl ?_
                  (go_simp; go_at_call 19; refine (repA_calls HDD.out.a f t (by have := HSZ.out; omega) (by have := HSZ.out; omega) A12 c12 mm (xs.take mm) PL.out (own_bytes O12.out PL.out BD.out).2 (by have := HM1.out; omega) (fun h0 ad ea => ?_) HDD.out.sz).mono ?_)
                  · obtain ⟨cs, fr, hh⟩ := obk_typed_below TY.out BD.out ad.block (by rw [ea]; rfl)
                    exact ⟨fun e_ => by subst e_; exact ty_ne HDD.out.a.box hh (by decide), fun e_ => by obtain ⟨c2, h2⟩ := HDD.out.a.rowAt _ e_.symm; exact ty_ne h2 hh (by decide)⟩
                  rw [HER.out]
                  rintro e w3 ⟨rfl, L_⟩
                  have KE := Aside0.mk (left_keeps L_ HDD.out.a (obk_typed_below TY.out BD.out))
                  obtain ⟨va', J_⟩ := HDD.out.rep L_
                  have J := Aside0.mk J_
                  clear L_ J_
                  refine hK.out _ _ J.out.be (fun hS1 => ?_)
                  clear hK K_; (try simp only [List.getElem_toArray, List.getElem_cons_zero, List.getElem_cons_succ, Act.put, List.setIfInBounds_toArray, List.set_cons_zero, List.set_cons_succ])
                  refine wpAnyH_ready (rs := [32]) (by decide +kernel) (by simp) ?_
                  refine AllReadyH.cons (i := 32) rfl (fun K_ hK => ?_) AllReadyH.nil
                  refine step_of rfl ?_
                  (go_simp; go_at_call 20; refine (rep14D J.out.b HDD.out.a.full f t (by have := HSZ.out; omega) PL.out (by have := HM1.out; omega) (Kd.C_below PC.out J.out.be) PCX.out).mono ?_)
                  rw [HER.out]
                  rintro e w4 ⟨rfl, R_, g_⟩
                  have KF := Aside0.mk (rb_keeps g_ J.out.b.box (KE.out.2))
                  have HD4 := Aside0.mk (J.out.rep R_ g_ (D2 := fun g => g < wx.heap.size ∨ wd.heap.size ≤ g) (fun g hg => by
                    have hd := KE.out.1
                    rcases hg with (hg | hg) | hg
                    · exact .inl hg
                    · exact .inr hg
                    · exact .inr (Nat.le_trans hd hg)))
                  clear R_ g_
                  refine hK.out _ _ HD4.out.be (fun hS2 => ?_)
                  clear hK K_; (try simp only [List.getElem_toArray, List.getElem_cons_zero, List.getElem_cons_succ, Act.put, List.setIfInBounds_toArray, List.set_cons_zero, List.set_cons_succ])
                  (refine wpAnyH_take (i := 33) (v := ?_) rfl (by kernel_rfl) (by kernel_rfl) (by kernel_rfl) (fun _ _ _ h => h) (Or.inl ⟨by rfl, ?_⟩) (by assumption) ?_; rotate_left; (focus (intro w_ hSw; clear hSw; go_simp; try with_reducible rfl)); (try simp only [List.getElem_toArray, List.getElem_cons_zero, List.getElem_cons_succ, Act.put, List.setIfInBounds_toArray, List.set_cons_zero, List.set_cons_succ]))
                  refine wpAnyH_done (by decide +kernel) ?_ _
                  have SP4 := Aside0.mk (((SpR.of_own O12.out).below BD.out).keep (fun g e => (KF.out.1 g e).trans (KE.out.2 g e).1))
                  have TY4 := Aside0.mk (fun g e => (KF.out.2 g e))
                  have TLd := Aside0.mk (fun g (e : obk A12 = some g) => (show ¬ (g < wx.heap.size ∨ wd.heap.size ≤ g) from fun h => by have := TL.out g e; have := BD.out.size; omega))
                  have HF4 := Aside0.mk (repA_full f t (xs.take mm) HDD.out.a.full)
                  have HZ4 := Aside0.mk (show Szs (j + 1) (repA pa f t (xs.take mm)) pc by
                    have h1 := repA_flat f t (xs.take mm) HDD.out.a.full
                    have h2 := repA_len f t (xs.take mm) HDD.out.a.full
                    rw [PL.out] at h1
                    have h3 := HM1.out
                    have := HZ.out
                    unfold Szs at *; omega)
                  obtain ⟨pn, hpn⟩ : ∃ p, repA pa f t (xs.take mm) = p := ⟨_, rfl⟩
                  rw [hpn] at HD4 HZ4 HF4
                  have HS4 := Aside0.mk (show pn.flatten.length ≤ 4000000 ∧ pc.flatten.length ≤ 4000000 by have h1 := HZ4.out; have h2 := hj.out; unfold Szs at h1; omega)
                  clear HDY HDD J KE KF HD HZ O12 BY SB BD hS0 hS1 hS2 hpn
                  go_wp2_with (fail)
                  go_loopg [13] (mm + 1) (fun kq s13 wr => ∃ q : Nat, s13 = .int .i64 (q : Int) ∧ Aside0 (q ≤ mm ∧ mm < kq + q) ∧ Aside0 (SpR wr A12 mm lo) ∧ Aside0 (w4.grownBy wr (obk A12)))
                  case atStart => exact ⟨0, rfl, ⟨by omega⟩, SP4, ⟨grown_self _ _⟩⟩
                  case round =>
                    obtain ⟨q, rfl, hq, SP, SG⟩ := hrel
                    cases gk with
                    | zero => exact absurd hq.out (by omega)
                    | succ k1 =>
                      by_cases hlt : q < mm
                      · have t3 : decide (q < mm) = true := decide_eq_true hlt
                        obtain ⟨aw, y, rfl, hlo, hy, hfz⟩ := SP.out.at q hlt
                        have FL := Aside0.mk (SP.out.flat (by omega))
                        have HL := Aside0.mk hlt
                        have p3 : (0 : Int) ≤ (q : Int) := by omega
                        have p4 : (q : Int) < (mm : Int) := by omega
                        have w3_ : wrap64 ((q : Int) + 1) = (q : Int) + 1 := w64_in _ (by omega) (by have := HM1.out; omega)
                        clear hlt hlo
                        go_wp2_with (fail)
                        go_roundg k1
                        case measure => omega
                        case rel => exact ⟨q + 1, by go_num, ⟨by have := hq.out; have := HL.out; omega⟩, ⟨SP.out.set q HL.out _⟩, ⟨grown_setA SG.out q _ FL.out⟩⟩
                      · have t3 : decide (q < mm) = false := decide_eq_false hlt
                        clear hlt
                        have HD5 := Aside0.mk ((HD4.out.spoil TY4.out TLd.out (fun g e => Nat.le_trans HDW.out (TL.out g e).1) SG.out).weaken (D' := fun _ => True) (fun _ _ => trivial))
                        clear HD4 SP SG TY4 TLd
                        have w2_ := W2.out
                        go_wp2_with (first
                          | (go_at_call 15; (with_reducible refine (sameA HD5.out.a HD5.out.b.rx HS4.out.1).mono ?_); rintro e w5 ⟨rfl, b_⟩; have HD6 := Aside0.mk (HD5.out.below b_); clear b_)
                          | (go_at_call 15; (with_reducible refine (sameA HD6.out.c HD6.out.d.rx HS4.out.2).mono ?_); rintro e w6 ⟨rfl, b_⟩; have HD7 := Aside0.mk (HD6.out.below b_); clear b_))
                        go_roundg kk
                        case measure => omega
                        case rel => exact ⟨j + 1, ta, va', pn, rb, tc, vc, pc, rd, rfl, rfl, rfl, rfl, by go_num, ⟨by have := hj.out; have := HLT.out; omega⟩, HD7, HZ4⟩
            · have hjj := hj.out
              by_cases c3 : j < n1
              all_goals
                (first | have t1 : decide (j < n1) = true := decide_eq_true c3 | have t1 : decide (j < n1) = false := decide_eq_false c3)
                (first | have t2 : decide ((j : Int) < 60) = false := decide_eq_false (by omega) | skip)
                clear hlt hjj c3
                go_wp2_with (go_at_call 21; refine (works_calls _).mono ?_; rintro e w9 ⟨rfl, b_⟩; have S9 := Aside0.mk b_; clear b_)
                go_ret
                exact ⟨rfl, HD.out.be.trans (S9.out.mono HD.out.sz)⟩
end Go.Proofs.Ytfedlanbmibhkaa.P
