/- value.Copy in the printed form: by induction on the value. -/
import Derived.Test.YtfpmompdgmklmaaDoorVT
namespace Go.Proofs.YtfpmompdgmklmaaDoor.P
open Go.RowKit Go.Proofs.YtfpmompdgmklmaaDoorW.PrintWords Go.Proofs.YtfpmompdgmklmaaDoorW.PrintLast Go.Proofs.YtfpmompdgmklmaaDoorW.PrintMore
set_option linter.unusedVariables false
set_option linter.unusedSimpArgs false
mutual
def fitsV : S25 → Bool
 | ⟨_, _, _, l, n⟩ => decide (l.length * 80 ≤ 140737488355328) && (decide (n.length * 16 ≤ 140737488355328) && fitsL l)
def fitsL : List S25 → Bool
 | [] => true
 | a :: r => fitsV a && fitsL r
end
def value_Copy.f (a0 : Int) (a1 : Bool) (a2 : ByteArray) (a3 : List S25) (a4 : List ByteArray) : Option (Int × Bool × ByteArray × List S25 × List ByteArray) := if fitsV ⟨a0, a1, a2, a3, a4⟩ = true then some (a0, a1, a2, a3, a4) else none
abbrev CopyF (f0 : Int) (f1 : Bool) (f2 : ByteArray) (f3 : List S25) (f4 : List ByteArray) : Prop :=
 ∀ (A3 : Option Addr) (c3 : Nat) (A4 : Option Addr) (c4 : Nat) (w : World), Kd.C k25 w A3 f3.length f3 → f3.length ≤ c3 → Kd.C Kd.string w A4 f4.length f4 → f4.length ≤ c4 →
  Calls Tryd.prog 21 #[.agg #[.int .i64 f0, .bool f1, .string f2, .slice A3 f3.length c3, .slice A4 f4.length c4]] w fun e w' => ∃ v3_ v4_ : Value, e = .returned (.agg #[.int .i64 f0, .bool f1, .string f2, v3_, v4_]) ∧ SepV w' ⟨f0, f1, f2, f3, f4⟩ w.heap.size w'.heap.size [.int .i64 f0, .bool f1, .string f2, v3_, v4_] ∧ Below w.heap.size w w'
def mixAt (l : List S25) (i : Nat) : List (S25 × Bool) := (l.take i).map (fun x => (x, true)) ++ (l.drop i).map (fun x => (x, false))
theorem blk_from {W W0 w1 : World} (hh : W.heap = W0.heap) (hb : Below W.heap.size W w1) {g : Nat} {o : Obj} (h : W0.heap[g]? = some o) : w1.heap[g]? = some o :=
 q2_ (by rw [hh]; exact h) hb
theorem namesF {b0 base gr gb : Nat} {w3 W3 w4 : World} {vN : Value} {n : List ByteArray} (h : Kd.R Kd.string 9 w3 base (fun k => base ≤ k) vN n) (hb0 : b0 ≤ base) (hgr : gr < base) (hgb : gb < gr) (hh : W3.heap = w3.heap) (hb : Below W3.heap.size W3 w4) (u1 u2 : Value) :
  Kd.R Kd.string 9 ((w4.setCell ⟨gb, 4, none⟩ u1).setCell ⟨gb, 3, none⟩ u2) b0 (fun k => gr < k) vN n := by
 have h1 : Kd.R Kd.string 9 w3 b0 (fun k => gr < k) vN n := Kd.R_lower (Kd.qd_ h (fun k hk => by omega)) hb0
 have h2 : Kd.R Kd.string 9 W3 b0 (fun k => gr < k) vN n := Kd.R_move h1 (fun k _ => by rw [hh])
 have h3 := Kd.R_below h2 hb
 exact Kd.qs_ (p := ⟨gb, 3, none⟩) (Kd.qs_ (p := ⟨gb, 4, none⟩) h3 (fun k hk => by show k ≠ gb; omega) u1) (fun k hk => by show k ≠ gb; omega) u2
theorem listF {w0 : World} {b0 base gr gb : Nat} {w4 : World} {vL vN : Value} {ls : List (S25 × Bool)} (h : Kd.R (kmix w0) 25 w4 base (fun k => base ≤ k) vL ls) (hb0 : b0 ≤ base) (hgr : gr < base) (hgb : gb < gr) (hN : ∀ k, vN.ownBlock = some k → k < base) (u1 u2 : Value) :
  Kd.R (kmix w0) 25 ((w4.setCell ⟨gb, 4, none⟩ u1).setCell ⟨gb, 3, none⟩ u2) b0 (fun k => gr < k ∧ some k ≠ vN.ownBlock) vL ls := by
 have h1 : Kd.R (kmix w0) 25 w4 b0 (fun k => gr < k ∧ some k ≠ vN.ownBlock) vL ls := Kd.R_lower (Kd.qd_ h (fun k hk => ⟨by omega, fun e => by have := hN k e.symm; omega⟩)) hb0
 exact Kd.qs_ (p := ⟨gb, 3, none⟩) (Kd.qs_ (p := ⟨gb, 4, none⟩) h1 (fun k hk => by show k ≠ gb; omega) u1) (fun k hk => by show k ≠ gb; omega) u2
theorem names_lt {base : Nat} {ok : Nat → Prop} {w3 : World} {vN : Value} {n : List ByteArray} (h : Kd.R Kd.string 9 w3 base ok vN n) : ∀ k, vN.ownBlock = some k → k < w3.heap.size := fun k hk => by
 obtain ⟨inner, ho⟩ := Kd.R_own h
 exact own_lt ho k hk
theorem mix0 (l : List S25) : mixAt l 0 = l.map (fun x => (x, false)) := by simp [mixAt]
theorem cell_same {W W' : World} {g : Nat} (h : W'.heap[g]? = W.heap[g]?) (o : Nat) : W'.cell? ⟨g, o, none⟩ = W.cell? ⟨g, o, none⟩ := by
 unfold World.cell?
 simp only [h]
theorem frozen_same {W W' : World} {g : Nat} (h : W'.heap[g]? = W.heap[g]?) (o : Nat) : W'.frozen? ⟨g, o, none⟩ = W.frozen? ⟨g, o, none⟩ := by
 unfold World.frozen?
 simp only [h]
theorem mix_len (l : List S25) (j : Nat) : (mixAt l j).length = l.length := by simp [mixAt]; omega
theorem mix_get (l : List S25) (j : Nat) (h : j < l.length) : (mixAt l j).getD j (z25, false) = (qj_ l (j : Int), false) := by
 have h1 : (l.take j).length = j := by rw [List.length_take]; omega
 unfold mixAt qj_
 rw [Int.toNat_natCast, List.getD_eq_getElem?_getD, List.getElem?_append_right (by rw [List.length_map]; omega), List.length_map, h1, Nat.sub_self, List.getElem?_map, List.getElem?_drop, Nat.add_zero, List.getD_eq_getElem?_getD, List.getElem?_eq_getElem h]
 rfl
theorem mix_set (l : List S25) (j : Nat) (h : j < l.length) : (mixAt l j).set j (qj_ l (j : Int), true) = mixAt l (j + 1) := by
 have h1 : (l.take j).length = j := by rw [List.length_take]; omega
 unfold mixAt qj_
 rw [Int.toNat_natCast, List.getD_eq_getElem?_getD, List.getElem?_eq_getElem h, List.set_append_right _ _ (by rw [List.length_map]; omega), List.length_map, h1, Nat.sub_self, List.drop_eq_getElem_cons h, List.map_cons, List.set_cons_zero, List.take_succ_eq_append_getElem h, List.map_append, List.append_assoc]
 rfl
set_option maxHeartbeats 8000000 in
set_option maxRecDepth 100000 in
theorem copy_step (k : Int) (i : Bool) (t : ByteArray) (l : List S25) (n : List ByteArray) (hsl : l.length * 80 ≤ 140737488355328) (hsn : n.length * 16 ≤ 140737488355328) (ih : ∀ x ∈ l, CopyF x.f0 x.f1 x.f2 x.f3 x.f4) : CopyF k i t l n := by
 intro A3 c3 A4 c4 w hr3 hc3 hr4 hc4
 have kP_ := Tryd.underlying25
 have HR3 := q0_.mk hr3
 have HC3 := q0_.mk hc3
 have HR4 := q0_.mk hr4
 have HC4 := q0_.mk hc4
 have HB := q0_.mk (Below.refl w.heap.size w)
 have IH := q0_.mk ih
 clear hr3 hc3 hr4 hc4 ih
 go_enter Tryd.func21, Tryd.ntmps21
 go_upto_region 1 with (first
  | ((with_reducible refine qZ_ (N := 1) rfl ?_); refine qJ_ ?hg (N := 1) ?hd (cs := #[.int .i64 k, .bool i, .string t, .slice A3 l.length c3, .slice A4 n.length c4]) (t := 25) ?hr ?_; (case hd => rfl); (case hg => rfl); (case hr => first | (go_simp; done) | (go_simp; rfl)); intro gb hgb w1 hbox hb; have n0_ := q0_.mk (q4_ HB.out hb); have BKb := q0_.mk hbox; have GEb : q0_ (w.heap.size ≤ gb) := ⟨by rw [hgb]; exact qw_ HB.out⟩; clear HB; have HB := n0_; clear n0_ hb hbox hgb)
  | ((with_reducible refine qZ_ (N := 2) rfl ?_); refine qJ_ ?hg (N := 2) ?hd (cs := #[.int .i64 0, .bool false, .string (⟨#[]⟩ : ByteArray), .slice none 0 0, .slice none 0 0]) (t := 25) ?hr ?_; (case hd => rfl); (case hg => rfl); (case hr => first | (go_simp; done) | (go_simp; rfl)); intro gr hgr w2 hbox hb; have n0_ := q0_.mk (q4_ HB.out hb); have BKr := q0_.mk hbox; have n1_ := q0_.mk (q2_ BKb.out hb); have GEr : q0_ (gb < gr ∧ gr < w2.heap.size) := ⟨by rw [hgr]; exact ⟨qY_ BKb.out, by rw [← hgr]; exact qY_ hbox⟩⟩; clear HB BKb; have HB := n0_; have BKb := n1_; clear n0_ n1_ hb hbox hgr))
 (try simp only [Act.put, List.setIfInBounds_toArray, List.set_cons_zero, List.set_cons_succ])
 go_cut [10] (fun v10 wc => ∃ (AL : Option Addr) (cL : Nat) (vN : Value), q0_ (Kd.R (kmix w) 25 wc w.heap.size (fun k => gr < k ∧ some k ≠ vN.ownBlock) (.slice AL l.length cL) (mixAt l 0)) ∧ q0_ (Kd.R Kd.string 9 wc w.heap.size (fun k => gr < k) vN n) ∧ q0_ (wc.heap[gb]? = some (.cells #[.int .i64 k, .bool i, .string t, .slice AL l.length cL, vN] 25 (0, 0))) ∧ q0_ (wc.heap[gr]? = some (.cells #[.int .i64 0, .bool false, .string (⟨#[]⟩ : ByteArray), .slice none 0 0, .slice none 0 0] 25 (0, 0))) ∧ q0_ (Below w.heap.size w wc))
 case first =>
  have hz3 : w2.cell? ⟨gb, 3, none⟩ = some (.slice A3 l.length c3) := (q1_ BKb.out 3).trans rfl
  have hz4 : w2.cell? ⟨gb, 4, none⟩ = some (.slice A4 n.length c4) := (q1_ BKb.out 4).trans rfl
  have hf3 := q3_ BKb.out 3
  have hf4 := q3_ BKb.out 4
  go_region_with (first
   | (go_at_call 40; refine (clone40 A4 c4 n _ (Kd.qD_ HR4.out (by repeat (first | (with_reducible first | exact HB.out | apply q6_ | apply q5_ | apply below_drew) | exact HB.out))) hsn).mono ?_; rintro e w3 ⟨vN, rfl, hN, hb⟩; obtain ⟨AN, cN, rfl⟩ := Kd.qp_ hN; have HN := q0_.mk hN; have HbN := q0_.mk hb; clear hN hb; have HB3 := q0_.mk (q4_ (by repeat (first | (with_reducible first | exact HB.out | apply q6_ | apply q5_ | apply below_drew) | exact HB.out)) HbN.out); have BK3 := q0_.mk (blk_from rfl HbN.out BKb.out); have BR3 := q0_.mk (blk_from rfl HbN.out BKr.out); have hz3' : w3.cell? ⟨gb, 3, none⟩ = some (.slice A3 l.length c3) := (q1_ BK3.out 3).trans rfl)
   | (go_at_call 41; refine (clone41 A3 c3 l w _ HR3.out (by repeat (first | (with_reducible first | exact HB3.out | apply q6_ | apply q5_ | apply below_drew) | exact HB3.out)) hsl).mono ?_; rintro e w4 ⟨vL, rfl, hL, hb⟩; obtain ⟨AL, cL, rfl⟩ := Kd.qp_ hL; have HL := q0_.mk hL; have HbL := q0_.mk hb; clear hL hb; have HB4 := q0_.mk (q4_ (by repeat (first | (with_reducible first | exact HB3.out | apply q6_ | apply q5_ | apply below_drew) | exact HB3.out)) HbL.out); have BK4 := q0_.mk (blk_from rfl HbL.out BK3.out); have BR4 := q0_.mk (blk_from rfl HbL.out BR3.out); have hf3' : w4.frozen? ⟨gb, 3, none⟩ = false := q3_ BK4.out 3; have hf4' : w4.frozen? ⟨gb, 4, none⟩ = false := q3_ BK4.out 4; have hz3'' : w4.cell? ⟨gb, 3, none⟩ = some (.slice A3 l.length c3) := (q1_ BK4.out 3).trans rfl; have hz4'' : w4.cell? ⟨gb, 4, none⟩ = some (.slice A4 n.length c4) := (q1_ BK4.out 4).trans rfl))
  all_goals
   go_wp2
   go_meet
   case rel =>
    have hgg := GEr.out
    refine ⟨AL, cL, .slice AN n.length cN, ⟨?_⟩, ⟨namesF HN.out (by have := qw_ HB.out; exact this) hgg.2 hgg.1 rfl HbL.out _ _⟩, ⟨qv_ (qv_ BK4.out 4 _ rfl) 3 _ rfl⟩, ⟨blk_far (blk_far BR4.out (by show gr ≠ gb; omega) _) (by show gr ≠ gb; omega) _⟩, ⟨qq_ (qq_ HB4.out GEb.out) GEb.out⟩⟩
    rw [mix0]
    have hfin := listF HL.out (by have := qw_ HB3.out; exact this) (by have := qY_ BR3.out; exact this) hgg.1 (names_lt HN.out) (.slice AN n.length cN) (.slice AL l.length cL)
    rw [List.length_map] at hfin
    exact hfin
 case rest =>
  obtain ⟨AL, cL, vN, RL, RN, BKb, BKr, HB⟩ := hcut
  have hz3 : wc.cell? ⟨gb, 3, none⟩ = some (.slice AL l.length cL) := (q1_ BKb.out 3).trans rfl
  have HM0 : q0_ ((∀ q, vN.ownBlock = some q → q < wc.heap.size) ∧ (∀ q, (Value.slice AL l.length cL).ownBlock = some q → q < wc.heap.size) ∧ gr < wc.heap.size ∧ w.heap.size ≤ wc.heap.size) := ⟨names_lt RN.out, Kd.R_lt RL.out, qY_ BKr.out, qw_ HB.out⟩
  go_wp2_with fail
  go_loopg [16] (l.length + 1) (fun kq v16 w' => ∃ (j : Nat), v16 = .int .i64 (j : Int) ∧ q0_ (j ≤ l.length ∧ l.length < kq + j) ∧ q0_ (Kd.R (kmix w) 25 w' w.heap.size (fun k => gr < k ∧ some k ≠ vN.ownBlock) (.slice AL l.length cL) (mixAt l j)) ∧ q0_ (Kd.R Kd.string 9 w' w.heap.size (fun k => gr < k) vN n) ∧ q0_ (w'.heap[gb]? = some (.cells #[.int .i64 k, .bool i, .string t, .slice AL l.length cL, vN] 25 (0, 0))) ∧ q0_ (w'.heap[gr]? = some (.cells #[.int .i64 0, .bool false, .string (⟨#[]⟩ : ByteArray), .slice none 0 0, .slice none 0 0] 25 (0, 0))) ∧ q0_ (Below w.heap.size w w') ∧ q0_ (wc.heap.size ≤ w'.heap.size ∧ SepL w' (l.take j) wc.heap.size w'.heap.size (rowAt w' (.slice AL l.length cL) (j * 5))))
  case atStart => exact ⟨0, rfl, ⟨by omega⟩, RL, RN, BKb, BKr, HB, ⟨Nat.le_refl _, by rw [List.take_zero, SepL]; exact Nat.le_refl _⟩⟩
  case round =>
   clear hz3 RL RN BKb BKr HB
   obtain ⟨j, rfl, hj, RL, RN, BKb, BKr, HB, HSP⟩ := hrel
   cases gk with
   | zero => exact absurd hj.out (by omega)
   | succ k1 =>
    by_cases hlt : j < l.length
    ·
     obtain ⟨g, rfl⟩ : ∃ g, AL = some ⟨g, 0, none⟩ := by
      obtain ⟨inner, ho⟩ := Kd.R_own RL.out
      rcases ho.2 with ⟨hv, h0⟩ | ⟨g, cap, cur, hv, _⟩
      · rw [mix_len] at h0; omega
      ·
       injection hv with ha _ _
       exact ⟨g, ha⟩
     obtain ⟨cs, hcl, hM, hcc, hfz⟩ := Kd.R_elem RL.out (z25, false) (j : Int) (by omega) (by omega)
     rw [Int.toNat_natCast, mix_get l j hlt] at hM
     obtain ⟨X3, e3, X4, e4, rfl, le3, hx3, le4, hx4⟩ := k25_open (kmix_false' hM)
     rw [Int.toNat_natCast] at hcc hfz
     have hmem : qj_ l (j : Int) ∈ l := by
      unfold qj_
      rw [Int.toNat_natCast, List.getD_eq_getElem?_getD, List.getElem?_eq_getElem hlt]
      exact List.getElem_mem _
     generalize hx : qj_ l (j : Int) = x at hx3 hx4 le3 le4 hM hcc hmem
     have hq0 : wr.cell? ⟨g, j * 5, none⟩ = some (.int .i64 x.f0) := hcc 0 _ rfl
     have hq1 : wr.cell? ⟨g, j * 5 + 1, none⟩ = some (.bool x.f1) := hcc 1 _ rfl
     have hq2 : wr.cell? ⟨g, j * 5 + 2, none⟩ = some (.string x.f2) := hcc 2 _ rfl
     have hq3 : wr.cell? ⟨g, j * 5 + 3, none⟩ = some (.slice X3 x.f3.length e3) := hcc 3 _ rfl
     have hq4 : wr.cell? ⟨g, j * 5 + 4, none⟩ = some (.slice X4 x.f4.length e4) := hcc 4 _ rfl
     have HM := q0_.mk hM
     have HX3 := q0_.mk hx3
     have HX4 := q0_.mk hx4
     have HCC := q0_.mk hcc
     have HFZ := q0_.mk hfz
     clear hM hx3 hx4 hcc hfz
     have hjl : decide ((j : Int) < (l.length : Int)) = true := decide_eq_true (by omega)
     have p1 : 0 ≤ (j : Int) := by omega
     have p2 : (j : Int) < (l.length : Int) := by omega
     go_wp2_with (first
      | ((with_reducible refine qZ_ (N := 4) rfl ?_); refine qJ_ ?hg (N := 4) ?hd (cs := #[.int .i64 0, .bool false, .string (⟨#[]⟩ : ByteArray), .slice none 0 0, .slice none 0 0]) (t := 25) ?hr ?_; (case hd => rfl); (case hg => rfl); (case hr => first | (go_simp; done) | (go_simp; rfl)); intro gx hgx w5 hbox hb; have BX := q0_.mk hbox; have HGX := q0_.mk hgx; have HB5 := q0_.mk hb; clear hbox hgx hb; have hzx0 : w5.cell? ⟨gx, 0, none⟩ = some (.int .i64 0) := (q1_ BX.out 0).trans rfl; have hzx1 : w5.cell? ⟨gx, 1, none⟩ = some (.bool false) := (q1_ BX.out 1).trans rfl; have hzx2 : w5.cell? ⟨gx, 2, none⟩ = some (.string (⟨#[]⟩ : ByteArray)) := (q1_ BX.out 2).trans rfl; have hzx3 : w5.cell? ⟨gx, 3, none⟩ = some (.slice none 0 0) := (q1_ BX.out 3).trans rfl; have hzx4 : w5.cell? ⟨gx, 4, none⟩ = some (.slice none 0 0) := (q1_ BX.out 4).trans rfl; have hfx0 := q3_ BX.out 0; have hfx1 := q3_ BX.out 1; have hfx2 := q3_ BX.out 2; have hfx3 := q3_ BX.out 3; have hfx4 := q3_ BX.out 4)
      | ((with_reducible refine qH_ (p := 4) rfl ?_); refine qW_ (w1 := w5.setCells gx 0 [.int .i64 x.f0, .bool x.f1, .string x.f2, .slice X3 x.f3.length e3, .slice X4 x.f4.length e4]) rfl rfl rfl ?hr ?_; (case hr => first | (go_simp; done) | (go_simp; rfl)); intro w6 hw6; have HW6 := q0_.mk hw6; clear hw6 hzx0 hzx1 hzx2 hzx3 hzx4 hfx0 hfx1 hfx2 hfx3 hfx4))
     have hgg := GEr.out
     have HW := HW6.out
     have hgbr : gb < wr.heap.size := qY_ BKb.out
     have hgrr : gr < wr.heap.size := qY_ BKr.out
     have hgok := RL.out.1 g (by simp [Value.ownBlock])
     have hglt : g < wr.heap.size := by
      obtain ⟨inner, ho⟩ := Kd.R_own RL.out
      exact own_lt ho g (by simp [Value.ownBlock])
     have hgxe : gx = wr.heap.size := HGX.out
     have K6 : ∀ q, q < wr.heap.size → w6.heap[q]? = wr.heap[q]? := fun q hq => by
      rw [HW, qB_ _ _ q (by omega)]
      exact HB5.out.block q hq
     have B6 : q0_ (Below w.heap.size w w6) := ⟨by
      rw [HW]
      have h5 := q4_ HB.out HB5.out
      have hge : w.heap.size ≤ gx := by rw [hgxe]; exact qw_ HB.out
      exact qq_ (qq_ (qq_ (qq_ (qq_ h5 hge) hge) hge) hge) hge⟩
     have BX6 : q0_ (w6.heap[gx]? = some (.cells #[.int .i64 x.f0, .bool x.f1, .string x.f2, .slice X3 x.f3.length e3, .slice X4 x.f4.length e4] 25 (0, 0))) := ⟨by
      rw [HW]
      exact qv_ (qv_ (qv_ (qv_ (qv_ BX.out 0 _ rfl) 1 _ rfl) 2 _ rfl) 3 _ rfl) 4 _ rfl⟩
     have KK6 := q0_.mk K6
     have HS6 : q0_ (wr.heap.size ≤ w6.heap.size) := ⟨by rw [HW, (setCells_same _ _ _ _).2.2.2]; exact HB5.out.size⟩
     have BB6 : q0_ (w6.heap[gb]? = some (.cells #[.int .i64 k, .bool i, .string t, .slice (some ⟨g, 0, none⟩) l.length cL, vN] 25 (0, 0))) := ⟨(K6 gb hgbr).trans BKb.out⟩
     have hs3 : w6.cell? ⟨gb, 3, none⟩ = some (.slice (some ⟨g, 0, none⟩) l.length cL) := (q1_ BB6.out 3).trans rfl
     have hx0 : w6.cell? ⟨gx, 0, none⟩ = some (.int .i64 x.f0) := (q1_ BX6.out 0).trans rfl
     have hx1 : w6.cell? ⟨gx, 1, none⟩ = some (.bool x.f1) := (q1_ BX6.out 1).trans rfl
     have hx2 : w6.cell? ⟨gx, 2, none⟩ = some (.string x.f2) := (q1_ BX6.out 2).trans rfl
     have hx3 : w6.cell? ⟨gx, 3, none⟩ = some (.slice X3 x.f3.length e3) := (q1_ BX6.out 3).trans rfl
     have hx4 : w6.cell? ⟨gx, 4, none⟩ = some (.slice X4 x.f4.length e4) := (q1_ BX6.out 4).trans rfl
     have n1 : gb ≠ g := by omega
     have n2 : g ≠ gb := by omega
     have n3 : gx ≠ g := by omega
     have n4 : g ≠ gx := by omega
     have SW := q0_.mk HW
     have HBR := q0_.mk hgrr
     have HBB := q0_.mk hgbr
     have HGL := q0_.mk hglt
     have HOK := q0_.mk hgok
     have hgge : w.heap.size ≤ gr := by have := GEb.out; omega
     have HX := q0_.mk hx
     clear K6 HW HW6 hq0 hq1 hq2 hq3 hq4 hgxe hgbr hgrr hglt hgg hgok hx
     go_region_held3 (fun W => W.cell? ⟨gb, 3, none⟩ = some (.slice (some ⟨g, 0, none⟩) l.length cL) ∧ W.cell? ⟨gx, 0, none⟩ = some (.int .i64 x.f0) ∧ W.cell? ⟨gx, 1, none⟩ = some (.bool x.f1) ∧ W.cell? ⟨gx, 2, none⟩ = some (.string x.f2) ∧ W.cell? ⟨gx, 3, none⟩ = some (.slice X3 x.f3.length e3) ∧ W.cell? ⟨gx, 4, none⟩ = some (.slice X4 x.f4.length e4)) (go_keep)
      (first | (go_at_call 21; refine (IH.out x hmem X3 e3 X4 e4 _ (Kd.qD_ HX3.out (by repeat (first | (with_reducible first | exact B6.out | apply q5_ | apply below_drew) | exact B6.out))) le3 (Kd.qD_ HX4.out (by repeat (first | (with_reducible first | exact B6.out | apply q5_ | apply below_drew) | exact B6.out))) le4).mono ?_; rintro e w7 ⟨v3, v4, rfl, hsp, hb⟩; obtain ⟨ho3, ho4⟩ := sep_R hsp; have HSX := q0_.mk hsp; clear hsp; obtain ⟨Y3, d3, rfl⟩ := Kd.qp_ ho3; obtain ⟨Y4, d4, rfl⟩ := Kd.qp_ ho4; have HO3 := q0_.mk ho3; have HO4 := q0_.mk ho4; have HB7 := q0_.mk hb; clear ho3 ho4 hb; have BX7 := q0_.mk (blk_from rfl HB7.out BX6.out); have BB7 := q0_.mk (blk_from rfl HB7.out BB6.out); have hs3' : w7.cell? ⟨gb, 3, none⟩ = some (.slice (some ⟨g, 0, none⟩) l.length cL) := (q1_ BB7.out 3).trans rfl; have hx0' : w7.cell? ⟨gx, 0, none⟩ = some (.int .i64 x.f0) := (q1_ BX7.out 0).trans rfl; have hx1' : w7.cell? ⟨gx, 1, none⟩ = some (.bool x.f1) := (q1_ BX7.out 1).trans rfl; have hx2' : w7.cell? ⟨gx, 2, none⟩ = some (.string x.f2) := (q1_ BX7.out 2).trans rfl; have hx3' : w7.cell? ⟨gx, 3, none⟩ = some (.slice X3 x.f3.length e3) := (q1_ BX7.out 3).trans rfl; have hx4' : w7.cell? ⟨gx, 4, none⟩ = some (.slice X4 x.f4.length e4) := (q1_ BX7.out 4).trans rfl; have HG7 : q0_ (w7.heap[g]? = wr.heap[g]?) := ⟨(HB7.out.block g (Nat.lt_of_lt_of_le HGL.out HS6.out)).trans (KK6.out g HGL.out)⟩; have hq0 : w7.cell? ⟨g, j * 5, none⟩ = some (.int .i64 x.f0) := (cell_same HG7.out _).trans (HCC.out 0 _ rfl); have hq1 : w7.cell? ⟨g, j * 5 + 1, none⟩ = some (.bool x.f1) := (cell_same HG7.out _).trans (HCC.out 1 _ rfl); have hq2 : w7.cell? ⟨g, j * 5 + 2, none⟩ = some (.string x.f2) := (cell_same HG7.out _).trans (HCC.out 2 _ rfl); have hq3 : w7.cell? ⟨g, j * 5 + 3, none⟩ = some (.slice X3 x.f3.length e3) := (cell_same HG7.out _).trans (HCC.out 3 _ rfl); have hq4 : w7.cell? ⟨g, j * 5 + 4, none⟩ = some (.slice X4 x.f4.length e4) := (cell_same HG7.out _).trans (HCC.out 4 _ rfl); have hf0 : w7.frozen? ⟨g, j * 5, none⟩ = false := (frozen_same HG7.out _).trans (HFZ.out 0); have hf1 : w7.frozen? ⟨g, j * 5 + 1, none⟩ = false := (frozen_same HG7.out _).trans (HFZ.out 1); have hf2 : w7.frozen? ⟨g, j * 5 + 2, none⟩ = false := (frozen_same HG7.out _).trans (HFZ.out 2); have hf3 : w7.frozen? ⟨g, j * 5 + 3, none⟩ = false := (frozen_same HG7.out _).trans (HFZ.out 3); have hf4 : w7.frozen? ⟨g, j * 5 + 4, none⟩ = false := (frozen_same HG7.out _).trans (HFZ.out 4)))
     have K7 : ∀ q, q < wr.heap.size → w7.heap[q]? = wr.heap[q]? := fun q hq => (HB7.out.block q (Nat.lt_of_lt_of_le hq HS6.out)).trans (KK6.out q hq)
     have RL7 := Kd.R_step (w1 := w7) RL.out (fun q _ hq => K7 q hq)
     have RN7 := Kd.R_step (w1 := w7) RN.out (fun q _ hq => K7 q hq)
     have hvN := names_lt RN.out
     have hbase : w.heap.size ≤ w6.heap.size := B6.out.size
     have mono : ∀ q, w6.heap.size ≤ q → (gr < q ∧ some q ≠ vN.ownBlock) ∧ q ≠ g := fun q hq => ⟨⟨by have := HBR.out; have := HS6.out; omega, fun e => by have := hvN q e.symm; have := HS6.out; omega⟩, by have := HGL.out; have := HS6.out; omega⟩
     have g3 : Kd.R k25 25 w7 w.heap.size (fun q => (gr < q ∧ some q ≠ vN.ownBlock) ∧ q ≠ g) (.slice Y3 x.f3.length d3) x.f3 := Kd.R_lower (Kd.qd_ (Kd.R_bound HO3.out) (fun q hq => mono q hq.2.1)) hbase
     have g4 : Kd.R Kd.string 9 w7 w.heap.size (fun q => (gr < q ∧ some q ≠ vN.ownBlock) ∧ q ≠ g) (.slice Y4 x.f4.length d4) x.f4 := Kd.R_lower (Kd.qd_ (Kd.R_bound HO4.out) (fun q hq => mono q hq.2.1)) hbase
     have hseg := Kd.R_seg (d := kmix w) (W := w7) (xs := mixAt l j) (j := 0) (x' := (x, true)) (seg := [.int .i64 x.f0, .bool x.f1, .string x.f2, .slice Y3 x.f3.length d3, .slice Y4 x.f4.length d4]) (okp := fun q => (gr < q ∧ some q ≠ vN.ownBlock) ∧ q ≠ g) (c := [.int .i64 x.f0, .bool x.f1, .string x.f2, .slice X3 x.f3.length e3, .slice X4 x.f4.length e4]) RL7 (j : Int) p1 p2 rfl (fun q u hq => (cell_same HG7.out _).trans (HCC.out q u hq)) (Nat.le_refl 5) (kmix_true (k25_mkM w7 w.heap.size _ x g3 g4)) (fun q h => h)
     have hset : (mixAt l j).set (j : Int).toNat (x, true) = mixAt l (j + 1) := by rw [Int.toNat_natCast, ← HX.out]; exact mix_set l j hlt
     rw [hset] at hseg
     have RL8 := q0_.mk hseg.1
     have hg := hseg.2
     have hne : ∀ q, vN.ownBlock = some q → q ≠ g := fun q hq e => HOK.out.2 (by rw [hq, e])
     have RN7' : Kd.R Kd.string 9 w7 w.heap.size (fun q => gr < q ∧ q ≠ g) vN n := ⟨fun q hq => ⟨RN7.1 q hq, hne q hq⟩, RN7.2⟩
     have RN8 := q0_.mk (Kd.qd_ (ok' := fun q => gr < q) (Kd.R_grown RN7' hg (fun q hq e => hq.2 (Option.some.inj e))) (fun q hq => hq.1))
     have BB8 := q0_.mk (blk_grown BB7.out hg (fun e => n1 (Option.some.inj e)))
     have BR8 := q0_.mk (blk_grown ((K7 gr HBR.out).trans BKr.out) hg (fun e => by have := Option.some.inj e; have := HOK.out.1; omega))
     have hb7 : Below w.heap.size w w7 := q4_ (by repeat (first | (with_reducible first | exact B6.out | apply q5_ | apply below_drew) | exact B6.out)) HB7.out
     have HB8 := q0_.mk (pw_below_grown hb7 (some g) hb7.size hg (fun q hq => by obtain rfl := Option.some.inj hq; have := HOK.out.1; have := hgge; omega))
     have hw : IntKind.i64.wrap ((j : Int) + 1) = ((j + 1 : Nat) : Int) := by rw [i64_w]; unfold wrap64; omega
     have hgm : g < wc.heap.size := HM0.out.2.1 g rfl
     obtain ⟨innr, hoR⟩ := Kd.R_own RL.out
     have hoR' : wr.ownsRow w.heap.size 25 5 (.slice (some ⟨g, 0, none⟩) l.length cL) l.length innr := by rw [mix_len] at hoR; exact hoR
     have hcur : ∃ cur : Array Value, wr.heap[g]? = some (.cells cur 25 (0, 0)) ∧ (j + 1) * 5 ≤ cur.size := by
      rcases hoR'.2 with ⟨hv, h0⟩ | ⟨g', cap, cur, hv, _, hh, h1, _, h3, _⟩
      · omega
      ·
       injection hv with e1 _ e2
       injection e1 with e1
       injection e1 with e1
       subst e1
       exact ⟨cur, hh, by rw [h3]; exact Nat.mul_le_mul_right _ (by omega)⟩
     have HSP8 : q0_ (wc.heap.size ≤ (w7.setCells g (j * 5) [.int .i64 x.f0, .bool x.f1, .string x.f2, .slice Y3 x.f3.length d3, .slice Y4 x.f4.length d4]).heap.size ∧ SepL (w7.setCells g (j * 5) [.int .i64 x.f0, .bool x.f1, .string x.f2, .slice Y3 x.f3.length d3, .slice Y4 x.f4.length d4]) (l.take (j + 1)) wc.heap.size (w7.setCells g (j * 5) [.int .i64 x.f0, .bool x.f1, .string x.f2, .slice Y3 x.f3.length d3, .slice Y4 x.f4.length d4]).heap.size (rowAt (w7.setCells g (j * 5) [.int .i64 x.f0, .bool x.f1, .string x.f2, .slice Y3 x.f3.length d3, .slice Y4 x.f4.length d4]) (.slice (some ⟨g, 0, none⟩) l.length cL) ((j + 1) * 5))) := by
      obtain ⟨cur, hh, hcl⟩ := hcur
      have hs8 : (w7.setCells g (j * 5) [.int .i64 x.f0, .bool x.f1, .string x.f2, .slice Y3 x.f3.length d3, .slice Y4 x.f4.length d4]).heap.size = w7.heap.size := setCells_size _ _ _ _
      have h67 : w6.heap.size ≤ w7.heap.size := HB7.out.size
      have hr6 : wr.heap.size ≤ w6.heap.size := HS6.out
      have hh7 : w7.heap[g]? = some (.cells cur 25 (0, 0)) := (K7 g HGL.out).trans hh
      refine ⟨by rw [hs8]; have := HSP.out.1; omega, ?_⟩
      rw [rowAt_put5 hh7 hcl, hs8, rowAt_same (w := wr) (w1 := w7) (fun q hq => by have e : g = q := Option.some.inj hq; subst e; exact K7 g HGL.out)]
      have hx1 : l.take (j + 1) = l.take j ++ [x] := by
       rw [List.take_succ_eq_append_getElem (by omega)]
       congr 2
       rw [← HX.out]
       unfold qj_
       rw [Int.toNat_natCast, List.getD_eq_getElem?_getD, List.getElem?_eq_getElem hlt]
       rfl
      rw [hx1]
      refine SepL.snoc (mid := wr.heap.size) (by rw [rowAt_len hoR' j (by omega), List.length_take]; congr 1; omega) rfl (SepL.keep HSP.out.2 (fun q a1 a2 => ?_)) (SepV.lower (mid := w6.heap.size) (SepV.keep' (w := w7) ?_ (fun q a1 a2 => qB_ _ _ q (by have := HGL.out; omega))) hr6)
      · rw [qB_ _ _ q (by omega)]; exact K7 q a2
      · have := HSX.out; obtain ⟨a0, a1, a2, a3, a4⟩ := x; exact this
     clear hcur hoR hoR' hgm
     clear K7 RL7 RN7 hvN hbase mono g3 g4 hseg hset hg hne RN7' hb7 hs3 hx0 hx1 hx2 hx3 hx4 hs3' hx0' hx1' hx2' hx3' hx4' hq0 hq1 hq2 hq3 hq4 hf0 hf1 hf2 hf3 hf4
     go_wp2
     go_roundg k1
     case measure => omega
     case rel => exact ⟨j + 1, by first | rfl | (rw [hw]) | (simp [hw]), ⟨by have := hj.out; omega⟩, RL8, RN8, BB8, BR8, HB8, HSP8⟩
    ·
     obtain rfl : j = l.length := by have := hj.out; omega
     obtain ⟨AN, cN, rfl⟩ := Kd.qp_ RN.out
     have hz0 : wr.cell? ⟨gb, 0, none⟩ = some (.int .i64 k) := (q1_ BKb.out 0).trans rfl
     have hz1 : wr.cell? ⟨gb, 1, none⟩ = some (.bool i) := (q1_ BKb.out 1).trans rfl
     have hz2 : wr.cell? ⟨gb, 2, none⟩ = some (.string t) := (q1_ BKb.out 2).trans rfl
     have hz3 : wr.cell? ⟨gb, 3, none⟩ = some (.slice AL l.length cL) := (q1_ BKb.out 3).trans rfl
     have hz4 : wr.cell? ⟨gb, 4, none⟩ = some (.slice AN n.length cN) := (q1_ BKb.out 4).trans rfl
     have hr0 : wr.cell? ⟨gr, 0, none⟩ = some (.int .i64 0) := (q1_ BKr.out 0).trans rfl
     have hr1 : wr.cell? ⟨gr, 1, none⟩ = some (.bool false) := (q1_ BKr.out 1).trans rfl
     have hr2 : wr.cell? ⟨gr, 2, none⟩ = some (.string (⟨#[]⟩ : ByteArray)) := (q1_ BKr.out 2).trans rfl
     have hr3 : wr.cell? ⟨gr, 3, none⟩ = some (.slice none 0 0) := (q1_ BKr.out 3).trans rfl
     have hr4 : wr.cell? ⟨gr, 4, none⟩ = some (.slice none 0 0) := (q1_ BKr.out 4).trans rfl
     have hf0 := q3_ BKr.out 0
     have hf1 := q3_ BKr.out 1
     have hf2 := q3_ BKr.out 2
     have hf3 := q3_ BKr.out 3
     have hf4 := q3_ BKr.out 4
     have hjl : decide ((l.length : Int) < (l.length : Int)) = false := decide_eq_false (by omega)
     go_wp2_with (first
      | ((with_reducible refine qH_ (p := 2) rfl ?_); refine qW_ (w1 := wr.setCells gr 0 [.int .i64 k, .bool i, .string t, .slice AL l.length cL, .slice AN n.length cN]) rfl rfl rfl ?hr ?_; (case hr => first | (go_simp; done) | (go_simp; rfl)); intro w6 hw6; have BR6 : q0_ (w6.heap[gr]? = some (.cells #[.int .i64 k, .bool i, .string t, .slice AL l.length cL, .slice AN n.length cN] 25 (0, 0))) := ⟨by rw [hw6]; exact qv_ (qv_ (qv_ (qv_ (qv_ BKr.out 0 _ rfl) 1 _ rfl) 2 _ rfl) 3 _ rfl) 4 _ rfl⟩; have HW6 := q0_.mk hw6; clear hw6))
     have hgge : w.heap.size ≤ gr := by have := GEb.out; have := GEr.out; omega
     have K6 : ∀ q, q ≠ gr → w6.heap[q]? = wr.heap[q]? := fun q hq => by rw [HW6.out]; exact qB_ _ _ q hq
     refine bodyPost_ret (results_cell_row rfl _ _ gr 25 #[.int .i64 k, .bool i, .string t, .slice AL l.length cL, .slice AN n.length cN] (0, 0) _ rfl BR6.out Tryd.underlying25 rfl (by kernel_rfl)) rfl ?_
     refine ⟨.slice AL l.length cL, .slice AN n.length cN, rfl, ?_, ?_⟩
     ·
      obtain ⟨innr, hoR⟩ := Kd.R_own RL.out
      have hoR' : wr.ownsRow w.heap.size 25 5 (.slice AL l.length cL) l.length innr := by rw [mix_len] at hoR; exact hoR
      have hs6 : w6.heap.size = wr.heap.size := by rw [HW6.out]; exact setCells_size _ _ _ _
      have hLq : ∀ q, (Value.slice AL l.length cL).ownBlock = some q → q ≠ gr := fun q hq => by have := (RL.out.1 q hq).1; omega
      have hNq : ∀ q, (Value.slice AN n.length cN).ownBlock = some q → q ≠ gr := fun q hq => by have := RN.out.1 q hq; omega
      have hrow : rowAt w6 (.slice AL l.length cL) (l.length * 5) = innr := (rowAt_same (fun q hq => K6 q (hLq q hq))).trans (rowAt_own hoR')
      have hm := HM0.out
      have hsp := HSP.out
      rw [List.take_length] at hsp
      rw [SepV]
      refine ⟨_, _, wc.heap.size, rfl, hm.2.2.2, by rw [hs6]; exact hsp.1, fun q hq => ⟨own_base hoR' q hq, hm.2.1 q hq⟩, fun q hq => ⟨Kd.R_base RN.out q hq, hm.1 q hq, fun e => (RL.out.1 q e).2 hq.symm⟩, ?_, ?_, ?_⟩
      · rw [hrow]; exact own_less (own_move hoR' (fun q hq => K6 q (hLq q hq))) (Nat.zero_le _)
      · exact own_less (own_move (Kd.own_of_R RN.out) (fun q hq => K6 q (hNq q hq))) (Nat.zero_le _)
      ·
       rw [hs6]
       have hrow2 : rowAt w6 (.slice AL l.length cL) (l.length * 5) = rowAt wr (.slice AL l.length cL) (l.length * 5) := rowAt_same (fun q hq => K6 q (hLq q hq))
       rw [hrow2]
       exact SepL.keep hsp.2 (fun q a1 a2 => K6 q (by omega))
     ·
      rw [HW6.out]
      exact qq_ (qq_ (qq_ (qq_ (qq_ HB.out hgge) hgge) hgge) hgge) hgge
theorem mem_sizeV {x : S25} {l : List S25} (h : x ∈ l) {k : Int} {i : Bool} {t : ByteArray} {n : List ByteArray} : SizeOf.sizeOf x < SizeOf.sizeOf (S25.mk k i t l n) := by
 have := List.sizeOf_lt_of_mem h
 simp only [S25.mk.sizeOf_spec]
 omega
theorem fitsL_mem : ∀ {l : List S25} {x : S25}, fitsL l = true → x ∈ l → fitsV x = true
 | a :: r, x, h, hx => by
  rw [fitsL, Bool.and_eq_true] at h
  rcases List.mem_cons.mp hx with rfl | hx
  · exact h.1
  · exact fitsL_mem h.2 hx
theorem copy_all (m : Nat) : ∀ x : S25, SizeOf.sizeOf x ≤ m → fitsV x = true → CopyF x.f0 x.f1 x.f2 x.f3 x.f4 := by
 induction m with
 | zero => intro x hx; cases x; simp at hx
 | succ m ih =>
  intro x hx hf
  obtain ⟨k, i, t, l, n⟩ := x
  rw [fitsV, Bool.and_eq_true, Bool.and_eq_true] at hf
  exact copy_step k i t l n (of_decide_eq_true hf.1) (of_decide_eq_true hf.2.1) (fun y hy => ih y (by have := mem_sizeV hy (k := k) (i := i) (t := t) (n := n); omega) (fitsL_mem hf.2.2 hy))
theorem value_Copy.calls (z1_ : Int) (z5_ : Bool) (z3_ : ByteArray) (zj_ : Option Addr) (z9_ : Nat) (z0_ : List (S25)) (zz_ : Option Addr) (zq_ : Nat) (z2_ : List ByteArray) (r1 : Int) (r2 : Bool) (r3 : ByteArray) (r4 : List (S25)) (r5 : List ByteArray) (w : World) (jk_ : Kd.C k25 w zj_ z0_.length z0_) (jv_ : z0_.length ≤ z9_) (jx_ : Kd.C Kd.string w zz_ z2_.length z2_) (jy_ : z2_.length ≤ zq_) (h : value_Copy.f z1_ z5_ z3_ z0_ z2_ = some (r1, r2, r3, r4, r5)) :
  Calls Tryd.prog 21 #[.agg #[.int .i64 z1_, .bool z5_, .string z3_, .slice zj_ z0_.length z9_, .slice zz_ z2_.length zq_]] w fun e w' => ∃ v3_ v4_ : Value, e = .returned (.agg #[.int .i64 r1, .bool r2, .string r3, v3_, v4_]) ∧ Kd.R k25 25 w' w.heap.size (fun k_ => some k_ ≠ (v4_ : Value).ownBlock) v3_ r4 ∧ Kd.R Kd.string 9 w' w.heap.size (fun _ => True) v4_ r5 ∧ Below w.heap.size w w' := by
 unfold value_Copy.f at h
 split at h
 ·
  rename_i hf
  obtain ⟨rfl, rfl, rfl, rfl, rfl⟩ : z1_ = r1 ∧ z5_ = r2 ∧ z3_ = r3 ∧ z0_ = r4 ∧ z2_ = r5 := by simpa using h
  refine (copy_all _ ⟨z1_, z5_, z3_, z0_, z2_⟩ (Nat.le_refl _) hf zj_ z9_ zz_ zq_ w jk_ jv_ jx_ jy_).mono ?_
  rintro e w' ⟨v3, v4, rfl, hsp, hb⟩
  obtain ⟨h3, h4⟩ := sep_R hsp
  exact ⟨v3, v4, rfl, h3, h4, hb⟩
 · cases h
end Go.Proofs.YtfpmompdgmklmaaDoor.P
