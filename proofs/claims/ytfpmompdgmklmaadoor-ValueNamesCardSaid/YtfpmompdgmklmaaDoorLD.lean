/- The walk of a law of chapter 10. -/
import Derived.Test.YtfpmompdgmklmaaDoorVX
import Derived.Test.YtfpmompdgmklmaaDoorVA
namespace Go.Proofs.YtfpmompdgmklmaaDoor.P
open Go.RowKit Go.Proofs.YtfpmompdgmklmaaDoorW.PrintWords Go.Proofs.YtfpmompdgmklmaaDoorW.PrintLast Go.Proofs.YtfpmompdgmklmaaDoorW.PrintMore
set_option linter.unusedVariables false
set_option linter.unusedSimpArgs false
theorem vrow {W : World} {x y : S25} {a0 a1 a2 a3 a4 b0 b1 b2 b3 b4 : Value} (hx : Rds W x (.agg #[a0, a1, a2, a3, a4])) (hy : Rds W y (.agg #[b0, b1, b2, b3, b4])) : Kd.C k25 (W.alloc (Obj.cells #[a0, a1, a2, a3, a4, b0, b1, b2, b3, b4] 25)) (some ⟨W.heap.size, 0, none⟩) 2 [x, y] :=
 row2 k25 (e := 25) (c1 := [a0, a1, a2, a3, a4]) (c2 := [b0, b1, b2, b3, b4]) (show k25.K _ _ _ from hx.isK) rfl (show k25.K _ _ _ from hy.isK) rfl rfl
set_option maxHeartbeats 200000000 in
set_option maxRecDepth 100000 in
theorem deep_case (a b : Int) (K M : Nat) (w : World) (h1 : colophonref00_Bring.f a 201 = some (K : Int)) (h2 : colophonref00_Bring.f b 101 = some (M : Int)) (hk : K ≤ 200) (hm : M ≤ 100) (hT : TAB w) : Calls Tryd.prog 11 #[.int .i64 a, .int .i64 b] w fun e w' => e = .returned (.bool true) ∧ Below w.heap.size w w' := by
 have kP_ := Tryd.underlying25
 have HT := q0_.mk hT
 have H1 := q0_.mk h1
 have H2 := q0_.mk h2
 clear hT h1 h2
 go_enter Tryd.func11, Tryd.ntmps11
 go_upto_region 3 with (first
  | (go_at_call 34; (with_reducible refine (sem_bring H1.out).mono ?_); rintro e w1 ⟨rfl, hb⟩; have S1 := q0_.mk hb; clear hb)
  | (go_at_call 34; (with_reducible refine (sem_bring H2.out).mono ?_); rintro e w2 ⟨rfl, hb⟩; have S2 := q0_.mk hb; clear hb)
  | (go_at_call 33; refine (sem_bool true).mono ?_; rintro e w3 ⟨u, rfl, ho, hb⟩; obtain ⟨up3, up4, rfl, hu3, hu4⟩ := ho; obtain ⟨Ap3, cp3, rfl⟩ := Kd.qp_ hu3; obtain ⟨Ap4, cp4, rfl⟩ := Kd.qp_ hu4; have OWp := q0_.mk (show Own w2.heap.size w3.heap.size w3 vB (.agg #[.int .i64 1, .bool true, .string (⟨#[]⟩ : ByteArray), .slice Ap3 0 cp3, .slice Ap4 0 cp4]) from ⟨_, _, rfl, hu3, hu4⟩); have S3 := q0_.mk hb; clear hb hu3 hu4)
  | (go_at_call 35; refine (sem_nested (x := vB) K (by omega) OWp.out.vds).mono ?_; rintro e w4 ⟨u, rfl, ho, hb⟩; have HRv := q0_.mk ho; obtain ⟨Av3, cv3, Av4, cv4, rfl, -, -, -, -⟩ := ho; have S4 := q0_.mk hb; clear hb)
  | ((with_reducible refine qZ_ (N := 7) rfl ?_); refine qJ_ ?hg (N := 7) ?hd (cs := #[.int .i64 0, .bool false, .string (⟨#[]⟩ : ByteArray), .slice none 0 0, .slice none 0 0]) (t := 25) ?hr ?_; (case hd => rfl); (case hg => rfl); (case hr => first | (go_simp; done) | (go_simp; rfl)); intro gv hg wav hbox hb; have SAv := q0_.mk hb; have BAv := q0_.mk hbox; have GAv := q0_.mk hg; clear hg hb hbox; obtain ⟨zv_0, zv_1, zv_2, zv_3, zv_4, yv_0, yv_1, yv_2, yv_3, yv_4⟩ := blk5z BAv.out)
  | ((with_reducible refine qH_ (p := 7) rfl ?_); refine qW_ (w1 := wav.setCells gv 0 [(.int .i64 (qx_ K vB).f0), (.bool (qx_ K vB).f1), (.string (qx_ K vB).f2), (.slice Av3 (qx_ K vB).f3.length cv3), (.slice Av4 (qx_ K vB).f4.length cv4)]) rfl rfl rfl ?hr ?_; (case hr => first | (go_simp; done) | (go_simp; rfl)); intro w5 hw_; have BKv : q0_ (w5.heap[gv]? = some (.cells #[(.int .i64 (qx_ K vB).f0), (.bool (qx_ K vB).f1), (.string (qx_ K vB).f2), (.slice Av3 (qx_ K vB).f3.length cv3), (.slice Av4 (qx_ K vB).f4.length cv4)] 25 (0, 0))) := ⟨by rw [hw_]; exact (blk_put5 BAv.out)⟩; have S5 : q0_ (Below w4.heap.size w4 w5) := ⟨by rw [hw_]; exact (qb_ SAv.out (Nat.le_of_eq GAv.out.symm))⟩; clear hw_ SAv BAv zv_0 yv_0 zv_1 yv_1 zv_2 yv_2 zv_3 yv_3 zv_4 yv_4; have GLv : q0_ (gv < w5.heap.size) := ⟨qY_ BKv.out⟩; (try clear by_ bk_ bx_ bj_ bz_); obtain ⟨by_, bk_, bx_, bj_, bz_⟩ := qV_ BKv.out))
 (try simp only [Act.put, List.setIfInBounds_toArray, List.set_cons_zero, List.set_cons_succ])
 go_cut [8, 9] (fun s8 s9 wx => ∃ (gw : Nat) (A3 A4 : Option Addr) (c3 c4 : Nat), s8 = .pointer (some ⟨gw, 0, none⟩) ∧ s9 = .int .i64 0 ∧ q0_ (wx.heap[gw]? = some (.cells #[.int .i64 5, .bool false, .string (⟨#[]⟩ : ByteArray), .slice A3 2 c3, .slice A4 2 c4] 25 (0, 0))) ∧ q0_ (Rds wx (objV xy [qx_ K vB, qx_ M vZ]) (.agg #[.int .i64 5, .bool false, .string (⟨#[]⟩ : ByteArray), .slice A3 2 c3, .slice A4 2 c4])) ∧ q0_ (Below w5.heap.size w5 wx))
 case first =>
  have SB := q0_.mk (below_drew (Below.refl w5.heap.size w5))
  refine wp_region_held_drew (S := fun W' => Below w5.heap.size w5 W') (by kernel_rfl) SB.out (fun hS0 => ?_)
  have hS0 : Below w5.heap.size w5 w5.drew := hS0
  generalize w5.drew = V0 at *
  (refine wpAnyH_take (i := 1) (v := ?_) rfl (by kernel_rfl) (by kernel_rfl) (by kernel_rfl) (fun _ _ _ h => h) (Or.inl ⟨by rfl, ?_⟩) (by assumption) ?_; rotate_left; (focus (intro w_ hSw; have e0_ := (hSw.cell (p := ⟨gv, 0, none⟩) GLv.out).trans by_; have e1_ := (hSw.cell (p := ⟨gv, 1, none⟩) GLv.out).trans bk_; have e2_ := (hSw.cell (p := ⟨gv, 2, none⟩) GLv.out).trans bx_; have e3_ := (hSw.cell (p := ⟨gv, 3, none⟩) GLv.out).trans bj_; have e4_ := (hSw.cell (p := ⟨gv, 4, none⟩) GLv.out).trans bz_; clear hSw; go_simp; try with_reducible rfl)); (try simp only [gA_, gB_, gC_, Act.put, gD_, gE_, gF_]))
  (refine wpAnyH_take (i := 3) (v := ?_) rfl (by kernel_rfl) (by kernel_rfl) (by kernel_rfl) (fun _ _ _ h => h) (Or.inl ⟨by rfl, ?_⟩) (by assumption) ?_; rotate_left; (focus (intro w_ hSw; clear hSw; go_simp; try with_reducible rfl)); (try simp only [gA_, gB_, gC_, Act.put, gD_, gE_, gF_]))
  refine wpAnyH_ready (rs := [0, 2, 10]) (by decide +kernel) (by simp) ?_
  refine (AllReadyH.cons (i := 0) rfl (fun K_ hK => ?_) (AllReadyH.cons (i := 2) rfl (fun K_ hK => ?_) (AllReadyH.cons (i := 10) rfl (fun K_ hK => ?_) AllReadyH.nil)))
  refine qK_ rfl ?_
  go_simp
  refine hK.out _ _ (q6_ SB.out _) (fun hS1 => ?_)
  clear hK K_; (try simp only [gA_, gB_, gC_, Act.put, gD_, gE_, gF_])
  have hb_ := q6_ (Below.refl V0.heap.size V0) (Obj.cells #[.string (⟨#[120]⟩ : ByteArray), .string (⟨#[121]⟩ : ByteArray)] 9)
  obtain ⟨b1, hg_⟩ : ∃ g, g = V0.heap.size := ⟨_, rfl⟩
  have CN := q0_.mk (rowN V0 9)
  rw [← hg_] at CN
  generalize V0.alloc (Obj.cells #[.string (⟨#[120]⟩ : ByteArray), .string (⟨#[121]⟩ : ByteArray)] 9) = V1 at *
  rw [← hg_]
  clear hg_
  replace SB := q0_.mk (q4_ SB.out hb_)
  clear hb_
  refine wpAnyH_ready (rs := [2, 10]) (by decide +kernel) (by simp) ?_
  refine (AllReadyH.cons (i := 2) rfl (fun K_ hK => ?_) (AllReadyH.cons (i := 10) rfl (fun K_ hK => ?_) AllReadyH.nil))
  refine qK_ rfl ?_
  (go_simp; go_at_call 32; refine (sem_text (⟨#[122]⟩ : ByteArray)).mono ?_; rintro e V2 ⟨u, rfl, ho, hb_⟩; obtain ⟨u3, u4, rfl, hu3, hu4⟩ := ho; obtain ⟨Az3, cz3, rfl⟩ := Kd.qp_ hu3; obtain ⟨Az4, cz4, rfl⟩ := Kd.qp_ hu4; have OWz := q0_.mk (show Own _ _ V2 vZ _ from ⟨_, _, rfl, hu3, hu4⟩); clear hu3 hu4)
  refine hK.out _ _ (q4_ SB.out hb_) (fun hS1 => ?_)
  clear hK K_; (try simp only [gA_, gB_, gC_, Act.put, gD_, gE_, gF_])
  replace CN := q0_.mk (Kd.qD_ CN.out hb_)
  replace SB := q0_.mk (q4_ SB.out hb_)
  clear hb_
  refine wpAnyH_ready (rs := [4, 10]) (by decide +kernel) (by simp) ?_
  refine (AllReadyH.cons (i := 4) rfl (fun K_ hK => ?_) (AllReadyH.cons (i := 10) rfl (fun K_ hK => ?_) AllReadyH.nil))
  refine qK_ rfl ?_
  (go_simp; go_at_call 35; refine (sem_nested (x := vZ) M (by omega) OWz.out.vds).mono ?_; rintro e V3 ⟨u, rfl, ho, hb_⟩; have HRy := q0_.mk ho; obtain ⟨Ay3, cy3, Ay4, cy4, rfl, -, -, -, -⟩ := ho)
  refine hK.out _ _ (q4_ SB.out hb_) (fun hS1 => ?_)
  clear hK K_; (try simp only [gA_, gB_, gC_, Act.put, gD_, gE_, gF_])
  replace CN := q0_.mk (Kd.qD_ CN.out hb_)
  replace SB := q0_.mk (q4_ SB.out hb_)
  clear hb_
  refine wpAnyH_ready (rs := [5, 10]) (by decide +kernel) (by simp) ?_
  refine (AllReadyH.cons (i := 5) rfl (fun K_ hK => ?_) (AllReadyH.cons (i := 10) rfl (fun K_ hK => ?_) AllReadyH.nil))
  refine qK_ rfl ?_
  go_simp
  refine hK.out _ _ (q6_ SB.out _) (fun hS1 => ?_)
  clear hK K_; (try simp only [gA_, gB_, gC_, Act.put, gD_, gE_, gF_])
  have hb_ := q6_ (Below.refl V3.heap.size V3) (Obj.cells #[.int .i64 (qx_ K vB).f0, .bool (qx_ K vB).f1, .string (qx_ K vB).f2, .slice Av3 (qx_ K vB).f3.length cv3, .slice Av4 (qx_ K vB).f4.length cv4, .int .i64 (qx_ M vZ).f0, .bool (qx_ M vZ).f1, .string (qx_ M vZ).f2, .slice Ay3 (qx_ M vZ).f3.length cy3, .slice Ay4 (qx_ M vZ).f4.length cy4] 25)
  obtain ⟨b4, hg_⟩ : ∃ g, g = V3.heap.size := ⟨_, rfl⟩
  have CV := q0_.mk (vrow ((HRv.out.below S5.out).below SB.out) HRy.out)
  rw [← hg_] at CV
  generalize V3.alloc (Obj.cells #[.int .i64 (qx_ K vB).f0, .bool (qx_ K vB).f1, .string (qx_ K vB).f2, .slice Av3 (qx_ K vB).f3.length cv3, .slice Av4 (qx_ K vB).f4.length cv4, .int .i64 (qx_ M vZ).f0, .bool (qx_ M vZ).f1, .string (qx_ M vZ).f2, .slice Ay3 (qx_ M vZ).f3.length cy3, .slice Ay4 (qx_ M vZ).f4.length cy4] 25) = V4 at *
  rw [← hg_]
  clear hg_
  replace CN := q0_.mk (Kd.qD_ CN.out hb_)
  replace SB := q0_.mk (q4_ SB.out hb_)
  clear hb_
  refine wpAnyH_ready (rs := [6, 10]) (by decide +kernel) (by simp) ?_
  refine (AllReadyH.cons (i := 6) rfl (fun K_ hK => ?_) (AllReadyH.cons (i := 10) rfl (fun K_ hK => ?_) AllReadyH.nil))
  refine qK_ rfl ?_
  (go_simp; go_at_call 27; refine (sem_make (n := xy) (l := [qx_ K vB, qx_ M vZ]) CN.out (by decide) CV.out (Nat.le_refl _) rfl (fit_two (fit_v K) (fit_z M))).mono ?_; rintro e V5 ⟨u, rfl, ho, hb_⟩; obtain ⟨u3, u4, rfl, hu3, hu4⟩ := ho; obtain ⟨Aw3, cw3, rfl⟩ := Kd.qp_ hu3; obtain ⟨Aw4, cw4, rfl⟩ := Kd.qp_ hu4; have OWw := q0_.mk (show Own _ _ V5 (objV xy [qx_ K vB, qx_ M vZ]) _ from ⟨_, _, rfl, hu3, hu4⟩); clear hu3 hu4 CN CV)
  refine hK.out _ _ (q4_ SB.out hb_) (fun hS1 => ?_)
  clear hK K_; (try simp only [gA_, gB_, gC_, Act.put, gD_, gE_, gF_])
  replace SB := q0_.mk (q4_ SB.out hb_)
  clear hb_
  (refine wpAnyH_take (i := 7) (v := ?_) rfl (by kernel_rfl) (by kernel_rfl) (by kernel_rfl) (fun _ _ _ h => h) (Or.inl ⟨by rfl, ?_⟩) (by assumption) ?_; rotate_left; (focus (intro w_ hSw; clear hSw; go_simp; try with_reducible rfl)); (try simp only [gA_, gB_, gC_, Act.put, gD_, gE_, gF_]))
  (refine wpAnyH_take (i := 8) (v := ?_) rfl (by kernel_rfl) (by kernel_rfl) (by kernel_rfl) (fun _ _ _ h => h) (Or.inl ⟨by rfl, ?_⟩) (by assumption) ?_; rotate_left; (focus (intro w_ hSw; clear hSw; go_simp; try with_reducible rfl)); (try simp only [gA_, gB_, gC_, Act.put, gD_, gE_, gF_]))
  (refine wpAnyH_take (i := 9) (v := ?_) rfl (by kernel_rfl) (by kernel_rfl) (by kernel_rfl) (fun _ _ _ h => h) (Or.inl ⟨by rfl, ?_⟩) (by assumption) ?_; rotate_left; (focus (intro w_ hSw; clear hSw; go_simp; try with_reducible rfl)); (try simp only [gA_, gB_, gC_, Act.put, gD_, gE_, gF_]))
  refine wpAnyH_ready (rs := [10]) (by decide +kernel) (by simp) ?_
  refine (AllReadyH.cons (i := 10) rfl (fun K_ hK => ?_) AllReadyH.nil)
  refine qK_ rfl ?_
  go_simp
  refine hK.out _ _ (q6_ SB.out _) (fun hS1 => ?_)
  clear hK K_; (try simp only [gA_, gB_, gC_, Act.put, gD_, gE_, gF_])
  have hb_ := q6_ (Below.refl V5.heap.size V5) (Obj.cells #[.int .i64 0, .bool false, .string (⟨#[]⟩ : ByteArray), .slice none 0 0, .slice none 0 0] 25)
  obtain ⟨b6, hg_⟩ : ∃ g, g = V5.heap.size := ⟨_, rfl⟩
  have ZB := q0_.mk (blk_new V5 (Obj.cells #[.int .i64 0, .bool false, .string (⟨#[]⟩ : ByteArray), .slice none 0 0, .slice none 0 0] 25))
  rw [← hg_] at ZB
  have ZG := q0_.mk (show w5.heap.size ≤ b6 from hg_ ▸ SB.out.size)
  have ZF := q0_.mk (Nat.le_of_eq hg_.symm)
  generalize V5.alloc (Obj.cells #[.int .i64 0, .bool false, .string (⟨#[]⟩ : ByteArray), .slice none 0 0, .slice none 0 0] 25) = V6 at *
  rw [← hg_]
  clear hg_
  replace OWw := q0_.mk (OWw.out.below hb_)
  replace SB := q0_.mk (q4_ SB.out hb_)
  clear hb_
  rotate_left 1
  refine qK_ rfl ?_
  go_simp
  refine hK.out _ _ (q6_ SB.out _) (fun hS1 => ?_)
  clear hK K_; (try simp only [gA_, gB_, gC_, Act.put, gD_, gE_, gF_])
  have hb_ := q6_ (Below.refl V4.heap.size V4) (Obj.cells #[.int .i64 0, .bool false, .string (⟨#[]⟩ : ByteArray), .slice none 0 0, .slice none 0 0] 25)
  obtain ⟨b7, hg_⟩ : ∃ g, g = V4.heap.size := ⟨_, rfl⟩
  have ZB := q0_.mk (blk_new V4 (Obj.cells #[.int .i64 0, .bool false, .string (⟨#[]⟩ : ByteArray), .slice none 0 0, .slice none 0 0] 25))
  rw [← hg_] at ZB
  have ZG := q0_.mk (show w5.heap.size ≤ b7 from hg_ ▸ SB.out.size)
  generalize V4.alloc (Obj.cells #[.int .i64 0, .bool false, .string (⟨#[]⟩ : ByteArray), .slice none 0 0, .slice none 0 0] 25) = V7 at *
  rw [← hg_]
  clear hg_
  replace CN := q0_.mk (Kd.qD_ CN.out hb_)
  replace CV := q0_.mk (Kd.qD_ CV.out hb_)
  replace SB := q0_.mk (q4_ SB.out hb_)
  clear hb_
  rotate_left 1
  refine qK_ rfl ?_
  go_simp
  refine hK.out _ _ (q6_ SB.out _) (fun hS1 => ?_)
  clear hK K_; (try simp only [gA_, gB_, gC_, Act.put, gD_, gE_, gF_])
  have hb_ := q6_ (Below.refl V3.heap.size V3) (Obj.cells #[.int .i64 0, .bool false, .string (⟨#[]⟩ : ByteArray), .slice none 0 0, .slice none 0 0] 25)
  obtain ⟨b8, hg_⟩ : ∃ g, g = V3.heap.size := ⟨_, rfl⟩
  have ZB := q0_.mk (blk_new V3 (Obj.cells #[.int .i64 0, .bool false, .string (⟨#[]⟩ : ByteArray), .slice none 0 0, .slice none 0 0] 25))
  rw [← hg_] at ZB
  have ZG := q0_.mk (show w5.heap.size ≤ b8 from hg_ ▸ SB.out.size)
  generalize V3.alloc (Obj.cells #[.int .i64 0, .bool false, .string (⟨#[]⟩ : ByteArray), .slice none 0 0, .slice none 0 0] 25) = V8 at *
  rw [← hg_]
  clear hg_
  replace CN := q0_.mk (Kd.qD_ CN.out hb_)
  replace HRy := q0_.mk (HRy.out.below hb_)
  replace SB := q0_.mk (q4_ SB.out hb_)
  clear hb_
  refine wpAnyH_ready (rs := [5]) (by decide +kernel) (by simp) ?_
  refine (AllReadyH.cons (i := 5) rfl (fun K_ hK => ?_) AllReadyH.nil)
  refine qK_ rfl ?_
  go_simp
  refine hK.out _ _ (q6_ SB.out _) (fun hS1 => ?_)
  clear hK K_; (try simp only [gA_, gB_, gC_, Act.put, gD_, gE_, gF_])
  have hb_ := q6_ (Below.refl V8.heap.size V8) (Obj.cells #[.int .i64 (qx_ K vB).f0, .bool (qx_ K vB).f1, .string (qx_ K vB).f2, .slice Av3 (qx_ K vB).f3.length cv3, .slice Av4 (qx_ K vB).f4.length cv4, .int .i64 (qx_ M vZ).f0, .bool (qx_ M vZ).f1, .string (qx_ M vZ).f2, .slice Ay3 (qx_ M vZ).f3.length cy3, .slice Ay4 (qx_ M vZ).f4.length cy4] 25)
  obtain ⟨b9, hg_⟩ : ∃ g, g = V8.heap.size := ⟨_, rfl⟩
  have CV := q0_.mk (vrow ((HRv.out.below S5.out).below SB.out) HRy.out)
  rw [← hg_] at CV
  generalize V8.alloc (Obj.cells #[.int .i64 (qx_ K vB).f0, .bool (qx_ K vB).f1, .string (qx_ K vB).f2, .slice Av3 (qx_ K vB).f3.length cv3, .slice Av4 (qx_ K vB).f4.length cv4, .int .i64 (qx_ M vZ).f0, .bool (qx_ M vZ).f1, .string (qx_ M vZ).f2, .slice Ay3 (qx_ M vZ).f3.length cy3, .slice Ay4 (qx_ M vZ).f4.length cy4] 25) = V9 at *
  rw [← hg_]
  clear hg_
  replace CN := q0_.mk (Kd.qD_ CN.out hb_)
  replace ZB := q0_.mk (q2_ ZB.out hb_)
  replace SB := q0_.mk (q4_ SB.out hb_)
  clear hb_
  rotate_left 1
  refine qK_ rfl ?_
  go_simp
  refine hK.out _ _ (q6_ SB.out _) (fun hS1 => ?_)
  clear hK K_; (try simp only [gA_, gB_, gC_, Act.put, gD_, gE_, gF_])
  have hb_ := q6_ (Below.refl V2.heap.size V2) (Obj.cells #[.int .i64 0, .bool false, .string (⟨#[]⟩ : ByteArray), .slice none 0 0, .slice none 0 0] 25)
  obtain ⟨b10, hg_⟩ : ∃ g, g = V2.heap.size := ⟨_, rfl⟩
  have ZB := q0_.mk (blk_new V2 (Obj.cells #[.int .i64 0, .bool false, .string (⟨#[]⟩ : ByteArray), .slice none 0 0, .slice none 0 0] 25))
  rw [← hg_] at ZB
  have ZG := q0_.mk (show w5.heap.size ≤ b10 from hg_ ▸ SB.out.size)
  generalize V2.alloc (Obj.cells #[.int .i64 0, .bool false, .string (⟨#[]⟩ : ByteArray), .slice none 0 0, .slice none 0 0] 25) = V10 at *
  rw [← hg_]
  clear hg_
  replace CN := q0_.mk (Kd.qD_ CN.out hb_)
  replace OWz := q0_.mk (OWz.out.below hb_)
  replace SB := q0_.mk (q4_ SB.out hb_)
  clear hb_
  refine wpAnyH_ready (rs := [4]) (by decide +kernel) (by simp) ?_
  refine (AllReadyH.cons (i := 4) rfl (fun K_ hK => ?_) AllReadyH.nil)
  refine qK_ rfl ?_
  (go_simp; go_at_call 35; refine (sem_nested (x := vZ) M (by omega) OWz.out.vds).mono ?_; rintro e V11 ⟨u, rfl, ho, hb_⟩; have HRy := q0_.mk ho; obtain ⟨Ay3, cy3, Ay4, cy4, rfl, -, -, -, -⟩ := ho)
  refine hK.out _ _ (q4_ SB.out hb_) (fun hS1 => ?_)
  clear hK K_; (try simp only [gA_, gB_, gC_, Act.put, gD_, gE_, gF_])
  replace CN := q0_.mk (Kd.qD_ CN.out hb_)
  replace ZB := q0_.mk (q2_ ZB.out hb_)
  replace SB := q0_.mk (q4_ SB.out hb_)
  clear hb_
  refine wpAnyH_ready (rs := [5]) (by decide +kernel) (by simp) ?_
  refine (AllReadyH.cons (i := 5) rfl (fun K_ hK => ?_) AllReadyH.nil)
  refine qK_ rfl ?_
  go_simp
  refine hK.out _ _ (q6_ SB.out _) (fun hS1 => ?_)
  clear hK K_; (try simp only [gA_, gB_, gC_, Act.put, gD_, gE_, gF_])
  have hb_ := q6_ (Below.refl V11.heap.size V11) (Obj.cells #[.int .i64 (qx_ K vB).f0, .bool (qx_ K vB).f1, .string (qx_ K vB).f2, .slice Av3 (qx_ K vB).f3.length cv3, .slice Av4 (qx_ K vB).f4.length cv4, .int .i64 (qx_ M vZ).f0, .bool (qx_ M vZ).f1, .string (qx_ M vZ).f2, .slice Ay3 (qx_ M vZ).f3.length cy3, .slice Ay4 (qx_ M vZ).f4.length cy4] 25)
  obtain ⟨b12, hg_⟩ : ∃ g, g = V11.heap.size := ⟨_, rfl⟩
  have CV := q0_.mk (vrow ((HRv.out.below S5.out).below SB.out) HRy.out)
  rw [← hg_] at CV
  generalize V11.alloc (Obj.cells #[.int .i64 (qx_ K vB).f0, .bool (qx_ K vB).f1, .string (qx_ K vB).f2, .slice Av3 (qx_ K vB).f3.length cv3, .slice Av4 (qx_ K vB).f4.length cv4, .int .i64 (qx_ M vZ).f0, .bool (qx_ M vZ).f1, .string (qx_ M vZ).f2, .slice Ay3 (qx_ M vZ).f3.length cy3, .slice Ay4 (qx_ M vZ).f4.length cy4] 25) = V12 at *
  rw [← hg_]
  clear hg_
  replace CN := q0_.mk (Kd.qD_ CN.out hb_)
  replace ZB := q0_.mk (q2_ ZB.out hb_)
  replace SB := q0_.mk (q4_ SB.out hb_)
  clear hb_
  rotate_left 1
  refine qK_ rfl ?_
  go_simp
  refine hK.out _ _ (q6_ SB.out _) (fun hS1 => ?_)
  clear hK K_; (try simp only [gA_, gB_, gC_, Act.put, gD_, gE_, gF_])
  have hb_ := q6_ (Below.refl V1.heap.size V1) (Obj.cells #[.int .i64 0, .bool false, .string (⟨#[]⟩ : ByteArray), .slice none 0 0, .slice none 0 0] 25)
  obtain ⟨b13, hg_⟩ : ∃ g, g = V1.heap.size := ⟨_, rfl⟩
  have ZB := q0_.mk (blk_new V1 (Obj.cells #[.int .i64 0, .bool false, .string (⟨#[]⟩ : ByteArray), .slice none 0 0, .slice none 0 0] 25))
  rw [← hg_] at ZB
  have ZG := q0_.mk (show w5.heap.size ≤ b13 from hg_ ▸ SB.out.size)
  generalize V1.alloc (Obj.cells #[.int .i64 0, .bool false, .string (⟨#[]⟩ : ByteArray), .slice none 0 0, .slice none 0 0] 25) = V13 at *
  rw [← hg_]
  clear hg_
  replace CN := q0_.mk (Kd.qD_ CN.out hb_)
  replace SB := q0_.mk (q4_ SB.out hb_)
  clear hb_
  refine wpAnyH_ready (rs := [2]) (by decide +kernel) (by simp) ?_
  refine (AllReadyH.cons (i := 2) rfl (fun K_ hK => ?_) AllReadyH.nil)
  refine qK_ rfl ?_
  (go_simp; go_at_call 32; refine (sem_text (⟨#[122]⟩ : ByteArray)).mono ?_; rintro e V14 ⟨u, rfl, ho, hb_⟩; obtain ⟨u3, u4, rfl, hu3, hu4⟩ := ho; obtain ⟨Az3, cz3, rfl⟩ := Kd.qp_ hu3; obtain ⟨Az4, cz4, rfl⟩ := Kd.qp_ hu4; have OWz := q0_.mk (show Own _ _ V14 vZ _ from ⟨_, _, rfl, hu3, hu4⟩); clear hu3 hu4)
  refine hK.out _ _ (q4_ SB.out hb_) (fun hS1 => ?_)
  clear hK K_; (try simp only [gA_, gB_, gC_, Act.put, gD_, gE_, gF_])
  replace CN := q0_.mk (Kd.qD_ CN.out hb_)
  replace ZB := q0_.mk (q2_ ZB.out hb_)
  replace SB := q0_.mk (q4_ SB.out hb_)
  clear hb_
  refine wpAnyH_ready (rs := [4]) (by decide +kernel) (by simp) ?_
  refine (AllReadyH.cons (i := 4) rfl (fun K_ hK => ?_) AllReadyH.nil)
  refine qK_ rfl ?_
  (go_simp; go_at_call 35; refine (sem_nested (x := vZ) M (by omega) OWz.out.vds).mono ?_; rintro e V15 ⟨u, rfl, ho, hb_⟩; have HRy := q0_.mk ho; obtain ⟨Ay3, cy3, Ay4, cy4, rfl, -, -, -, -⟩ := ho)
  refine hK.out _ _ (q4_ SB.out hb_) (fun hS1 => ?_)
  clear hK K_; (try simp only [gA_, gB_, gC_, Act.put, gD_, gE_, gF_])
  replace CN := q0_.mk (Kd.qD_ CN.out hb_)
  replace ZB := q0_.mk (q2_ ZB.out hb_)
  replace SB := q0_.mk (q4_ SB.out hb_)
  clear hb_
  refine wpAnyH_ready (rs := [5]) (by decide +kernel) (by simp) ?_
  refine (AllReadyH.cons (i := 5) rfl (fun K_ hK => ?_) AllReadyH.nil)
  refine qK_ rfl ?_
  go_simp
  refine hK.out _ _ (q6_ SB.out _) (fun hS1 => ?_)
  clear hK K_; (try simp only [gA_, gB_, gC_, Act.put, gD_, gE_, gF_])
  have hb_ := q6_ (Below.refl V15.heap.size V15) (Obj.cells #[.int .i64 (qx_ K vB).f0, .bool (qx_ K vB).f1, .string (qx_ K vB).f2, .slice Av3 (qx_ K vB).f3.length cv3, .slice Av4 (qx_ K vB).f4.length cv4, .int .i64 (qx_ M vZ).f0, .bool (qx_ M vZ).f1, .string (qx_ M vZ).f2, .slice Ay3 (qx_ M vZ).f3.length cy3, .slice Ay4 (qx_ M vZ).f4.length cy4] 25)
  obtain ⟨b16, hg_⟩ : ∃ g, g = V15.heap.size := ⟨_, rfl⟩
  have CV := q0_.mk (vrow ((HRv.out.below S5.out).below SB.out) HRy.out)
  rw [← hg_] at CV
  generalize V15.alloc (Obj.cells #[.int .i64 (qx_ K vB).f0, .bool (qx_ K vB).f1, .string (qx_ K vB).f2, .slice Av3 (qx_ K vB).f3.length cv3, .slice Av4 (qx_ K vB).f4.length cv4, .int .i64 (qx_ M vZ).f0, .bool (qx_ M vZ).f1, .string (qx_ M vZ).f2, .slice Ay3 (qx_ M vZ).f3.length cy3, .slice Ay4 (qx_ M vZ).f4.length cy4] 25) = V16 at *
  rw [← hg_]
  clear hg_
  replace CN := q0_.mk (Kd.qD_ CN.out hb_)
  replace ZB := q0_.mk (q2_ ZB.out hb_)
  replace SB := q0_.mk (q4_ SB.out hb_)
  clear hb_
  rotate_left 1
  refine qK_ rfl ?_
  (go_simp; go_at_call 32; refine (sem_text (⟨#[122]⟩ : ByteArray)).mono ?_; rintro e V17 ⟨u, rfl, ho, hb_⟩; obtain ⟨u3, u4, rfl, hu3, hu4⟩ := ho; obtain ⟨Az3, cz3, rfl⟩ := Kd.qp_ hu3; obtain ⟨Az4, cz4, rfl⟩ := Kd.qp_ hu4; have OWz := q0_.mk (show Own _ _ V17 vZ _ from ⟨_, _, rfl, hu3, hu4⟩); clear hu3 hu4)
  refine hK.out _ _ (q4_ SB.out hb_) (fun hS1 => ?_)
  clear hK K_; (try simp only [gA_, gB_, gC_, Act.put, gD_, gE_, gF_])
  replace SB := q0_.mk (q4_ SB.out hb_)
  clear hb_
  refine wpAnyH_ready (rs := [0, 4, 10]) (by decide +kernel) (by simp) ?_
  refine (AllReadyH.cons (i := 0) rfl (fun K_ hK => ?_) (AllReadyH.cons (i := 4) rfl (fun K_ hK => ?_) (AllReadyH.cons (i := 10) rfl (fun K_ hK => ?_) AllReadyH.nil)))
  refine qK_ rfl ?_
  go_simp
  refine hK.out _ _ (q6_ SB.out _) (fun hS1 => ?_)
  clear hK K_; (try simp only [gA_, gB_, gC_, Act.put, gD_, gE_, gF_])
  have hb_ := q6_ (Below.refl V17.heap.size V17) (Obj.cells #[.string (⟨#[120]⟩ : ByteArray), .string (⟨#[121]⟩ : ByteArray)] 9)
  obtain ⟨b18, hg_⟩ : ∃ g, g = V17.heap.size := ⟨_, rfl⟩
  have CN := q0_.mk (rowN V17 9)
  rw [← hg_] at CN
  generalize V17.alloc (Obj.cells #[.string (⟨#[120]⟩ : ByteArray), .string (⟨#[121]⟩ : ByteArray)] 9) = V18 at *
  rw [← hg_]
  clear hg_
  replace OWz := q0_.mk (OWz.out.below hb_)
  replace SB := q0_.mk (q4_ SB.out hb_)
  clear hb_
  refine wpAnyH_ready (rs := [4, 10]) (by decide +kernel) (by simp) ?_
  refine (AllReadyH.cons (i := 4) rfl (fun K_ hK => ?_) (AllReadyH.cons (i := 10) rfl (fun K_ hK => ?_) AllReadyH.nil))
  refine qK_ rfl ?_
  (go_simp; go_at_call 35; refine (sem_nested (x := vZ) M (by omega) OWz.out.vds).mono ?_; rintro e V19 ⟨u, rfl, ho, hb_⟩; have HRy := q0_.mk ho; obtain ⟨Ay3, cy3, Ay4, cy4, rfl, -, -, -, -⟩ := ho)
  refine hK.out _ _ (q4_ SB.out hb_) (fun hS1 => ?_)
  clear hK K_; (try simp only [gA_, gB_, gC_, Act.put, gD_, gE_, gF_])
  replace CN := q0_.mk (Kd.qD_ CN.out hb_)
  replace SB := q0_.mk (q4_ SB.out hb_)
  clear hb_
  refine wpAnyH_ready (rs := [5, 10]) (by decide +kernel) (by simp) ?_
  refine (AllReadyH.cons (i := 5) rfl (fun K_ hK => ?_) (AllReadyH.cons (i := 10) rfl (fun K_ hK => ?_) AllReadyH.nil))
  refine qK_ rfl ?_
  go_simp
  refine hK.out _ _ (q6_ SB.out _) (fun hS1 => ?_)
  clear hK K_; (try simp only [gA_, gB_, gC_, Act.put, gD_, gE_, gF_])
  have hb_ := q6_ (Below.refl V19.heap.size V19) (Obj.cells #[.int .i64 (qx_ K vB).f0, .bool (qx_ K vB).f1, .string (qx_ K vB).f2, .slice Av3 (qx_ K vB).f3.length cv3, .slice Av4 (qx_ K vB).f4.length cv4, .int .i64 (qx_ M vZ).f0, .bool (qx_ M vZ).f1, .string (qx_ M vZ).f2, .slice Ay3 (qx_ M vZ).f3.length cy3, .slice Ay4 (qx_ M vZ).f4.length cy4] 25)
  obtain ⟨b20, hg_⟩ : ∃ g, g = V19.heap.size := ⟨_, rfl⟩
  have CV := q0_.mk (vrow ((HRv.out.below S5.out).below SB.out) HRy.out)
  rw [← hg_] at CV
  generalize V19.alloc (Obj.cells #[.int .i64 (qx_ K vB).f0, .bool (qx_ K vB).f1, .string (qx_ K vB).f2, .slice Av3 (qx_ K vB).f3.length cv3, .slice Av4 (qx_ K vB).f4.length cv4, .int .i64 (qx_ M vZ).f0, .bool (qx_ M vZ).f1, .string (qx_ M vZ).f2, .slice Ay3 (qx_ M vZ).f3.length cy3, .slice Ay4 (qx_ M vZ).f4.length cy4] 25) = V20 at *
  rw [← hg_]
  clear hg_
  replace CN := q0_.mk (Kd.qD_ CN.out hb_)
  replace SB := q0_.mk (q4_ SB.out hb_)
  clear hb_
  refine wpAnyH_ready (rs := [6, 10]) (by decide +kernel) (by simp) ?_
  refine (AllReadyH.cons (i := 6) rfl (fun K_ hK => ?_) (AllReadyH.cons (i := 10) rfl (fun K_ hK => ?_) AllReadyH.nil))
  refine qK_ rfl ?_
  (go_simp; go_at_call 27; refine (sem_make (n := xy) (l := [qx_ K vB, qx_ M vZ]) CN.out (by decide) CV.out (Nat.le_refl _) rfl (fit_two (fit_v K) (fit_z M))).mono ?_; rintro e V21 ⟨u, rfl, ho, hb_⟩; obtain ⟨u3, u4, rfl, hu3, hu4⟩ := ho; obtain ⟨Aw3, cw3, rfl⟩ := Kd.qp_ hu3; obtain ⟨Aw4, cw4, rfl⟩ := Kd.qp_ hu4; have OWw := q0_.mk (show Own _ _ V21 (objV xy [qx_ K vB, qx_ M vZ]) _ from ⟨_, _, rfl, hu3, hu4⟩); clear hu3 hu4 CN CV)
  refine hK.out _ _ (q4_ SB.out hb_) (fun hS1 => ?_)
  clear hK K_; (try simp only [gA_, gB_, gC_, Act.put, gD_, gE_, gF_])
  replace SB := q0_.mk (q4_ SB.out hb_)
  clear hb_
  (refine wpAnyH_take (i := 7) (v := ?_) rfl (by kernel_rfl) (by kernel_rfl) (by kernel_rfl) (fun _ _ _ h => h) (Or.inl ⟨by rfl, ?_⟩) (by assumption) ?_; rotate_left; (focus (intro w_ hSw; clear hSw; go_simp; try with_reducible rfl)); (try simp only [gA_, gB_, gC_, Act.put, gD_, gE_, gF_]))
  (refine wpAnyH_take (i := 8) (v := ?_) rfl (by kernel_rfl) (by kernel_rfl) (by kernel_rfl) (fun _ _ _ h => h) (Or.inl ⟨by rfl, ?_⟩) (by assumption) ?_; rotate_left; (focus (intro w_ hSw; clear hSw; go_simp; try with_reducible rfl)); (try simp only [gA_, gB_, gC_, Act.put, gD_, gE_, gF_]))
  (refine wpAnyH_take (i := 9) (v := ?_) rfl (by kernel_rfl) (by kernel_rfl) (by kernel_rfl) (fun _ _ _ h => h) (Or.inl ⟨by rfl, ?_⟩) (by assumption) ?_; rotate_left; (focus (intro w_ hSw; clear hSw; go_simp; try with_reducible rfl)); (try simp only [gA_, gB_, gC_, Act.put, gD_, gE_, gF_]))
  refine wpAnyH_ready (rs := [10]) (by decide +kernel) (by simp) ?_
  refine (AllReadyH.cons (i := 10) rfl (fun K_ hK => ?_) AllReadyH.nil)
  refine qK_ rfl ?_
  go_simp
  refine hK.out _ _ (q6_ SB.out _) (fun hS1 => ?_)
  clear hK K_; (try simp only [gA_, gB_, gC_, Act.put, gD_, gE_, gF_])
  have hb_ := q6_ (Below.refl V21.heap.size V21) (Obj.cells #[.int .i64 0, .bool false, .string (⟨#[]⟩ : ByteArray), .slice none 0 0, .slice none 0 0] 25)
  obtain ⟨b22, hg_⟩ : ∃ g, g = V21.heap.size := ⟨_, rfl⟩
  have ZB := q0_.mk (blk_new V21 (Obj.cells #[.int .i64 0, .bool false, .string (⟨#[]⟩ : ByteArray), .slice none 0 0, .slice none 0 0] 25))
  rw [← hg_] at ZB
  have ZG := q0_.mk (show w5.heap.size ≤ b22 from hg_ ▸ SB.out.size)
  have ZF := q0_.mk (Nat.le_of_eq hg_.symm)
  generalize V21.alloc (Obj.cells #[.int .i64 0, .bool false, .string (⟨#[]⟩ : ByteArray), .slice none 0 0, .slice none 0 0] 25) = V22 at *
  rw [← hg_]
  clear hg_
  replace OWw := q0_.mk (OWw.out.below hb_)
  replace SB := q0_.mk (q4_ SB.out hb_)
  clear hb_
  rotate_left 1
  refine qK_ rfl ?_
  go_simp
  refine hK.out _ _ (q6_ SB.out _) (fun hS1 => ?_)
  clear hK K_; (try simp only [gA_, gB_, gC_, Act.put, gD_, gE_, gF_])
  have hb_ := q6_ (Below.refl V20.heap.size V20) (Obj.cells #[.int .i64 0, .bool false, .string (⟨#[]⟩ : ByteArray), .slice none 0 0, .slice none 0 0] 25)
  obtain ⟨b23, hg_⟩ : ∃ g, g = V20.heap.size := ⟨_, rfl⟩
  have ZB := q0_.mk (blk_new V20 (Obj.cells #[.int .i64 0, .bool false, .string (⟨#[]⟩ : ByteArray), .slice none 0 0, .slice none 0 0] 25))
  rw [← hg_] at ZB
  have ZG := q0_.mk (show w5.heap.size ≤ b23 from hg_ ▸ SB.out.size)
  generalize V20.alloc (Obj.cells #[.int .i64 0, .bool false, .string (⟨#[]⟩ : ByteArray), .slice none 0 0, .slice none 0 0] 25) = V23 at *
  rw [← hg_]
  clear hg_
  replace CN := q0_.mk (Kd.qD_ CN.out hb_)
  replace CV := q0_.mk (Kd.qD_ CV.out hb_)
  replace SB := q0_.mk (q4_ SB.out hb_)
  clear hb_
  rotate_left 1
  refine qK_ rfl ?_
  go_simp
  refine hK.out _ _ (q6_ SB.out _) (fun hS1 => ?_)
  clear hK K_; (try simp only [gA_, gB_, gC_, Act.put, gD_, gE_, gF_])
  have hb_ := q6_ (Below.refl V19.heap.size V19) (Obj.cells #[.int .i64 0, .bool false, .string (⟨#[]⟩ : ByteArray), .slice none 0 0, .slice none 0 0] 25)
  obtain ⟨b24, hg_⟩ : ∃ g, g = V19.heap.size := ⟨_, rfl⟩
  have ZB := q0_.mk (blk_new V19 (Obj.cells #[.int .i64 0, .bool false, .string (⟨#[]⟩ : ByteArray), .slice none 0 0, .slice none 0 0] 25))
  rw [← hg_] at ZB
  have ZG := q0_.mk (show w5.heap.size ≤ b24 from hg_ ▸ SB.out.size)
  generalize V19.alloc (Obj.cells #[.int .i64 0, .bool false, .string (⟨#[]⟩ : ByteArray), .slice none 0 0, .slice none 0 0] 25) = V24 at *
  rw [← hg_]
  clear hg_
  replace CN := q0_.mk (Kd.qD_ CN.out hb_)
  replace HRy := q0_.mk (HRy.out.below hb_)
  replace SB := q0_.mk (q4_ SB.out hb_)
  clear hb_
  refine wpAnyH_ready (rs := [5]) (by decide +kernel) (by simp) ?_
  refine (AllReadyH.cons (i := 5) rfl (fun K_ hK => ?_) AllReadyH.nil)
  refine qK_ rfl ?_
  go_simp
  refine hK.out _ _ (q6_ SB.out _) (fun hS1 => ?_)
  clear hK K_; (try simp only [gA_, gB_, gC_, Act.put, gD_, gE_, gF_])
  have hb_ := q6_ (Below.refl V24.heap.size V24) (Obj.cells #[.int .i64 (qx_ K vB).f0, .bool (qx_ K vB).f1, .string (qx_ K vB).f2, .slice Av3 (qx_ K vB).f3.length cv3, .slice Av4 (qx_ K vB).f4.length cv4, .int .i64 (qx_ M vZ).f0, .bool (qx_ M vZ).f1, .string (qx_ M vZ).f2, .slice Ay3 (qx_ M vZ).f3.length cy3, .slice Ay4 (qx_ M vZ).f4.length cy4] 25)
  obtain ⟨b25, hg_⟩ : ∃ g, g = V24.heap.size := ⟨_, rfl⟩
  have CV := q0_.mk (vrow ((HRv.out.below S5.out).below SB.out) HRy.out)
  rw [← hg_] at CV
  generalize V24.alloc (Obj.cells #[.int .i64 (qx_ K vB).f0, .bool (qx_ K vB).f1, .string (qx_ K vB).f2, .slice Av3 (qx_ K vB).f3.length cv3, .slice Av4 (qx_ K vB).f4.length cv4, .int .i64 (qx_ M vZ).f0, .bool (qx_ M vZ).f1, .string (qx_ M vZ).f2, .slice Ay3 (qx_ M vZ).f3.length cy3, .slice Ay4 (qx_ M vZ).f4.length cy4] 25) = V25 at *
  rw [← hg_]
  clear hg_
  replace CN := q0_.mk (Kd.qD_ CN.out hb_)
  replace ZB := q0_.mk (q2_ ZB.out hb_)
  replace SB := q0_.mk (q4_ SB.out hb_)
  clear hb_
  rotate_left 1
  refine qK_ rfl ?_
  go_simp
  refine hK.out _ _ (q6_ SB.out _) (fun hS1 => ?_)
  clear hK K_; (try simp only [gA_, gB_, gC_, Act.put, gD_, gE_, gF_])
  have hb_ := q6_ (Below.refl V18.heap.size V18) (Obj.cells #[.int .i64 0, .bool false, .string (⟨#[]⟩ : ByteArray), .slice none 0 0, .slice none 0 0] 25)
  obtain ⟨b26, hg_⟩ : ∃ g, g = V18.heap.size := ⟨_, rfl⟩
  have ZB := q0_.mk (blk_new V18 (Obj.cells #[.int .i64 0, .bool false, .string (⟨#[]⟩ : ByteArray), .slice none 0 0, .slice none 0 0] 25))
  rw [← hg_] at ZB
  have ZG := q0_.mk (show w5.heap.size ≤ b26 from hg_ ▸ SB.out.size)
  generalize V18.alloc (Obj.cells #[.int .i64 0, .bool false, .string (⟨#[]⟩ : ByteArray), .slice none 0 0, .slice none 0 0] 25) = V26 at *
  rw [← hg_]
  clear hg_
  replace CN := q0_.mk (Kd.qD_ CN.out hb_)
  replace OWz := q0_.mk (OWz.out.below hb_)
  replace SB := q0_.mk (q4_ SB.out hb_)
  clear hb_
  refine wpAnyH_ready (rs := [4]) (by decide +kernel) (by simp) ?_
  refine (AllReadyH.cons (i := 4) rfl (fun K_ hK => ?_) AllReadyH.nil)
  refine qK_ rfl ?_
  (go_simp; go_at_call 35; refine (sem_nested (x := vZ) M (by omega) OWz.out.vds).mono ?_; rintro e V27 ⟨u, rfl, ho, hb_⟩; have HRy := q0_.mk ho; obtain ⟨Ay3, cy3, Ay4, cy4, rfl, -, -, -, -⟩ := ho)
  refine hK.out _ _ (q4_ SB.out hb_) (fun hS1 => ?_)
  clear hK K_; (try simp only [gA_, gB_, gC_, Act.put, gD_, gE_, gF_])
  replace CN := q0_.mk (Kd.qD_ CN.out hb_)
  replace ZB := q0_.mk (q2_ ZB.out hb_)
  replace SB := q0_.mk (q4_ SB.out hb_)
  clear hb_
  refine wpAnyH_ready (rs := [5]) (by decide +kernel) (by simp) ?_
  refine (AllReadyH.cons (i := 5) rfl (fun K_ hK => ?_) AllReadyH.nil)
  refine qK_ rfl ?_
  go_simp
  refine hK.out _ _ (q6_ SB.out _) (fun hS1 => ?_)
  clear hK K_; (try simp only [gA_, gB_, gC_, Act.put, gD_, gE_, gF_])
  have hb_ := q6_ (Below.refl V27.heap.size V27) (Obj.cells #[.int .i64 (qx_ K vB).f0, .bool (qx_ K vB).f1, .string (qx_ K vB).f2, .slice Av3 (qx_ K vB).f3.length cv3, .slice Av4 (qx_ K vB).f4.length cv4, .int .i64 (qx_ M vZ).f0, .bool (qx_ M vZ).f1, .string (qx_ M vZ).f2, .slice Ay3 (qx_ M vZ).f3.length cy3, .slice Ay4 (qx_ M vZ).f4.length cy4] 25)
  obtain ⟨b28, hg_⟩ : ∃ g, g = V27.heap.size := ⟨_, rfl⟩
  have CV := q0_.mk (vrow ((HRv.out.below S5.out).below SB.out) HRy.out)
  rw [← hg_] at CV
  generalize V27.alloc (Obj.cells #[.int .i64 (qx_ K vB).f0, .bool (qx_ K vB).f1, .string (qx_ K vB).f2, .slice Av3 (qx_ K vB).f3.length cv3, .slice Av4 (qx_ K vB).f4.length cv4, .int .i64 (qx_ M vZ).f0, .bool (qx_ M vZ).f1, .string (qx_ M vZ).f2, .slice Ay3 (qx_ M vZ).f3.length cy3, .slice Ay4 (qx_ M vZ).f4.length cy4] 25) = V28 at *
  rw [← hg_]
  clear hg_
  replace CN := q0_.mk (Kd.qD_ CN.out hb_)
  replace ZB := q0_.mk (q2_ ZB.out hb_)
  replace SB := q0_.mk (q4_ SB.out hb_)
  clear hb_
  rotate_left 1
  refine qK_ rfl ?_
  (go_simp; go_at_call 35; refine (sem_nested (x := vZ) M (by omega) OWz.out.vds).mono ?_; rintro e V29 ⟨u, rfl, ho, hb_⟩; have HRy := q0_.mk ho; obtain ⟨Ay3, cy3, Ay4, cy4, rfl, -, -, -, -⟩ := ho)
  refine hK.out _ _ (q4_ SB.out hb_) (fun hS1 => ?_)
  clear hK K_; (try simp only [gA_, gB_, gC_, Act.put, gD_, gE_, gF_])
  replace SB := q0_.mk (q4_ SB.out hb_)
  clear hb_
  refine wpAnyH_ready (rs := [0, 5, 10]) (by decide +kernel) (by simp) ?_
  refine (AllReadyH.cons (i := 0) rfl (fun K_ hK => ?_) (AllReadyH.cons (i := 5) rfl (fun K_ hK => ?_) (AllReadyH.cons (i := 10) rfl (fun K_ hK => ?_) AllReadyH.nil)))
  refine qK_ rfl ?_
  go_simp
  refine hK.out _ _ (q6_ SB.out _) (fun hS1 => ?_)
  clear hK K_; (try simp only [gA_, gB_, gC_, Act.put, gD_, gE_, gF_])
  have hb_ := q6_ (Below.refl V29.heap.size V29) (Obj.cells #[.string (⟨#[120]⟩ : ByteArray), .string (⟨#[121]⟩ : ByteArray)] 9)
  obtain ⟨b30, hg_⟩ : ∃ g, g = V29.heap.size := ⟨_, rfl⟩
  have CN := q0_.mk (rowN V29 9)
  rw [← hg_] at CN
  generalize V29.alloc (Obj.cells #[.string (⟨#[120]⟩ : ByteArray), .string (⟨#[121]⟩ : ByteArray)] 9) = V30 at *
  rw [← hg_]
  clear hg_
  replace HRy := q0_.mk (HRy.out.below hb_)
  replace SB := q0_.mk (q4_ SB.out hb_)
  clear hb_
  refine wpAnyH_ready (rs := [5, 10]) (by decide +kernel) (by simp) ?_
  refine (AllReadyH.cons (i := 5) rfl (fun K_ hK => ?_) (AllReadyH.cons (i := 10) rfl (fun K_ hK => ?_) AllReadyH.nil))
  refine qK_ rfl ?_
  go_simp
  refine hK.out _ _ (q6_ SB.out _) (fun hS1 => ?_)
  clear hK K_; (try simp only [gA_, gB_, gC_, Act.put, gD_, gE_, gF_])
  have hb_ := q6_ (Below.refl V30.heap.size V30) (Obj.cells #[.int .i64 (qx_ K vB).f0, .bool (qx_ K vB).f1, .string (qx_ K vB).f2, .slice Av3 (qx_ K vB).f3.length cv3, .slice Av4 (qx_ K vB).f4.length cv4, .int .i64 (qx_ M vZ).f0, .bool (qx_ M vZ).f1, .string (qx_ M vZ).f2, .slice Ay3 (qx_ M vZ).f3.length cy3, .slice Ay4 (qx_ M vZ).f4.length cy4] 25)
  obtain ⟨b31, hg_⟩ : ∃ g, g = V30.heap.size := ⟨_, rfl⟩
  have CV := q0_.mk (vrow ((HRv.out.below S5.out).below SB.out) HRy.out)
  rw [← hg_] at CV
  generalize V30.alloc (Obj.cells #[.int .i64 (qx_ K vB).f0, .bool (qx_ K vB).f1, .string (qx_ K vB).f2, .slice Av3 (qx_ K vB).f3.length cv3, .slice Av4 (qx_ K vB).f4.length cv4, .int .i64 (qx_ M vZ).f0, .bool (qx_ M vZ).f1, .string (qx_ M vZ).f2, .slice Ay3 (qx_ M vZ).f3.length cy3, .slice Ay4 (qx_ M vZ).f4.length cy4] 25) = V31 at *
  rw [← hg_]
  clear hg_
  replace CN := q0_.mk (Kd.qD_ CN.out hb_)
  replace SB := q0_.mk (q4_ SB.out hb_)
  clear hb_
  refine wpAnyH_ready (rs := [6, 10]) (by decide +kernel) (by simp) ?_
  refine (AllReadyH.cons (i := 6) rfl (fun K_ hK => ?_) (AllReadyH.cons (i := 10) rfl (fun K_ hK => ?_) AllReadyH.nil))
  refine qK_ rfl ?_
  (go_simp; go_at_call 27; refine (sem_make (n := xy) (l := [qx_ K vB, qx_ M vZ]) CN.out (by decide) CV.out (Nat.le_refl _) rfl (fit_two (fit_v K) (fit_z M))).mono ?_; rintro e V32 ⟨u, rfl, ho, hb_⟩; obtain ⟨u3, u4, rfl, hu3, hu4⟩ := ho; obtain ⟨Aw3, cw3, rfl⟩ := Kd.qp_ hu3; obtain ⟨Aw4, cw4, rfl⟩ := Kd.qp_ hu4; have OWw := q0_.mk (show Own _ _ V32 (objV xy [qx_ K vB, qx_ M vZ]) _ from ⟨_, _, rfl, hu3, hu4⟩); clear hu3 hu4 CN CV)
  refine hK.out _ _ (q4_ SB.out hb_) (fun hS1 => ?_)
  clear hK K_; (try simp only [gA_, gB_, gC_, Act.put, gD_, gE_, gF_])
  replace SB := q0_.mk (q4_ SB.out hb_)
  clear hb_
  (refine wpAnyH_take (i := 7) (v := ?_) rfl (by kernel_rfl) (by kernel_rfl) (by kernel_rfl) (fun _ _ _ h => h) (Or.inl ⟨by rfl, ?_⟩) (by assumption) ?_; rotate_left; (focus (intro w_ hSw; clear hSw; go_simp; try with_reducible rfl)); (try simp only [gA_, gB_, gC_, Act.put, gD_, gE_, gF_]))
  (refine wpAnyH_take (i := 8) (v := ?_) rfl (by kernel_rfl) (by kernel_rfl) (by kernel_rfl) (fun _ _ _ h => h) (Or.inl ⟨by rfl, ?_⟩) (by assumption) ?_; rotate_left; (focus (intro w_ hSw; clear hSw; go_simp; try with_reducible rfl)); (try simp only [gA_, gB_, gC_, Act.put, gD_, gE_, gF_]))
  (refine wpAnyH_take (i := 9) (v := ?_) rfl (by kernel_rfl) (by kernel_rfl) (by kernel_rfl) (fun _ _ _ h => h) (Or.inl ⟨by rfl, ?_⟩) (by assumption) ?_; rotate_left; (focus (intro w_ hSw; clear hSw; go_simp; try with_reducible rfl)); (try simp only [gA_, gB_, gC_, Act.put, gD_, gE_, gF_]))
  refine wpAnyH_ready (rs := [10]) (by decide +kernel) (by simp) ?_
  refine (AllReadyH.cons (i := 10) rfl (fun K_ hK => ?_) AllReadyH.nil)
  refine qK_ rfl ?_
  go_simp
  refine hK.out _ _ (q6_ SB.out _) (fun hS1 => ?_)
  clear hK K_; (try simp only [gA_, gB_, gC_, Act.put, gD_, gE_, gF_])
  have hb_ := q6_ (Below.refl V32.heap.size V32) (Obj.cells #[.int .i64 0, .bool false, .string (⟨#[]⟩ : ByteArray), .slice none 0 0, .slice none 0 0] 25)
  obtain ⟨b33, hg_⟩ : ∃ g, g = V32.heap.size := ⟨_, rfl⟩
  have ZB := q0_.mk (blk_new V32 (Obj.cells #[.int .i64 0, .bool false, .string (⟨#[]⟩ : ByteArray), .slice none 0 0, .slice none 0 0] 25))
  rw [← hg_] at ZB
  have ZG := q0_.mk (show w5.heap.size ≤ b33 from hg_ ▸ SB.out.size)
  have ZF := q0_.mk (Nat.le_of_eq hg_.symm)
  generalize V32.alloc (Obj.cells #[.int .i64 0, .bool false, .string (⟨#[]⟩ : ByteArray), .slice none 0 0, .slice none 0 0] 25) = V33 at *
  rw [← hg_]
  clear hg_
  replace OWw := q0_.mk (OWw.out.below hb_)
  replace SB := q0_.mk (q4_ SB.out hb_)
  clear hb_
  rotate_left 1
  refine qK_ rfl ?_
  go_simp
  refine hK.out _ _ (q6_ SB.out _) (fun hS1 => ?_)
  clear hK K_; (try simp only [gA_, gB_, gC_, Act.put, gD_, gE_, gF_])
  have hb_ := q6_ (Below.refl V31.heap.size V31) (Obj.cells #[.int .i64 0, .bool false, .string (⟨#[]⟩ : ByteArray), .slice none 0 0, .slice none 0 0] 25)
  obtain ⟨b34, hg_⟩ : ∃ g, g = V31.heap.size := ⟨_, rfl⟩
  have ZB := q0_.mk (blk_new V31 (Obj.cells #[.int .i64 0, .bool false, .string (⟨#[]⟩ : ByteArray), .slice none 0 0, .slice none 0 0] 25))
  rw [← hg_] at ZB
  have ZG := q0_.mk (show w5.heap.size ≤ b34 from hg_ ▸ SB.out.size)
  generalize V31.alloc (Obj.cells #[.int .i64 0, .bool false, .string (⟨#[]⟩ : ByteArray), .slice none 0 0, .slice none 0 0] 25) = V34 at *
  rw [← hg_]
  clear hg_
  replace CN := q0_.mk (Kd.qD_ CN.out hb_)
  replace CV := q0_.mk (Kd.qD_ CV.out hb_)
  replace SB := q0_.mk (q4_ SB.out hb_)
  clear hb_
  rotate_left 1
  refine qK_ rfl ?_
  go_simp
  refine hK.out _ _ (q6_ SB.out _) (fun hS1 => ?_)
  clear hK K_; (try simp only [gA_, gB_, gC_, Act.put, gD_, gE_, gF_])
  have hb_ := q6_ (Below.refl V30.heap.size V30) (Obj.cells #[.int .i64 0, .bool false, .string (⟨#[]⟩ : ByteArray), .slice none 0 0, .slice none 0 0] 25)
  obtain ⟨b35, hg_⟩ : ∃ g, g = V30.heap.size := ⟨_, rfl⟩
  have ZB := q0_.mk (blk_new V30 (Obj.cells #[.int .i64 0, .bool false, .string (⟨#[]⟩ : ByteArray), .slice none 0 0, .slice none 0 0] 25))
  rw [← hg_] at ZB
  have ZG := q0_.mk (show w5.heap.size ≤ b35 from hg_ ▸ SB.out.size)
  generalize V30.alloc (Obj.cells #[.int .i64 0, .bool false, .string (⟨#[]⟩ : ByteArray), .slice none 0 0, .slice none 0 0] 25) = V35 at *
  rw [← hg_]
  clear hg_
  replace CN := q0_.mk (Kd.qD_ CN.out hb_)
  replace HRy := q0_.mk (HRy.out.below hb_)
  replace SB := q0_.mk (q4_ SB.out hb_)
  clear hb_
  refine wpAnyH_ready (rs := [5]) (by decide +kernel) (by simp) ?_
  refine (AllReadyH.cons (i := 5) rfl (fun K_ hK => ?_) AllReadyH.nil)
  refine qK_ rfl ?_
  go_simp
  refine hK.out _ _ (q6_ SB.out _) (fun hS1 => ?_)
  clear hK K_; (try simp only [gA_, gB_, gC_, Act.put, gD_, gE_, gF_])
  have hb_ := q6_ (Below.refl V35.heap.size V35) (Obj.cells #[.int .i64 (qx_ K vB).f0, .bool (qx_ K vB).f1, .string (qx_ K vB).f2, .slice Av3 (qx_ K vB).f3.length cv3, .slice Av4 (qx_ K vB).f4.length cv4, .int .i64 (qx_ M vZ).f0, .bool (qx_ M vZ).f1, .string (qx_ M vZ).f2, .slice Ay3 (qx_ M vZ).f3.length cy3, .slice Ay4 (qx_ M vZ).f4.length cy4] 25)
  obtain ⟨b36, hg_⟩ : ∃ g, g = V35.heap.size := ⟨_, rfl⟩
  have CV := q0_.mk (vrow ((HRv.out.below S5.out).below SB.out) HRy.out)
  rw [← hg_] at CV
  generalize V35.alloc (Obj.cells #[.int .i64 (qx_ K vB).f0, .bool (qx_ K vB).f1, .string (qx_ K vB).f2, .slice Av3 (qx_ K vB).f3.length cv3, .slice Av4 (qx_ K vB).f4.length cv4, .int .i64 (qx_ M vZ).f0, .bool (qx_ M vZ).f1, .string (qx_ M vZ).f2, .slice Ay3 (qx_ M vZ).f3.length cy3, .slice Ay4 (qx_ M vZ).f4.length cy4] 25) = V36 at *
  rw [← hg_]
  clear hg_
  replace CN := q0_.mk (Kd.qD_ CN.out hb_)
  replace ZB := q0_.mk (q2_ ZB.out hb_)
  replace SB := q0_.mk (q4_ SB.out hb_)
  clear hb_
  rotate_left 1
  refine qK_ rfl ?_
  go_simp
  refine hK.out _ _ (q6_ SB.out _) (fun hS1 => ?_)
  clear hK K_; (try simp only [gA_, gB_, gC_, Act.put, gD_, gE_, gF_])
  have hb_ := q6_ (Below.refl V29.heap.size V29) (Obj.cells #[.int .i64 (qx_ K vB).f0, .bool (qx_ K vB).f1, .string (qx_ K vB).f2, .slice Av3 (qx_ K vB).f3.length cv3, .slice Av4 (qx_ K vB).f4.length cv4, .int .i64 (qx_ M vZ).f0, .bool (qx_ M vZ).f1, .string (qx_ M vZ).f2, .slice Ay3 (qx_ M vZ).f3.length cy3, .slice Ay4 (qx_ M vZ).f4.length cy4] 25)
  obtain ⟨b37, hg_⟩ : ∃ g, g = V29.heap.size := ⟨_, rfl⟩
  have CV := q0_.mk (vrow ((HRv.out.below S5.out).below SB.out) HRy.out)
  rw [← hg_] at CV
  generalize V29.alloc (Obj.cells #[.int .i64 (qx_ K vB).f0, .bool (qx_ K vB).f1, .string (qx_ K vB).f2, .slice Av3 (qx_ K vB).f3.length cv3, .slice Av4 (qx_ K vB).f4.length cv4, .int .i64 (qx_ M vZ).f0, .bool (qx_ M vZ).f1, .string (qx_ M vZ).f2, .slice Ay3 (qx_ M vZ).f3.length cy3, .slice Ay4 (qx_ M vZ).f4.length cy4] 25) = V37 at *
  rw [← hg_]
  clear hg_
  replace SB := q0_.mk (q4_ SB.out hb_)
  clear hb_
  refine wpAnyH_ready (rs := [0, 10]) (by decide +kernel) (by simp) ?_
  refine (AllReadyH.cons (i := 0) rfl (fun K_ hK => ?_) (AllReadyH.cons (i := 10) rfl (fun K_ hK => ?_) AllReadyH.nil))
  refine qK_ rfl ?_
  go_simp
  refine hK.out _ _ (q6_ SB.out _) (fun hS1 => ?_)
  clear hK K_; (try simp only [gA_, gB_, gC_, Act.put, gD_, gE_, gF_])
  have hb_ := q6_ (Below.refl V37.heap.size V37) (Obj.cells #[.string (⟨#[120]⟩ : ByteArray), .string (⟨#[121]⟩ : ByteArray)] 9)
  obtain ⟨b38, hg_⟩ : ∃ g, g = V37.heap.size := ⟨_, rfl⟩
  have CN := q0_.mk (rowN V37 9)
  rw [← hg_] at CN
  generalize V37.alloc (Obj.cells #[.string (⟨#[120]⟩ : ByteArray), .string (⟨#[121]⟩ : ByteArray)] 9) = V38 at *
  rw [← hg_]
  clear hg_
  replace CV := q0_.mk (Kd.qD_ CV.out hb_)
  replace SB := q0_.mk (q4_ SB.out hb_)
  clear hb_
  refine wpAnyH_ready (rs := [6, 10]) (by decide +kernel) (by simp) ?_
  refine (AllReadyH.cons (i := 6) rfl (fun K_ hK => ?_) (AllReadyH.cons (i := 10) rfl (fun K_ hK => ?_) AllReadyH.nil))
  refine qK_ rfl ?_
  (go_simp; go_at_call 27; refine (sem_make (n := xy) (l := [qx_ K vB, qx_ M vZ]) CN.out (by decide) CV.out (Nat.le_refl _) rfl (fit_two (fit_v K) (fit_z M))).mono ?_; rintro e V39 ⟨u, rfl, ho, hb_⟩; obtain ⟨u3, u4, rfl, hu3, hu4⟩ := ho; obtain ⟨Aw3, cw3, rfl⟩ := Kd.qp_ hu3; obtain ⟨Aw4, cw4, rfl⟩ := Kd.qp_ hu4; have OWw := q0_.mk (show Own _ _ V39 (objV xy [qx_ K vB, qx_ M vZ]) _ from ⟨_, _, rfl, hu3, hu4⟩); clear hu3 hu4 CN CV)
  refine hK.out _ _ (q4_ SB.out hb_) (fun hS1 => ?_)
  clear hK K_; (try simp only [gA_, gB_, gC_, Act.put, gD_, gE_, gF_])
  replace SB := q0_.mk (q4_ SB.out hb_)
  clear hb_
  (refine wpAnyH_take (i := 7) (v := ?_) rfl (by kernel_rfl) (by kernel_rfl) (by kernel_rfl) (fun _ _ _ h => h) (Or.inl ⟨by rfl, ?_⟩) (by assumption) ?_; rotate_left; (focus (intro w_ hSw; clear hSw; go_simp; try with_reducible rfl)); (try simp only [gA_, gB_, gC_, Act.put, gD_, gE_, gF_]))
  (refine wpAnyH_take (i := 8) (v := ?_) rfl (by kernel_rfl) (by kernel_rfl) (by kernel_rfl) (fun _ _ _ h => h) (Or.inl ⟨by rfl, ?_⟩) (by assumption) ?_; rotate_left; (focus (intro w_ hSw; clear hSw; go_simp; try with_reducible rfl)); (try simp only [gA_, gB_, gC_, Act.put, gD_, gE_, gF_]))
  (refine wpAnyH_take (i := 9) (v := ?_) rfl (by kernel_rfl) (by kernel_rfl) (by kernel_rfl) (fun _ _ _ h => h) (Or.inl ⟨by rfl, ?_⟩) (by assumption) ?_; rotate_left; (focus (intro w_ hSw; clear hSw; go_simp; try with_reducible rfl)); (try simp only [gA_, gB_, gC_, Act.put, gD_, gE_, gF_]))
  refine wpAnyH_ready (rs := [10]) (by decide +kernel) (by simp) ?_
  refine (AllReadyH.cons (i := 10) rfl (fun K_ hK => ?_) AllReadyH.nil)
  refine qK_ rfl ?_
  go_simp
  refine hK.out _ _ (q6_ SB.out _) (fun hS1 => ?_)
  clear hK K_; (try simp only [gA_, gB_, gC_, Act.put, gD_, gE_, gF_])
  have hb_ := q6_ (Below.refl V39.heap.size V39) (Obj.cells #[.int .i64 0, .bool false, .string (⟨#[]⟩ : ByteArray), .slice none 0 0, .slice none 0 0] 25)
  obtain ⟨b40, hg_⟩ : ∃ g, g = V39.heap.size := ⟨_, rfl⟩
  have ZB := q0_.mk (blk_new V39 (Obj.cells #[.int .i64 0, .bool false, .string (⟨#[]⟩ : ByteArray), .slice none 0 0, .slice none 0 0] 25))
  rw [← hg_] at ZB
  have ZG := q0_.mk (show w5.heap.size ≤ b40 from hg_ ▸ SB.out.size)
  have ZF := q0_.mk (Nat.le_of_eq hg_.symm)
  generalize V39.alloc (Obj.cells #[.int .i64 0, .bool false, .string (⟨#[]⟩ : ByteArray), .slice none 0 0, .slice none 0 0] 25) = V40 at *
  rw [← hg_]
  clear hg_
  replace OWw := q0_.mk (OWw.out.below hb_)
  replace SB := q0_.mk (q4_ SB.out hb_)
  clear hb_
  rotate_left 1
  refine qK_ rfl ?_
  go_simp
  refine hK.out _ _ (q6_ SB.out _) (fun hS1 => ?_)
  clear hK K_; (try simp only [gA_, gB_, gC_, Act.put, gD_, gE_, gF_])
  have hb_ := q6_ (Below.refl V38.heap.size V38) (Obj.cells #[.int .i64 0, .bool false, .string (⟨#[]⟩ : ByteArray), .slice none 0 0, .slice none 0 0] 25)
  obtain ⟨b41, hg_⟩ : ∃ g, g = V38.heap.size := ⟨_, rfl⟩
  have ZB := q0_.mk (blk_new V38 (Obj.cells #[.int .i64 0, .bool false, .string (⟨#[]⟩ : ByteArray), .slice none 0 0, .slice none 0 0] 25))
  rw [← hg_] at ZB
  have ZG := q0_.mk (show w5.heap.size ≤ b41 from hg_ ▸ SB.out.size)
  generalize V38.alloc (Obj.cells #[.int .i64 0, .bool false, .string (⟨#[]⟩ : ByteArray), .slice none 0 0, .slice none 0 0] 25) = V41 at *
  rw [← hg_]
  clear hg_
  replace CN := q0_.mk (Kd.qD_ CN.out hb_)
  replace CV := q0_.mk (Kd.qD_ CV.out hb_)
  replace SB := q0_.mk (q4_ SB.out hb_)
  clear hb_
  rotate_left 1
  refine qK_ rfl ?_
  go_simp
  refine hK.out _ _ (q6_ SB.out _) (fun hS1 => ?_)
  clear hK K_; (try simp only [gA_, gB_, gC_, Act.put, gD_, gE_, gF_])
  have hb_ := q6_ (Below.refl V37.heap.size V37) (Obj.cells #[.int .i64 0, .bool false, .string (⟨#[]⟩ : ByteArray), .slice none 0 0, .slice none 0 0] 25)
  obtain ⟨b42, hg_⟩ : ∃ g, g = V37.heap.size := ⟨_, rfl⟩
  have ZB := q0_.mk (blk_new V37 (Obj.cells #[.int .i64 0, .bool false, .string (⟨#[]⟩ : ByteArray), .slice none 0 0, .slice none 0 0] 25))
  rw [← hg_] at ZB
  have ZG := q0_.mk (show w5.heap.size ≤ b42 from hg_ ▸ SB.out.size)
  generalize V37.alloc (Obj.cells #[.int .i64 0, .bool false, .string (⟨#[]⟩ : ByteArray), .slice none 0 0, .slice none 0 0] 25) = V42 at *
  rw [← hg_]
  clear hg_
  replace CV := q0_.mk (Kd.qD_ CV.out hb_)
  replace SB := q0_.mk (q4_ SB.out hb_)
  clear hb_
  refine wpAnyH_ready (rs := [0]) (by decide +kernel) (by simp) ?_
  refine (AllReadyH.cons (i := 0) rfl (fun K_ hK => ?_) AllReadyH.nil)
  refine qK_ rfl ?_
  go_simp
  refine hK.out _ _ (q6_ SB.out _) (fun hS1 => ?_)
  clear hK K_; (try simp only [gA_, gB_, gC_, Act.put, gD_, gE_, gF_])
  have hb_ := q6_ (Below.refl V42.heap.size V42) (Obj.cells #[.string (⟨#[120]⟩ : ByteArray), .string (⟨#[121]⟩ : ByteArray)] 9)
  obtain ⟨b43, hg_⟩ : ∃ g, g = V42.heap.size := ⟨_, rfl⟩
  have CN := q0_.mk (rowN V42 9)
  rw [← hg_] at CN
  generalize V42.alloc (Obj.cells #[.string (⟨#[120]⟩ : ByteArray), .string (⟨#[121]⟩ : ByteArray)] 9) = V43 at *
  rw [← hg_]
  clear hg_
  replace CV := q0_.mk (Kd.qD_ CV.out hb_)
  replace ZB := q0_.mk (q2_ ZB.out hb_)
  replace SB := q0_.mk (q4_ SB.out hb_)
  clear hb_
  rotate_left 1
  refine qK_ rfl ?_
  go_simp
  refine hK.out _ _ (q6_ SB.out _) (fun hS1 => ?_)
  clear hK K_; (try simp only [gA_, gB_, gC_, Act.put, gD_, gE_, gF_])
  have hb_ := q6_ (Below.refl V29.heap.size V29) (Obj.cells #[.int .i64 0, .bool false, .string (⟨#[]⟩ : ByteArray), .slice none 0 0, .slice none 0 0] 25)
  obtain ⟨b44, hg_⟩ : ∃ g, g = V29.heap.size := ⟨_, rfl⟩
  have ZB := q0_.mk (blk_new V29 (Obj.cells #[.int .i64 0, .bool false, .string (⟨#[]⟩ : ByteArray), .slice none 0 0, .slice none 0 0] 25))
  rw [← hg_] at ZB
  have ZG := q0_.mk (show w5.heap.size ≤ b44 from hg_ ▸ SB.out.size)
  generalize V29.alloc (Obj.cells #[.int .i64 0, .bool false, .string (⟨#[]⟩ : ByteArray), .slice none 0 0, .slice none 0 0] 25) = V44 at *
  rw [← hg_]
  clear hg_
  replace HRy := q0_.mk (HRy.out.below hb_)
  replace SB := q0_.mk (q4_ SB.out hb_)
  clear hb_
  refine wpAnyH_ready (rs := [0, 5]) (by decide +kernel) (by simp) ?_
  refine (AllReadyH.cons (i := 0) rfl (fun K_ hK => ?_) (AllReadyH.cons (i := 5) rfl (fun K_ hK => ?_) AllReadyH.nil))
  refine qK_ rfl ?_
  go_simp
  refine hK.out _ _ (q6_ SB.out _) (fun hS1 => ?_)
  clear hK K_; (try simp only [gA_, gB_, gC_, Act.put, gD_, gE_, gF_])
  have hb_ := q6_ (Below.refl V44.heap.size V44) (Obj.cells #[.string (⟨#[120]⟩ : ByteArray), .string (⟨#[121]⟩ : ByteArray)] 9)
  obtain ⟨b45, hg_⟩ : ∃ g, g = V44.heap.size := ⟨_, rfl⟩
  have CN := q0_.mk (rowN V44 9)
  rw [← hg_] at CN
  generalize V44.alloc (Obj.cells #[.string (⟨#[120]⟩ : ByteArray), .string (⟨#[121]⟩ : ByteArray)] 9) = V45 at *
  rw [← hg_]
  clear hg_
  replace HRy := q0_.mk (HRy.out.below hb_)
  replace ZB := q0_.mk (q2_ ZB.out hb_)
  replace SB := q0_.mk (q4_ SB.out hb_)
  clear hb_
  refine wpAnyH_ready (rs := [5]) (by decide +kernel) (by simp) ?_
  refine (AllReadyH.cons (i := 5) rfl (fun K_ hK => ?_) AllReadyH.nil)
  refine qK_ rfl ?_
  go_simp
  refine hK.out _ _ (q6_ SB.out _) (fun hS1 => ?_)
  clear hK K_; (try simp only [gA_, gB_, gC_, Act.put, gD_, gE_, gF_])
  have hb_ := q6_ (Below.refl V45.heap.size V45) (Obj.cells #[.int .i64 (qx_ K vB).f0, .bool (qx_ K vB).f1, .string (qx_ K vB).f2, .slice Av3 (qx_ K vB).f3.length cv3, .slice Av4 (qx_ K vB).f4.length cv4, .int .i64 (qx_ M vZ).f0, .bool (qx_ M vZ).f1, .string (qx_ M vZ).f2, .slice Ay3 (qx_ M vZ).f3.length cy3, .slice Ay4 (qx_ M vZ).f4.length cy4] 25)
  obtain ⟨b46, hg_⟩ : ∃ g, g = V45.heap.size := ⟨_, rfl⟩
  have CV := q0_.mk (vrow ((HRv.out.below S5.out).below SB.out) HRy.out)
  rw [← hg_] at CV
  generalize V45.alloc (Obj.cells #[.int .i64 (qx_ K vB).f0, .bool (qx_ K vB).f1, .string (qx_ K vB).f2, .slice Av3 (qx_ K vB).f3.length cv3, .slice Av4 (qx_ K vB).f4.length cv4, .int .i64 (qx_ M vZ).f0, .bool (qx_ M vZ).f1, .string (qx_ M vZ).f2, .slice Ay3 (qx_ M vZ).f3.length cy3, .slice Ay4 (qx_ M vZ).f4.length cy4] 25) = V46 at *
  rw [← hg_]
  clear hg_
  replace CN := q0_.mk (Kd.qD_ CN.out hb_)
  replace ZB := q0_.mk (q2_ ZB.out hb_)
  replace SB := q0_.mk (q4_ SB.out hb_)
  clear hb_
  rotate_left 1
  refine qK_ rfl ?_
  go_simp
  refine hK.out _ _ (q6_ SB.out _) (fun hS1 => ?_)
  clear hK K_; (try simp only [gA_, gB_, gC_, Act.put, gD_, gE_, gF_])
  have hb_ := q6_ (Below.refl V44.heap.size V44) (Obj.cells #[.int .i64 (qx_ K vB).f0, .bool (qx_ K vB).f1, .string (qx_ K vB).f2, .slice Av3 (qx_ K vB).f3.length cv3, .slice Av4 (qx_ K vB).f4.length cv4, .int .i64 (qx_ M vZ).f0, .bool (qx_ M vZ).f1, .string (qx_ M vZ).f2, .slice Ay3 (qx_ M vZ).f3.length cy3, .slice Ay4 (qx_ M vZ).f4.length cy4] 25)
  obtain ⟨b47, hg_⟩ : ∃ g, g = V44.heap.size := ⟨_, rfl⟩
  have CV := q0_.mk (vrow ((HRv.out.below S5.out).below SB.out) HRy.out)
  rw [← hg_] at CV
  generalize V44.alloc (Obj.cells #[.int .i64 (qx_ K vB).f0, .bool (qx_ K vB).f1, .string (qx_ K vB).f2, .slice Av3 (qx_ K vB).f3.length cv3, .slice Av4 (qx_ K vB).f4.length cv4, .int .i64 (qx_ M vZ).f0, .bool (qx_ M vZ).f1, .string (qx_ M vZ).f2, .slice Ay3 (qx_ M vZ).f3.length cy3, .slice Ay4 (qx_ M vZ).f4.length cy4] 25) = V47 at *
  rw [← hg_]
  clear hg_
  replace ZB := q0_.mk (q2_ ZB.out hb_)
  replace SB := q0_.mk (q4_ SB.out hb_)
  clear hb_
  refine wpAnyH_ready (rs := [0]) (by decide +kernel) (by simp) ?_
  refine (AllReadyH.cons (i := 0) rfl (fun K_ hK => ?_) AllReadyH.nil)
  refine qK_ rfl ?_
  go_simp
  refine hK.out _ _ (q6_ SB.out _) (fun hS1 => ?_)
  clear hK K_; (try simp only [gA_, gB_, gC_, Act.put, gD_, gE_, gF_])
  have hb_ := q6_ (Below.refl V47.heap.size V47) (Obj.cells #[.string (⟨#[120]⟩ : ByteArray), .string (⟨#[121]⟩ : ByteArray)] 9)
  obtain ⟨b48, hg_⟩ : ∃ g, g = V47.heap.size := ⟨_, rfl⟩
  have CN := q0_.mk (rowN V47 9)
  rw [← hg_] at CN
  generalize V47.alloc (Obj.cells #[.string (⟨#[120]⟩ : ByteArray), .string (⟨#[121]⟩ : ByteArray)] 9) = V48 at *
  rw [← hg_]
  clear hg_
  replace CV := q0_.mk (Kd.qD_ CV.out hb_)
  replace ZB := q0_.mk (q2_ ZB.out hb_)
  replace SB := q0_.mk (q4_ SB.out hb_)
  clear hb_
  rotate_left 1
  refine qK_ rfl ?_
  go_simp
  refine hK.out _ _ (q6_ SB.out _) (fun hS1 => ?_)
  clear hK K_; (try simp only [gA_, gB_, gC_, Act.put, gD_, gE_, gF_])
  have hb_ := q6_ (Below.refl V17.heap.size V17) (Obj.cells #[.int .i64 0, .bool false, .string (⟨#[]⟩ : ByteArray), .slice none 0 0, .slice none 0 0] 25)
  obtain ⟨b49, hg_⟩ : ∃ g, g = V17.heap.size := ⟨_, rfl⟩
  have ZB := q0_.mk (blk_new V17 (Obj.cells #[.int .i64 0, .bool false, .string (⟨#[]⟩ : ByteArray), .slice none 0 0, .slice none 0 0] 25))
  rw [← hg_] at ZB
  have ZG := q0_.mk (show w5.heap.size ≤ b49 from hg_ ▸ SB.out.size)
  generalize V17.alloc (Obj.cells #[.int .i64 0, .bool false, .string (⟨#[]⟩ : ByteArray), .slice none 0 0, .slice none 0 0] 25) = V49 at *
  rw [← hg_]
  clear hg_
  replace OWz := q0_.mk (OWz.out.below hb_)
  replace SB := q0_.mk (q4_ SB.out hb_)
  clear hb_
  refine wpAnyH_ready (rs := [0, 4]) (by decide +kernel) (by simp) ?_
  refine (AllReadyH.cons (i := 0) rfl (fun K_ hK => ?_) (AllReadyH.cons (i := 4) rfl (fun K_ hK => ?_) AllReadyH.nil))
  refine qK_ rfl ?_
  go_simp
  refine hK.out _ _ (q6_ SB.out _) (fun hS1 => ?_)
  clear hK K_; (try simp only [gA_, gB_, gC_, Act.put, gD_, gE_, gF_])
  have hb_ := q6_ (Below.refl V49.heap.size V49) (Obj.cells #[.string (⟨#[120]⟩ : ByteArray), .string (⟨#[121]⟩ : ByteArray)] 9)
  obtain ⟨b50, hg_⟩ : ∃ g, g = V49.heap.size := ⟨_, rfl⟩
  have CN := q0_.mk (rowN V49 9)
  rw [← hg_] at CN
  generalize V49.alloc (Obj.cells #[.string (⟨#[120]⟩ : ByteArray), .string (⟨#[121]⟩ : ByteArray)] 9) = V50 at *
  rw [← hg_]
  clear hg_
  replace OWz := q0_.mk (OWz.out.below hb_)
  replace ZB := q0_.mk (q2_ ZB.out hb_)
  replace SB := q0_.mk (q4_ SB.out hb_)
  clear hb_
  refine wpAnyH_ready (rs := [4]) (by decide +kernel) (by simp) ?_
  refine (AllReadyH.cons (i := 4) rfl (fun K_ hK => ?_) AllReadyH.nil)
  refine qK_ rfl ?_
  (go_simp; go_at_call 35; refine (sem_nested (x := vZ) M (by omega) OWz.out.vds).mono ?_; rintro e V51 ⟨u, rfl, ho, hb_⟩; have HRy := q0_.mk ho; obtain ⟨Ay3, cy3, Ay4, cy4, rfl, -, -, -, -⟩ := ho)
  refine hK.out _ _ (q4_ SB.out hb_) (fun hS1 => ?_)
  clear hK K_; (try simp only [gA_, gB_, gC_, Act.put, gD_, gE_, gF_])
  replace CN := q0_.mk (Kd.qD_ CN.out hb_)
  replace ZB := q0_.mk (q2_ ZB.out hb_)
  replace SB := q0_.mk (q4_ SB.out hb_)
  clear hb_
  refine wpAnyH_ready (rs := [5]) (by decide +kernel) (by simp) ?_
  refine (AllReadyH.cons (i := 5) rfl (fun K_ hK => ?_) AllReadyH.nil)
  refine qK_ rfl ?_
  go_simp
  refine hK.out _ _ (q6_ SB.out _) (fun hS1 => ?_)
  clear hK K_; (try simp only [gA_, gB_, gC_, Act.put, gD_, gE_, gF_])
  have hb_ := q6_ (Below.refl V51.heap.size V51) (Obj.cells #[.int .i64 (qx_ K vB).f0, .bool (qx_ K vB).f1, .string (qx_ K vB).f2, .slice Av3 (qx_ K vB).f3.length cv3, .slice Av4 (qx_ K vB).f4.length cv4, .int .i64 (qx_ M vZ).f0, .bool (qx_ M vZ).f1, .string (qx_ M vZ).f2, .slice Ay3 (qx_ M vZ).f3.length cy3, .slice Ay4 (qx_ M vZ).f4.length cy4] 25)
  obtain ⟨b52, hg_⟩ : ∃ g, g = V51.heap.size := ⟨_, rfl⟩
  have CV := q0_.mk (vrow ((HRv.out.below S5.out).below SB.out) HRy.out)
  rw [← hg_] at CV
  generalize V51.alloc (Obj.cells #[.int .i64 (qx_ K vB).f0, .bool (qx_ K vB).f1, .string (qx_ K vB).f2, .slice Av3 (qx_ K vB).f3.length cv3, .slice Av4 (qx_ K vB).f4.length cv4, .int .i64 (qx_ M vZ).f0, .bool (qx_ M vZ).f1, .string (qx_ M vZ).f2, .slice Ay3 (qx_ M vZ).f3.length cy3, .slice Ay4 (qx_ M vZ).f4.length cy4] 25) = V52 at *
  rw [← hg_]
  clear hg_
  replace CN := q0_.mk (Kd.qD_ CN.out hb_)
  replace ZB := q0_.mk (q2_ ZB.out hb_)
  replace SB := q0_.mk (q4_ SB.out hb_)
  clear hb_
  rotate_left 1
  refine qK_ rfl ?_
  (go_simp; go_at_call 35; refine (sem_nested (x := vZ) M (by omega) OWz.out.vds).mono ?_; rintro e V53 ⟨u, rfl, ho, hb_⟩; have HRy := q0_.mk ho; obtain ⟨Ay3, cy3, Ay4, cy4, rfl, -, -, -, -⟩ := ho)
  refine hK.out _ _ (q4_ SB.out hb_) (fun hS1 => ?_)
  clear hK K_; (try simp only [gA_, gB_, gC_, Act.put, gD_, gE_, gF_])
  replace ZB := q0_.mk (q2_ ZB.out hb_)
  replace SB := q0_.mk (q4_ SB.out hb_)
  clear hb_
  refine wpAnyH_ready (rs := [0, 5]) (by decide +kernel) (by simp) ?_
  refine (AllReadyH.cons (i := 0) rfl (fun K_ hK => ?_) (AllReadyH.cons (i := 5) rfl (fun K_ hK => ?_) AllReadyH.nil))
  refine qK_ rfl ?_
  go_simp
  refine hK.out _ _ (q6_ SB.out _) (fun hS1 => ?_)
  clear hK K_; (try simp only [gA_, gB_, gC_, Act.put, gD_, gE_, gF_])
  have hb_ := q6_ (Below.refl V53.heap.size V53) (Obj.cells #[.string (⟨#[120]⟩ : ByteArray), .string (⟨#[121]⟩ : ByteArray)] 9)
  obtain ⟨b54, hg_⟩ : ∃ g, g = V53.heap.size := ⟨_, rfl⟩
  have CN := q0_.mk (rowN V53 9)
  rw [← hg_] at CN
  generalize V53.alloc (Obj.cells #[.string (⟨#[120]⟩ : ByteArray), .string (⟨#[121]⟩ : ByteArray)] 9) = V54 at *
  rw [← hg_]
  clear hg_
  replace HRy := q0_.mk (HRy.out.below hb_)
  replace ZB := q0_.mk (q2_ ZB.out hb_)
  replace SB := q0_.mk (q4_ SB.out hb_)
  clear hb_
  refine wpAnyH_ready (rs := [5]) (by decide +kernel) (by simp) ?_
  refine (AllReadyH.cons (i := 5) rfl (fun K_ hK => ?_) AllReadyH.nil)
  refine qK_ rfl ?_
  go_simp
  refine hK.out _ _ (q6_ SB.out _) (fun hS1 => ?_)
  clear hK K_; (try simp only [gA_, gB_, gC_, Act.put, gD_, gE_, gF_])
  have hb_ := q6_ (Below.refl V54.heap.size V54) (Obj.cells #[.int .i64 (qx_ K vB).f0, .bool (qx_ K vB).f1, .string (qx_ K vB).f2, .slice Av3 (qx_ K vB).f3.length cv3, .slice Av4 (qx_ K vB).f4.length cv4, .int .i64 (qx_ M vZ).f0, .bool (qx_ M vZ).f1, .string (qx_ M vZ).f2, .slice Ay3 (qx_ M vZ).f3.length cy3, .slice Ay4 (qx_ M vZ).f4.length cy4] 25)
  obtain ⟨b55, hg_⟩ : ∃ g, g = V54.heap.size := ⟨_, rfl⟩
  have CV := q0_.mk (vrow ((HRv.out.below S5.out).below SB.out) HRy.out)
  rw [← hg_] at CV
  generalize V54.alloc (Obj.cells #[.int .i64 (qx_ K vB).f0, .bool (qx_ K vB).f1, .string (qx_ K vB).f2, .slice Av3 (qx_ K vB).f3.length cv3, .slice Av4 (qx_ K vB).f4.length cv4, .int .i64 (qx_ M vZ).f0, .bool (qx_ M vZ).f1, .string (qx_ M vZ).f2, .slice Ay3 (qx_ M vZ).f3.length cy3, .slice Ay4 (qx_ M vZ).f4.length cy4] 25) = V55 at *
  rw [← hg_]
  clear hg_
  replace CN := q0_.mk (Kd.qD_ CN.out hb_)
  replace ZB := q0_.mk (q2_ ZB.out hb_)
  replace SB := q0_.mk (q4_ SB.out hb_)
  clear hb_
  rotate_left 1
  refine qK_ rfl ?_
  go_simp
  refine hK.out _ _ (q6_ SB.out _) (fun hS1 => ?_)
  clear hK K_; (try simp only [gA_, gB_, gC_, Act.put, gD_, gE_, gF_])
  have hb_ := q6_ (Below.refl V53.heap.size V53) (Obj.cells #[.int .i64 (qx_ K vB).f0, .bool (qx_ K vB).f1, .string (qx_ K vB).f2, .slice Av3 (qx_ K vB).f3.length cv3, .slice Av4 (qx_ K vB).f4.length cv4, .int .i64 (qx_ M vZ).f0, .bool (qx_ M vZ).f1, .string (qx_ M vZ).f2, .slice Ay3 (qx_ M vZ).f3.length cy3, .slice Ay4 (qx_ M vZ).f4.length cy4] 25)
  obtain ⟨b56, hg_⟩ : ∃ g, g = V53.heap.size := ⟨_, rfl⟩
  have CV := q0_.mk (vrow ((HRv.out.below S5.out).below SB.out) HRy.out)
  rw [← hg_] at CV
  generalize V53.alloc (Obj.cells #[.int .i64 (qx_ K vB).f0, .bool (qx_ K vB).f1, .string (qx_ K vB).f2, .slice Av3 (qx_ K vB).f3.length cv3, .slice Av4 (qx_ K vB).f4.length cv4, .int .i64 (qx_ M vZ).f0, .bool (qx_ M vZ).f1, .string (qx_ M vZ).f2, .slice Ay3 (qx_ M vZ).f3.length cy3, .slice Ay4 (qx_ M vZ).f4.length cy4] 25) = V56 at *
  rw [← hg_]
  clear hg_
  replace ZB := q0_.mk (q2_ ZB.out hb_)
  replace SB := q0_.mk (q4_ SB.out hb_)
  clear hb_
  refine wpAnyH_ready (rs := [0]) (by decide +kernel) (by simp) ?_
  refine (AllReadyH.cons (i := 0) rfl (fun K_ hK => ?_) AllReadyH.nil)
  refine qK_ rfl ?_
  go_simp
  refine hK.out _ _ (q6_ SB.out _) (fun hS1 => ?_)
  clear hK K_; (try simp only [gA_, gB_, gC_, Act.put, gD_, gE_, gF_])
  have hb_ := q6_ (Below.refl V56.heap.size V56) (Obj.cells #[.string (⟨#[120]⟩ : ByteArray), .string (⟨#[121]⟩ : ByteArray)] 9)
  obtain ⟨b57, hg_⟩ : ∃ g, g = V56.heap.size := ⟨_, rfl⟩
  have CN := q0_.mk (rowN V56 9)
  rw [← hg_] at CN
  generalize V56.alloc (Obj.cells #[.string (⟨#[120]⟩ : ByteArray), .string (⟨#[121]⟩ : ByteArray)] 9) = V57 at *
  rw [← hg_]
  clear hg_
  replace CV := q0_.mk (Kd.qD_ CV.out hb_)
  replace ZB := q0_.mk (q2_ ZB.out hb_)
  replace SB := q0_.mk (q4_ SB.out hb_)
  clear hb_
  rotate_left 1
  refine qK_ rfl ?_
  go_simp
  refine hK.out _ _ (q6_ SB.out _) (fun hS1 => ?_)
  clear hK K_; (try simp only [gA_, gB_, gC_, Act.put, gD_, gE_, gF_])
  have hb_ := q6_ (Below.refl V0.heap.size V0) (Obj.cells #[.int .i64 0, .bool false, .string (⟨#[]⟩ : ByteArray), .slice none 0 0, .slice none 0 0] 25)
  obtain ⟨b58, hg_⟩ : ∃ g, g = V0.heap.size := ⟨_, rfl⟩
  have ZB := q0_.mk (blk_new V0 (Obj.cells #[.int .i64 0, .bool false, .string (⟨#[]⟩ : ByteArray), .slice none 0 0, .slice none 0 0] 25))
  rw [← hg_] at ZB
  have ZG := q0_.mk (show w5.heap.size ≤ b58 from hg_ ▸ SB.out.size)
  generalize V0.alloc (Obj.cells #[.int .i64 0, .bool false, .string (⟨#[]⟩ : ByteArray), .slice none 0 0, .slice none 0 0] 25) = V58 at *
  rw [← hg_]
  clear hg_
  replace SB := q0_.mk (q4_ SB.out hb_)
  clear hb_
  refine wpAnyH_ready (rs := [0, 2]) (by decide +kernel) (by simp) ?_
  refine (AllReadyH.cons (i := 0) rfl (fun K_ hK => ?_) (AllReadyH.cons (i := 2) rfl (fun K_ hK => ?_) AllReadyH.nil))
  refine qK_ rfl ?_
  go_simp
  refine hK.out _ _ (q6_ SB.out _) (fun hS1 => ?_)
  clear hK K_; (try simp only [gA_, gB_, gC_, Act.put, gD_, gE_, gF_])
  have hb_ := q6_ (Below.refl V58.heap.size V58) (Obj.cells #[.string (⟨#[120]⟩ : ByteArray), .string (⟨#[121]⟩ : ByteArray)] 9)
  obtain ⟨b59, hg_⟩ : ∃ g, g = V58.heap.size := ⟨_, rfl⟩
  have CN := q0_.mk (rowN V58 9)
  rw [← hg_] at CN
  generalize V58.alloc (Obj.cells #[.string (⟨#[120]⟩ : ByteArray), .string (⟨#[121]⟩ : ByteArray)] 9) = V59 at *
  rw [← hg_]
  clear hg_
  replace ZB := q0_.mk (q2_ ZB.out hb_)
  replace SB := q0_.mk (q4_ SB.out hb_)
  clear hb_
  refine wpAnyH_ready (rs := [2]) (by decide +kernel) (by simp) ?_
  refine (AllReadyH.cons (i := 2) rfl (fun K_ hK => ?_) AllReadyH.nil)
  refine qK_ rfl ?_
  (go_simp; go_at_call 32; refine (sem_text (⟨#[122]⟩ : ByteArray)).mono ?_; rintro e V60 ⟨u, rfl, ho, hb_⟩; obtain ⟨u3, u4, rfl, hu3, hu4⟩ := ho; obtain ⟨Az3, cz3, rfl⟩ := Kd.qp_ hu3; obtain ⟨Az4, cz4, rfl⟩ := Kd.qp_ hu4; have OWz := q0_.mk (show Own _ _ V60 vZ _ from ⟨_, _, rfl, hu3, hu4⟩); clear hu3 hu4)
  refine hK.out _ _ (q4_ SB.out hb_) (fun hS1 => ?_)
  clear hK K_; (try simp only [gA_, gB_, gC_, Act.put, gD_, gE_, gF_])
  replace CN := q0_.mk (Kd.qD_ CN.out hb_)
  replace ZB := q0_.mk (q2_ ZB.out hb_)
  replace SB := q0_.mk (q4_ SB.out hb_)
  clear hb_
  refine wpAnyH_ready (rs := [4]) (by decide +kernel) (by simp) ?_
  refine (AllReadyH.cons (i := 4) rfl (fun K_ hK => ?_) AllReadyH.nil)
  refine qK_ rfl ?_
  (go_simp; go_at_call 35; refine (sem_nested (x := vZ) M (by omega) OWz.out.vds).mono ?_; rintro e V61 ⟨u, rfl, ho, hb_⟩; have HRy := q0_.mk ho; obtain ⟨Ay3, cy3, Ay4, cy4, rfl, -, -, -, -⟩ := ho)
  refine hK.out _ _ (q4_ SB.out hb_) (fun hS1 => ?_)
  clear hK K_; (try simp only [gA_, gB_, gC_, Act.put, gD_, gE_, gF_])
  replace CN := q0_.mk (Kd.qD_ CN.out hb_)
  replace ZB := q0_.mk (q2_ ZB.out hb_)
  replace SB := q0_.mk (q4_ SB.out hb_)
  clear hb_
  refine wpAnyH_ready (rs := [5]) (by decide +kernel) (by simp) ?_
  refine (AllReadyH.cons (i := 5) rfl (fun K_ hK => ?_) AllReadyH.nil)
  refine qK_ rfl ?_
  go_simp
  refine hK.out _ _ (q6_ SB.out _) (fun hS1 => ?_)
  clear hK K_; (try simp only [gA_, gB_, gC_, Act.put, gD_, gE_, gF_])
  have hb_ := q6_ (Below.refl V61.heap.size V61) (Obj.cells #[.int .i64 (qx_ K vB).f0, .bool (qx_ K vB).f1, .string (qx_ K vB).f2, .slice Av3 (qx_ K vB).f3.length cv3, .slice Av4 (qx_ K vB).f4.length cv4, .int .i64 (qx_ M vZ).f0, .bool (qx_ M vZ).f1, .string (qx_ M vZ).f2, .slice Ay3 (qx_ M vZ).f3.length cy3, .slice Ay4 (qx_ M vZ).f4.length cy4] 25)
  obtain ⟨b62, hg_⟩ : ∃ g, g = V61.heap.size := ⟨_, rfl⟩
  have CV := q0_.mk (vrow ((HRv.out.below S5.out).below SB.out) HRy.out)
  rw [← hg_] at CV
  generalize V61.alloc (Obj.cells #[.int .i64 (qx_ K vB).f0, .bool (qx_ K vB).f1, .string (qx_ K vB).f2, .slice Av3 (qx_ K vB).f3.length cv3, .slice Av4 (qx_ K vB).f4.length cv4, .int .i64 (qx_ M vZ).f0, .bool (qx_ M vZ).f1, .string (qx_ M vZ).f2, .slice Ay3 (qx_ M vZ).f3.length cy3, .slice Ay4 (qx_ M vZ).f4.length cy4] 25) = V62 at *
  rw [← hg_]
  clear hg_
  replace CN := q0_.mk (Kd.qD_ CN.out hb_)
  replace ZB := q0_.mk (q2_ ZB.out hb_)
  replace SB := q0_.mk (q4_ SB.out hb_)
  clear hb_
  rotate_left 1
  refine qK_ rfl ?_
  (go_simp; go_at_call 32; refine (sem_text (⟨#[122]⟩ : ByteArray)).mono ?_; rintro e V63 ⟨u, rfl, ho, hb_⟩; obtain ⟨u3, u4, rfl, hu3, hu4⟩ := ho; obtain ⟨Az3, cz3, rfl⟩ := Kd.qp_ hu3; obtain ⟨Az4, cz4, rfl⟩ := Kd.qp_ hu4; have OWz := q0_.mk (show Own _ _ V63 vZ _ from ⟨_, _, rfl, hu3, hu4⟩); clear hu3 hu4)
  refine hK.out _ _ (q4_ SB.out hb_) (fun hS1 => ?_)
  clear hK K_; (try simp only [gA_, gB_, gC_, Act.put, gD_, gE_, gF_])
  replace ZB := q0_.mk (q2_ ZB.out hb_)
  replace SB := q0_.mk (q4_ SB.out hb_)
  clear hb_
  refine wpAnyH_ready (rs := [0, 4]) (by decide +kernel) (by simp) ?_
  refine (AllReadyH.cons (i := 0) rfl (fun K_ hK => ?_) (AllReadyH.cons (i := 4) rfl (fun K_ hK => ?_) AllReadyH.nil))
  refine qK_ rfl ?_
  go_simp
  refine hK.out _ _ (q6_ SB.out _) (fun hS1 => ?_)
  clear hK K_; (try simp only [gA_, gB_, gC_, Act.put, gD_, gE_, gF_])
  have hb_ := q6_ (Below.refl V63.heap.size V63) (Obj.cells #[.string (⟨#[120]⟩ : ByteArray), .string (⟨#[121]⟩ : ByteArray)] 9)
  obtain ⟨b64, hg_⟩ : ∃ g, g = V63.heap.size := ⟨_, rfl⟩
  have CN := q0_.mk (rowN V63 9)
  rw [← hg_] at CN
  generalize V63.alloc (Obj.cells #[.string (⟨#[120]⟩ : ByteArray), .string (⟨#[121]⟩ : ByteArray)] 9) = V64 at *
  rw [← hg_]
  clear hg_
  replace OWz := q0_.mk (OWz.out.below hb_)
  replace ZB := q0_.mk (q2_ ZB.out hb_)
  replace SB := q0_.mk (q4_ SB.out hb_)
  clear hb_
  refine wpAnyH_ready (rs := [4]) (by decide +kernel) (by simp) ?_
  refine (AllReadyH.cons (i := 4) rfl (fun K_ hK => ?_) AllReadyH.nil)
  refine qK_ rfl ?_
  (go_simp; go_at_call 35; refine (sem_nested (x := vZ) M (by omega) OWz.out.vds).mono ?_; rintro e V65 ⟨u, rfl, ho, hb_⟩; have HRy := q0_.mk ho; obtain ⟨Ay3, cy3, Ay4, cy4, rfl, -, -, -, -⟩ := ho)
  refine hK.out _ _ (q4_ SB.out hb_) (fun hS1 => ?_)
  clear hK K_; (try simp only [gA_, gB_, gC_, Act.put, gD_, gE_, gF_])
  replace CN := q0_.mk (Kd.qD_ CN.out hb_)
  replace ZB := q0_.mk (q2_ ZB.out hb_)
  replace SB := q0_.mk (q4_ SB.out hb_)
  clear hb_
  refine wpAnyH_ready (rs := [5]) (by decide +kernel) (by simp) ?_
  refine (AllReadyH.cons (i := 5) rfl (fun K_ hK => ?_) AllReadyH.nil)
  refine qK_ rfl ?_
  go_simp
  refine hK.out _ _ (q6_ SB.out _) (fun hS1 => ?_)
  clear hK K_; (try simp only [gA_, gB_, gC_, Act.put, gD_, gE_, gF_])
  have hb_ := q6_ (Below.refl V65.heap.size V65) (Obj.cells #[.int .i64 (qx_ K vB).f0, .bool (qx_ K vB).f1, .string (qx_ K vB).f2, .slice Av3 (qx_ K vB).f3.length cv3, .slice Av4 (qx_ K vB).f4.length cv4, .int .i64 (qx_ M vZ).f0, .bool (qx_ M vZ).f1, .string (qx_ M vZ).f2, .slice Ay3 (qx_ M vZ).f3.length cy3, .slice Ay4 (qx_ M vZ).f4.length cy4] 25)
  obtain ⟨b66, hg_⟩ : ∃ g, g = V65.heap.size := ⟨_, rfl⟩
  have CV := q0_.mk (vrow ((HRv.out.below S5.out).below SB.out) HRy.out)
  rw [← hg_] at CV
  generalize V65.alloc (Obj.cells #[.int .i64 (qx_ K vB).f0, .bool (qx_ K vB).f1, .string (qx_ K vB).f2, .slice Av3 (qx_ K vB).f3.length cv3, .slice Av4 (qx_ K vB).f4.length cv4, .int .i64 (qx_ M vZ).f0, .bool (qx_ M vZ).f1, .string (qx_ M vZ).f2, .slice Ay3 (qx_ M vZ).f3.length cy3, .slice Ay4 (qx_ M vZ).f4.length cy4] 25) = V66 at *
  rw [← hg_]
  clear hg_
  replace CN := q0_.mk (Kd.qD_ CN.out hb_)
  replace ZB := q0_.mk (q2_ ZB.out hb_)
  replace SB := q0_.mk (q4_ SB.out hb_)
  clear hb_
  rotate_left 1
  refine qK_ rfl ?_
  (go_simp; go_at_call 35; refine (sem_nested (x := vZ) M (by omega) OWz.out.vds).mono ?_; rintro e V67 ⟨u, rfl, ho, hb_⟩; have HRy := q0_.mk ho; obtain ⟨Ay3, cy3, Ay4, cy4, rfl, -, -, -, -⟩ := ho)
  refine hK.out _ _ (q4_ SB.out hb_) (fun hS1 => ?_)
  clear hK K_; (try simp only [gA_, gB_, gC_, Act.put, gD_, gE_, gF_])
  replace ZB := q0_.mk (q2_ ZB.out hb_)
  replace SB := q0_.mk (q4_ SB.out hb_)
  clear hb_
  refine wpAnyH_ready (rs := [0, 5]) (by decide +kernel) (by simp) ?_
  refine (AllReadyH.cons (i := 0) rfl (fun K_ hK => ?_) (AllReadyH.cons (i := 5) rfl (fun K_ hK => ?_) AllReadyH.nil))
  refine qK_ rfl ?_
  go_simp
  refine hK.out _ _ (q6_ SB.out _) (fun hS1 => ?_)
  clear hK K_; (try simp only [gA_, gB_, gC_, Act.put, gD_, gE_, gF_])
  have hb_ := q6_ (Below.refl V67.heap.size V67) (Obj.cells #[.string (⟨#[120]⟩ : ByteArray), .string (⟨#[121]⟩ : ByteArray)] 9)
  obtain ⟨b68, hg_⟩ : ∃ g, g = V67.heap.size := ⟨_, rfl⟩
  have CN := q0_.mk (rowN V67 9)
  rw [← hg_] at CN
  generalize V67.alloc (Obj.cells #[.string (⟨#[120]⟩ : ByteArray), .string (⟨#[121]⟩ : ByteArray)] 9) = V68 at *
  rw [← hg_]
  clear hg_
  replace HRy := q0_.mk (HRy.out.below hb_)
  replace ZB := q0_.mk (q2_ ZB.out hb_)
  replace SB := q0_.mk (q4_ SB.out hb_)
  clear hb_
  refine wpAnyH_ready (rs := [5]) (by decide +kernel) (by simp) ?_
  refine (AllReadyH.cons (i := 5) rfl (fun K_ hK => ?_) AllReadyH.nil)
  refine qK_ rfl ?_
  go_simp
  refine hK.out _ _ (q6_ SB.out _) (fun hS1 => ?_)
  clear hK K_; (try simp only [gA_, gB_, gC_, Act.put, gD_, gE_, gF_])
  have hb_ := q6_ (Below.refl V68.heap.size V68) (Obj.cells #[.int .i64 (qx_ K vB).f0, .bool (qx_ K vB).f1, .string (qx_ K vB).f2, .slice Av3 (qx_ K vB).f3.length cv3, .slice Av4 (qx_ K vB).f4.length cv4, .int .i64 (qx_ M vZ).f0, .bool (qx_ M vZ).f1, .string (qx_ M vZ).f2, .slice Ay3 (qx_ M vZ).f3.length cy3, .slice Ay4 (qx_ M vZ).f4.length cy4] 25)
  obtain ⟨b69, hg_⟩ : ∃ g, g = V68.heap.size := ⟨_, rfl⟩
  have CV := q0_.mk (vrow ((HRv.out.below S5.out).below SB.out) HRy.out)
  rw [← hg_] at CV
  generalize V68.alloc (Obj.cells #[.int .i64 (qx_ K vB).f0, .bool (qx_ K vB).f1, .string (qx_ K vB).f2, .slice Av3 (qx_ K vB).f3.length cv3, .slice Av4 (qx_ K vB).f4.length cv4, .int .i64 (qx_ M vZ).f0, .bool (qx_ M vZ).f1, .string (qx_ M vZ).f2, .slice Ay3 (qx_ M vZ).f3.length cy3, .slice Ay4 (qx_ M vZ).f4.length cy4] 25) = V69 at *
  rw [← hg_]
  clear hg_
  replace CN := q0_.mk (Kd.qD_ CN.out hb_)
  replace ZB := q0_.mk (q2_ ZB.out hb_)
  replace SB := q0_.mk (q4_ SB.out hb_)
  clear hb_
  rotate_left 1
  refine qK_ rfl ?_
  go_simp
  refine hK.out _ _ (q6_ SB.out _) (fun hS1 => ?_)
  clear hK K_; (try simp only [gA_, gB_, gC_, Act.put, gD_, gE_, gF_])
  have hb_ := q6_ (Below.refl V67.heap.size V67) (Obj.cells #[.int .i64 (qx_ K vB).f0, .bool (qx_ K vB).f1, .string (qx_ K vB).f2, .slice Av3 (qx_ K vB).f3.length cv3, .slice Av4 (qx_ K vB).f4.length cv4, .int .i64 (qx_ M vZ).f0, .bool (qx_ M vZ).f1, .string (qx_ M vZ).f2, .slice Ay3 (qx_ M vZ).f3.length cy3, .slice Ay4 (qx_ M vZ).f4.length cy4] 25)
  obtain ⟨b70, hg_⟩ : ∃ g, g = V67.heap.size := ⟨_, rfl⟩
  have CV := q0_.mk (vrow ((HRv.out.below S5.out).below SB.out) HRy.out)
  rw [← hg_] at CV
  generalize V67.alloc (Obj.cells #[.int .i64 (qx_ K vB).f0, .bool (qx_ K vB).f1, .string (qx_ K vB).f2, .slice Av3 (qx_ K vB).f3.length cv3, .slice Av4 (qx_ K vB).f4.length cv4, .int .i64 (qx_ M vZ).f0, .bool (qx_ M vZ).f1, .string (qx_ M vZ).f2, .slice Ay3 (qx_ M vZ).f3.length cy3, .slice Ay4 (qx_ M vZ).f4.length cy4] 25) = V70 at *
  rw [← hg_]
  clear hg_
  replace ZB := q0_.mk (q2_ ZB.out hb_)
  replace SB := q0_.mk (q4_ SB.out hb_)
  clear hb_
  refine wpAnyH_ready (rs := [0]) (by decide +kernel) (by simp) ?_
  refine (AllReadyH.cons (i := 0) rfl (fun K_ hK => ?_) AllReadyH.nil)
  refine qK_ rfl ?_
  go_simp
  refine hK.out _ _ (q6_ SB.out _) (fun hS1 => ?_)
  clear hK K_; (try simp only [gA_, gB_, gC_, Act.put, gD_, gE_, gF_])
  have hb_ := q6_ (Below.refl V70.heap.size V70) (Obj.cells #[.string (⟨#[120]⟩ : ByteArray), .string (⟨#[121]⟩ : ByteArray)] 9)
  obtain ⟨b71, hg_⟩ : ∃ g, g = V70.heap.size := ⟨_, rfl⟩
  have CN := q0_.mk (rowN V70 9)
  rw [← hg_] at CN
  generalize V70.alloc (Obj.cells #[.string (⟨#[120]⟩ : ByteArray), .string (⟨#[121]⟩ : ByteArray)] 9) = V71 at *
  rw [← hg_]
  clear hg_
  replace CV := q0_.mk (Kd.qD_ CV.out hb_)
  replace ZB := q0_.mk (q2_ ZB.out hb_)
  replace SB := q0_.mk (q4_ SB.out hb_)
  clear hb_
  all_goals first
  | (have q_ := OWw; clear q_)
  | (
    refine wpAnyH_ready (rs := [6]) (by decide +kernel) (by simp) ?_
    refine (AllReadyH.cons (i := 6) rfl (fun K_ hK => ?_) AllReadyH.nil)
    refine qK_ rfl ?_
    have GL := q0_.mk (qY_ ZB.out)
    (go_simp; go_at_call 27; refine (sem_make (n := xy) (l := [qx_ K vB, qx_ M vZ]) CN.out (by decide) CV.out (Nat.le_refl _) rfl (fit_two (fit_v K) (fit_z M))).mono ?_; rintro e V72 ⟨u, rfl, ho, hb_⟩; obtain ⟨u3, u4, rfl, hu3, hu4⟩ := ho; obtain ⟨Aw3, cw3, rfl⟩ := Kd.qp_ hu3; obtain ⟨Aw4, cw4, rfl⟩ := Kd.qp_ hu4; have OWw := q0_.mk (show Own _ _ V72 (objV xy [qx_ K vB, qx_ M vZ]) _ from ⟨_, _, rfl, hu3, hu4⟩); clear hu3 hu4 CN CV)
    refine hK.out _ _ (q4_ SB.out hb_) (fun hS1 => ?_)
    clear hK K_; (try simp only [gA_, gB_, gC_, Act.put, gD_, gE_, gF_])
    replace ZB := q0_.mk (q2_ ZB.out hb_)
    replace SB := q0_.mk (q4_ SB.out hb_)
    clear hb_
    (refine wpAnyH_take (i := 7) (v := ?_) rfl (by kernel_rfl) (by kernel_rfl) (by kernel_rfl) (fun _ _ _ h => h) (Or.inl ⟨by rfl, ?_⟩) (by assumption) ?_; rotate_left; (focus (intro w_ hSw; clear hSw; go_simp; try with_reducible rfl)); (try simp only [gA_, gB_, gC_, Act.put, gD_, gE_, gF_]))
    (refine wpAnyH_take (i := 8) (v := ?_) rfl (by kernel_rfl) (by kernel_rfl) (by kernel_rfl) (fun _ _ _ h => h) (Or.inl ⟨by rfl, ?_⟩) (by assumption) ?_; rotate_left; (focus (intro w_ hSw; clear hSw; go_simp; try with_reducible rfl)); (try simp only [gA_, gB_, gC_, Act.put, gD_, gE_, gF_]))
    (refine wpAnyH_take (i := 9) (v := ?_) rfl (by kernel_rfl) (by kernel_rfl) (by kernel_rfl) (fun _ _ _ h => h) (Or.inl ⟨by rfl, ?_⟩) (by assumption) ?_; rotate_left; (focus (intro w_ hSw; clear hSw; go_simp; try with_reducible rfl)); (try simp only [gA_, gB_, gC_, Act.put, gD_, gE_, gF_])))
  all_goals
   obtain ⟨z0, z1, z2, z3, z4, y0, y1, y2, y3, y4⟩ := blk5z ZB.out
   refine wpAnyH_ready (rs := [11]) (by decide +kernel) (by simp) ?_
   refine AllReadyH.cons (i := 11) rfl (fun K_ hK => ?_) AllReadyH.nil
   refine qK_ rfl ?_
   go_simp
   obtain ⟨l1, l2, l3⟩ := leafC ZB.out (by first | exact Or.inr ZF.out | exact Or.inl GL.out) OWw.out SB.out ZG.out
   refine hK.out _ _ l3 (fun hS1 => ?_)
   clear hK K_; (try simp only [gA_, gB_, gC_, Act.put, gD_, gE_, gF_])
   (refine wpAnyH_take (i := 12) (v := ?_) rfl (by kernel_rfl) (by kernel_rfl) (by kernel_rfl) (fun _ _ _ h => h) (Or.inl ⟨by rfl, ?_⟩) (by assumption) ?_; rotate_left; (focus (intro w_ hSw; clear hSw; go_simp; try with_reducible rfl)); (try simp only [gA_, gB_, gC_, Act.put, gD_, gE_, gF_]))
   refine wpAnyH_done (by decide +kernel) ?_ _
   (go_wp2_with (fail); go_meet; case rel => exact ⟨_, _, _, _, _, rfl, rfl, ⟨l1⟩, ⟨l2⟩, ⟨l3⟩⟩)
 case rest =>
  obtain ⟨gw, Aw3, Aw4, cw3, cw4, rfl, rfl, BKw, HRw, S6⟩ := hcut
  have HB : q0_ (Below w.heap.size w wc) := ⟨q4_ (q4_ (q4_ (q4_ (q4_ S1.out S2.out) S3.out) S4.out) S5.out) S6.out⟩
  have HTc : q0_ (TAB wc) := ⟨TAB.below HT.out HB.out⟩
  have HRvc := q0_.mk ((HRv.out.below S5.out).below S6.out)
  replace BKv := q0_.mk (q2_ BKv.out S6.out)
  clear by_ bk_ bx_ bj_ bz_ HRv S1 S2 S3 S4 S5 S6 HT OWp
  obtain ⟨by_, bk_, bx_, bj_, bz_⟩ := qV_ BKv.out
  obtain ⟨DH_, Dh_, DG_, Dg_, DW_⟩ := qV_ BKw.out
  by_cases g1 : (128 : Int) < (K : Int) + 1
  all_goals by_cases g2 : (128 : Int) < max (K : Int) (M : Int) + 2
  all_goals
   (first | have e1 := decide_eq_true g1 | have e1 := decide_eq_false g1)
   (first | have e2 := decide_eq_true g2 | have e2 := decide_eq_false g2)
   have HC1 : q0_ (checkV (qx_ K vB) = if (128 : Int) < (K : Int) + 1 then 111 else 0) := ⟨check_vi K⟩
   have HC2 : q0_ (checkV (objV xy [qx_ K vB, qx_ M vZ]) = if (128 : Int) < max (K : Int) (M : Int) + 2 then 111 else 0) := ⟨check_wi K M⟩
   (first | rw [if_pos g1] at HC1 | rw [if_neg g1] at HC1)
   (first | rw [if_pos g2] at HC2 | rw [if_neg g2] at HC2)
   have HD1 : q0_ ((qF_ (qx_ K vB) : Int) = (K : Int) + 1 ∧ qF_ (qx_ K vB) ≤ 4611686018427387904) := ⟨by rw [depth_v]; omega⟩
   have HD2 : q0_ ((qF_ (objV xy [qx_ K vB, qx_ M vZ]) : Int) = max (K : Int) (M : Int) + 2 ∧ qF_ (objV xy [qx_ K vB, qx_ M vZ]) ≤ 4611686018427387904) := ⟨by rw [depth_w]; omega⟩
   go_wp2_with (first
    | (go_at_call 18; (with_reducible refine (sem_depth_at HD1.out.1 HRvc.out (fit_v K) HD1.out.2).mono ?_); rintro e w1 ⟨rfl, hb⟩; have S1 := q0_.mk hb; clear hb; replace BKv := q0_.mk (q2_ BKv.out S1.out); (try clear by_ bk_ bx_ bj_ bz_); obtain ⟨by_, bk_, bx_, bj_, bz_⟩ := qV_ BKv.out; replace BKw := q0_.mk (q2_ BKw.out S1.out); (try clear DH_ Dh_ DG_ Dg_ DW_); obtain ⟨DH_, Dh_, DG_, Dg_, DW_⟩ := qV_ BKw.out)
    | (go_at_call 18; (with_reducible refine (sem_depth_at HD2.out.1 (HRw.out.below S1.out) (fit_two (fit_v K) (fit_z M)) HD2.out.2).mono ?_); rintro e w2 ⟨rfl, hb⟩; have S2 := q0_.mk hb; clear hb; replace BKv := q0_.mk (q2_ BKv.out S2.out); (try clear by_ bk_ bx_ bj_ bz_); obtain ⟨by_, bk_, bx_, bj_, bz_⟩ := qV_ BKv.out; replace BKw := q0_.mk (q2_ BKw.out S2.out); (try clear DH_ Dh_ DG_ Dg_ DW_); obtain ⟨DH_, Dh_, DG_, Dg_, DW_⟩ := qV_ BKw.out)
    | (go_at_call 16; (with_reducible refine (sem_check_at HC1.out ((HRvc.out.below S1.out).below S2.out) (fit_v K) HD1.out.2).mono ?_); rintro e w3 ⟨rfl, hb⟩; have S3 := q0_.mk hb; clear hb; replace BKv := q0_.mk (q2_ BKv.out S3.out); (try clear by_ bk_ bx_ bj_ bz_); obtain ⟨by_, bk_, bx_, bj_, bz_⟩ := qV_ BKv.out; replace BKw := q0_.mk (q2_ BKw.out S3.out); (try clear DH_ Dh_ DG_ Dg_ DW_); obtain ⟨DH_, Dh_, DG_, Dg_, DW_⟩ := qV_ BKw.out)
    | (go_at_call 16; (with_reducible refine (sem_check_at HC2.out (((HRw.out.below S1.out).below S2.out).below S3.out) (fit_two (fit_v K) (fit_z M)) HD2.out.2).mono ?_); rintro e w4 ⟨rfl, hb⟩; have S4 := q0_.mk hb; clear hb; replace BKv := q0_.mk (q2_ BKv.out S4.out); (try clear by_ bk_ bx_ bj_ bz_); obtain ⟨by_, bk_, bx_, bj_, bz_⟩ := qV_ BKv.out; replace BKw := q0_.mk (q2_ BKw.out S4.out); (try clear DH_ Dh_ DG_ Dg_ DW_); obtain ⟨DH_, Dh_, DG_, Dg_, DW_⟩ := qV_ BKw.out)
    | (go_at_call 14; (with_reducible refine (colophonlaw10_awake.calls true _ (TAB.below (TAB.below (TAB.below (TAB.below HTc.out S1.out) S2.out) S3.out) S4.out) rfl).mono ?_); rintro e w5 ⟨rfl, hb⟩; have S5 := q0_.mk hb; clear hb; replace BKv := q0_.mk (q2_ BKv.out S5.out); (try clear by_ bk_ bx_ bj_ bz_); obtain ⟨by_, bk_, bx_, bj_, bz_⟩ := qV_ BKv.out; replace BKw := q0_.mk (q2_ BKw.out S5.out); (try clear DH_ Dh_ DG_ Dg_ DW_); obtain ⟨DH_, Dh_, DG_, Dg_, DW_⟩ := qV_ BKw.out))
   go_ret
   exact ⟨rfl, q4_ HB.out (q4_ (q4_ (q4_ (q4_ S1.out S2.out) S3.out) S4.out) S5.out)⟩
end Go.Proofs.YtfpmompdgmklmaaDoor.P
/- ValueDeep: of all two numbers. -/
namespace Go.Proofs.YtfpmompdgmklmaaDoor.P
open Go.RowKit Go.Proofs.YtfpmompdgmklmaaDoorW.PrintWords
theorem deep_walk (a b : Int) (w : World) (hT : TAB w) : Calls Tryd.prog 11 #[.int .i64 a, .int .i64 b] w fun e w' => e = .returned (.bool true) ∧ Below w.heap.size w w' := by
 have h1 := bring_is a 201 (by omega) (by omega)
 have h2 := bring_is b 101 (by omega) (by omega)
 have p1 := Int.emod_nonneg a (show (201 : Int) ≠ 0 by omega)
 have p2 := Int.emod_lt_of_pos a (show (0 : Int) < 201 by omega)
 have p3 := Int.emod_nonneg b (show (101 : Int) ≠ 0 by omega)
 have p4 := Int.emod_lt_of_pos b (show (0 : Int) < 101 by omega)
 refine deep_case a b (a % 201).toNat (b % 101).toNat w ?_ ?_ (by omega) (by omega) hT
 · rw [h1, Int.toNat_of_nonneg p1]
 · rw [h2, Int.toNat_of_nonneg p3]
end Go.Proofs.YtfpmompdgmklmaaDoor.P
