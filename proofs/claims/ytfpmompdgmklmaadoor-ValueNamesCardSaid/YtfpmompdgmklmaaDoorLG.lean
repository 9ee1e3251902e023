/- The walk of a law of chapter 10. -/
import Derived.Test.YtfpmompdgmklmaaDoorVX
import Derived.Test.YtfpmompdgmklmaaDoorVA
namespace Go.Proofs.YtfpmompdgmklmaaDoor.P
open Go.RowKit Go.Proofs.YtfpmompdgmklmaaDoorW.PrintWords Go.Proofs.YtfpmompdgmklmaaDoorW.PrintLast Go.Proofs.YtfpmompdgmklmaaDoorW.PrintMore
set_option linter.unusedVariables false
set_option linter.unusedSimpArgs false
set_option maxHeartbeats 4000000 in
set_option maxRecDepth 100000 in
theorem gets_deep (x : S25) (s : ByteArray) (vx : Value) (w : World) (hrx : Rds w x vx) (hfx : fitV x = true) (hs : s.size ≤ 140737488351232) (hT : TAB w) (hd : anyDeep [x] = true) : Calls Tryd.prog 5 #[vx, .string s] w fun e w' => e = .returned (.bool true) ∧ Below w.heap.size w w' := by
 have kP_ := Tryd.underlying25
 have HT := q0_.mk hT
 clear hT
 have HRx := q0_.mk hrx
 have HFx := q0_.mk hfx
 clear hfx
 obtain ⟨Ax3, cx3, Ax4, cx4, rfl, -, -, -, -⟩ := hrx
 have HDF := q0_.mk (show ∀ y ∈ [x], fitV y = true from fun y hy => by rw [List.mem_singleton.mp hy]; exact HFx.out)
 have HD := q0_.mk hd
 clear hd
 go_enter Tryd.func5, Tryd.ntmps5
 go_wp2_with (first
  | ((with_reducible refine qZ_ (N := 2) rfl ?_); refine qJ_ ?hg (N := 2) ?hd (cs := #[.int .i64 x.f0, .bool x.f1, .string x.f2, .slice Ax3 x.f3.length cx3, .slice Ax4 x.f4.length cx4]) (t := 25) ?hr ?_; (case hd => rfl); (case hg => rfl); (case hr => first | (go_simp; done) | (go_simp; rfl)); intro gx hg w1 hbox hb; have S1 := q0_.mk hb; have BKx := q0_.mk hbox; have GLx : q0_ (gx < w1.heap.size) := ⟨qY_ hbox⟩; clear hg hb hbox; (try clear jD_ jd_ jB_ jb_ jF_); obtain ⟨jD_, jd_, jB_, jb_, jF_⟩ := qV_ BKx.out)
  | ((with_reducible refine qZ_ (N := 13) rfl ?_); (try (refine gate_guard (by rfl) ?_; dsimp only)); refine lit_read k25 25 ?hg (N := 13) ?hd (xs := [x]) (inner := [.int .i64 x.f0, .bool x.f1, .string x.f2, .slice Ax3 x.f3.length cx3, .slice Ax4 x.f4.length cx4]) ?hr (reps1 (HRx.out.below S1.out).isK rfl) (by simp) ?_; (case hd => rfl); (case hg => rfl); (case hr => first | (go_simp; done) | (go_simp; rfl)); intro Ad cd w2 hc hl hb; have HCd := q0_.mk hc; have HLd := q0_.mk hl; have S2 := q0_.mk hb; clear hc hl hb; replace BKx := q0_.mk (q2_ BKx.out S2.out); (try clear jD_ jd_ jB_ jb_ jF_); obtain ⟨jD_, jd_, jB_, jb_, jF_⟩ := qV_ BKx.out)
  | (go_at_call 13; refine (sem_deep HCd.out HLd.out HDF.out).mono ?_; rintro e w3 ⟨rfl, hb⟩; have S3 := q0_.mk hb; clear hb; rw [HD.out]; replace BKx := q0_.mk (q2_ BKx.out S3.out); (try clear jD_ jd_ jB_ jb_ jF_); obtain ⟨jD_, jd_, jB_, jb_, jF_⟩ := qV_ BKx.out)
  | (go_at_call 14; (with_reducible refine (colophonlaw10_awake.calls true _ (TAB.below (TAB.below (TAB.below HT.out S1.out) S2.out) S3.out) rfl).mono ?_); rintro e w4 ⟨rfl, hb⟩; have S4 := q0_.mk hb; clear hb; replace BKx := q0_.mk (q2_ BKx.out S4.out); (try clear jD_ jd_ jB_ jb_ jF_); obtain ⟨jD_, jd_, jB_, jb_, jF_⟩ := qV_ BKx.out))
 go_ret
 exact ⟨rfl, (q4_ (q4_ (q4_ S1.out S2.out) S3.out) S4.out)⟩
set_option maxHeartbeats 4000000 in
set_option maxRecDepth 100000 in
theorem gets_case (x : S25) (s : ByteArray) (vx : Value) (w : World) (hrx : Rds w x vx) (hfx : fitV x = true) (hs : s.size ≤ 140737488351232) (hT : TAB w) (hd : anyDeep [x] = false) : Calls Tryd.prog 5 #[vx, .string s] w fun e w' => e = .returned (.bool true) ∧ Below w.heap.size w w' := by
 have kP_ := Tryd.underlying25
 have HT := q0_.mk hT
 clear hT
 have HRx := q0_.mk hrx
 have HFx := q0_.mk hfx
 clear hfx
 obtain ⟨Ax3, cx3, Ax4, cx4, rfl, -, -, -, -⟩ := hrx
 have HDF := q0_.mk (show ∀ y ∈ [x], fitV y = true from fun y hy => by rw [List.mem_singleton.mp hy]; exact HFx.out)
 have HD := q0_.mk hd
 have hu23 := Tryd.underlying23
 have hi9 : (Tryd.prog.info? 9).map (fun i => (i.zero, i.size, i.bytes)) = some (some (.string ByteArray.empty), 1, 16) := by rfl
 have HI9 := q0_.mk hi9
 have HS := q0_.mk hs
 have HFN := q0_.mk (show x.f4.length * 16 ≤ 140737488351232 from (fit_parts (show fitV ⟨x.f0, x.f1, x.f2, x.f3, x.f4⟩ = true from by rw [fit_eta]; exact HFx.out)).2.2.1)
 clear hd hi9 hs
 go_enter Tryd.func5, Tryd.ntmps5
 go_wp2_with (first
  | ((with_reducible refine qZ_ (N := 2) rfl ?_); refine qJ_ ?hg (N := 2) ?hd (cs := #[.int .i64 x.f0, .bool x.f1, .string x.f2, .slice Ax3 x.f3.length cx3, .slice Ax4 x.f4.length cx4]) (t := 25) ?hr ?_; (case hd => rfl); (case hg => rfl); (case hr => first | (go_simp; done) | (go_simp; rfl)); intro gx hg w1 hbox hb; have S1 := q0_.mk hb; have BKx := q0_.mk hbox; have GLx : q0_ (gx < w1.heap.size) := ⟨qY_ hbox⟩; clear hg hb hbox; (try clear jD_ jd_ jB_ jb_ jF_); obtain ⟨jD_, jd_, jB_, jb_, jF_⟩ := qV_ BKx.out)
  | ((with_reducible refine qZ_ (N := 13) rfl ?_); (try (refine gate_guard (by rfl) ?_; dsimp only)); refine lit_read k25 25 ?hg (N := 13) ?hd (xs := [x]) (inner := [.int .i64 x.f0, .bool x.f1, .string x.f2, .slice Ax3 x.f3.length cx3, .slice Ax4 x.f4.length cx4]) ?hr (reps1 (HRx.out.below S1.out).isK rfl) (by simp) ?_; (case hd => rfl); (case hg => rfl); (case hr => first | (go_simp; done) | (go_simp; rfl)); intro Ad cd w2 hc hl hb; have HCd := q0_.mk hc; have HLd := q0_.mk hl; have S2 := q0_.mk hb; clear hc hl hb; replace BKx := q0_.mk (q2_ BKx.out S2.out); (try clear jD_ jd_ jB_ jb_ jF_); obtain ⟨jD_, jd_, jB_, jb_, jF_⟩ := qV_ BKx.out)
  | (go_at_call 13; refine (sem_deep HCd.out HLd.out HDF.out).mono ?_; rintro e w3 ⟨rfl, hb⟩; have S3 := q0_.mk hb; clear hb; rw [HD.out]; replace BKx := q0_.mk (q2_ BKx.out S3.out); (try clear jD_ jd_ jB_ jb_ jF_); obtain ⟨jD_, jd_, jB_, jb_, jF_⟩ := qV_ BKx.out)
  | (go_at_call 15; (with_reducible refine (sem_copyA (((HRx.out.below S1.out).below S2.out).below S3.out) HFx.out).mono ?_); rintro e w4 ⟨Ah3, ch3, Ah4, ch4, rfl, g3, g4, hb⟩; have R3h := q0_.mk g3; have R4h := q0_.mk g4; have S4 := q0_.mk hb; clear g3 g4 hb; replace BKx := q0_.mk (q2_ BKx.out S4.out); (try clear jD_ jd_ jB_ jb_ jF_); obtain ⟨jD_, jd_, jB_, jb_, jF_⟩ := qV_ BKx.out)
  | ((with_reducible refine qZ_ (N := 5) rfl ?_); refine qJ_ ?hg (N := 5) ?hd (cs := #[.int .i64 0, .bool false, .string (⟨#[]⟩ : ByteArray), .slice none 0 0, .slice none 0 0]) (t := 25) ?hr ?_; (case hd => rfl); (case hg => rfl); (case hr => first | (go_simp; done) | (go_simp; rfl)); intro gh hg wah hbox hb; have SAh := q0_.mk hb; have BAh := q0_.mk hbox; have GAh := q0_.mk hg; clear hg hb hbox; obtain ⟨zh_0, zh_1, zh_2, zh_3, zh_4, yh_0, yh_1, yh_2, yh_3, yh_4⟩ := blk5z BAh.out)
  | ((with_reducible refine qH_ (p := 5) rfl ?_); refine qW_ (w1 := wah.setCells gh 0 [.int .i64 x.f0, .bool x.f1, .string x.f2, .slice Ah3 x.f3.length ch3, .slice Ah4 x.f4.length ch4]) rfl rfl rfl ?hr ?_; (case hr => first | (go_simp; done) | (go_simp; rfl)); intro w5 hw_; have BKh : q0_ (w5.heap[gh]? = some (.cells #[.int .i64 x.f0, .bool x.f1, .string x.f2, .slice Ah3 x.f3.length ch3, .slice Ah4 x.f4.length ch4] 25 (0, 0))) := ⟨by rw [hw_]; exact (blk_put5 BAh.out)⟩; have S5 : q0_ (Below w4.heap.size w4 w5) := ⟨by rw [hw_]; exact (qb_ SAh.out (Nat.le_of_eq GAh.out.symm))⟩; clear hw_ SAh BAh zh_0 yh_0 zh_1 yh_1 zh_2 yh_2 zh_3 yh_3 zh_4 yh_4; have GLh : q0_ (gh < w5.heap.size) := ⟨qY_ BKh.out⟩; replace BKx := q0_.mk (q2_ BKx.out S5.out); (try clear jD_ jd_ jB_ jb_ jF_); obtain ⟨jD_, jd_, jB_, jb_, jF_⟩ := qV_ BKx.out; (try clear r2_ r1_ r0_ PS_ Ps_); obtain ⟨r2_, r1_, r0_, PS_, Ps_⟩ := qV_ BKh.out)
  | ((with_reducible refine qZ_ (N := 21) rfl ?_); (try (refine gate_guard (by rfl) ?_; dsimp only)); refine lit_read Kd.string 9 ?hg (N := 21) ?hd (xs := [s]) (inner := [.string s]) ?hr (Reps.one rfl (Reps.none _ _)) (by simp) ?_; (case hd => rfl); (case hg => rfl); (case hr => first | (go_simp; done) | (go_simp; rfl)); intro An cn w6 hc hl hb; have HCn := q0_.mk hc; have HLn := q0_.mk hl; have S6 := q0_.mk hb; clear hc hl hb; replace BKx := q0_.mk (q2_ BKx.out S6.out); (try clear jD_ jd_ jB_ jb_ jF_); obtain ⟨jD_, jd_, jB_, jb_, jF_⟩ := qV_ BKx.out; replace BKh := q0_.mk (q2_ BKh.out S6.out); (try clear r2_ r1_ r0_ PS_ Ps_); obtain ⟨r2_, r1_, r0_, PS_, Ps_⟩ := qV_ BKh.out; obtain ⟨adn, rfl, hcn⟩ := lit1 HCn.out; have HCN := q0_.mk hcn; clear hcn)
  | (refine append_name rfl (.tmp 19) (.tmp 21) rfl hu23 HI9.out (R_below (R_below R4h.out S5.out) S6.out) rfl adn cn rfl s HCN.out ((q4_ (q4_ S4.out S5.out) S6.out)).size (by have := HFN.out; omega) ?_; intro Am cm w7 hC hl hk hg; have HCm := q0_.mk hC; have HLm := q0_.mk hl; have RWh := q0_.mk (was_kept (R_below (R_below R3h.out S5.out) S6.out) (Kd.R_reads' (R_below (R_below R4h.out S5.out) S6.out)).2.1 hk hg); have HGm := q0_.mk hg; clear hC hl hk hg; have SBm : q0_ (Below w3.heap.size w3 w7) := ⟨pw_below_grown (q4_ (q4_ S4.out S5.out) S6.out) _ ((q4_ (q4_ S4.out S5.out) S6.out)).size HGm.out (fun k hk => (own_ge (R_below (R_below R4h.out S5.out) S6.out) k hk).1)⟩; have SWm := q0_.mk (q4_ (q4_ (q4_ S1.out S2.out) S3.out) SBm.out); have HTm := q0_.mk (TAB.below HT.out SWm.out); have HRm := q0_.mk (HRx.out.below SWm.out); have nx : some gx ≠ (Value.slice Ah4 x.f4.length ch4).ownBlock := fun e => absurd (own_ge (R_below (R_below R4h.out S5.out) S6.out) gx e.symm).1 (Nat.not_le.mpr (Nat.lt_of_lt_of_le GLx.out ((q4_ S2.out S3.out)).size)); have nh : some gh ≠ (Value.slice Ah4 x.f4.length ch4).ownBlock := fun e => absurd (own_ge R4h.out gh e.symm).2 (by rw [GAh.out]; exact Nat.lt_irrefl _); replace BKx := q0_.mk (blk_grown BKx.out HGm.out nx); replace BKh := q0_.mk (blk_grown BKh.out HGm.out nh); clear nx nh; (try clear jD_ jd_ jB_ jb_ jF_ r2_ r1_ r0_ PS_ Ps_); obtain ⟨jD_, jd_, jB_, jb_, jF_⟩ := qV_ BKx.out; obtain ⟨r2_, r1_, r0_, PS_, Ps_⟩ := qV_ BKh.out))
 go_loopg [7] (x.f4.length + 2) (fun kq v7 wr => ∃ j : Nat, v7 = .int .i64 (j : Int) ∧ q0_ (j ≤ x.f4.length + 1 ∧ x.f4.length + 1 < kq + j) ∧ q0_ (Below w7.heap.size w7 wr))
 case atStart => exact ⟨0, rfl, ⟨by omega⟩, ⟨Below.refl _ _⟩⟩
 case round =>
  obtain ⟨j, rfl, hj, HBr⟩ := hrel
  have HTr := q0_.mk (TAB.below HTm.out HBr.out)
  have HRr := q0_.mk (HRm.out.below HBr.out)
  have RWr := q0_.mk (RWh.out.below HBr.out)
  have HCr := q0_.mk (Kd.qD_ HCm.out HBr.out)
  have BKxr := q0_.mk (q2_ BKx.out HBr.out)
  have BKhr := q0_.mk (q2_ BKh.out HBr.out)
  clear jD_ jd_ jB_ jb_ jF_ r2_ r1_ r0_ PS_ Ps_
  obtain ⟨jD_, jd_, jB_, jb_, jF_⟩ := qV_ BKxr.out
  obtain ⟨r2_, r1_, r0_, PS_, Ps_⟩ := qV_ BKhr.out
  cases gk with
  | zero => exact absurd hj.out (by omega)
  | succ k1 =>
   by_cases hlt : j < x.f4.length + 1
   ·
    have e1 : decide ((j : Int) < ((x.f4.length + 1 : Nat) : Int)) = true := decide_eq_true (by omega)
    go_upto_region 8 with (fail)
    obtain ⟨ad, e_, hx0⟩ := Kd.at_string HCr.out (j : Int) (by omega) (by omega)
    obtain rfl := e_
    rw [Int.toNat_natCast] at hx0
    generalize hsj : rdOf ByteArray.empty (x.f4 ++ [s]) (j : Int) = sj at hx0
    clear hsj
    have HX0 := q0_.mk hx0
    clear hx0
    have p1 : (0 : Int) ≤ (j : Int) := by omega
    have p2 : (j : Int) < ((x.f4.length + 1 : Nat) : Int) := by omega
    have GLq := q0_.mk (qY_ BKxr.out)
    obtain ⟨o, ho⟩ : ∃ o, memberV x sj = o := ⟨_, rfl⟩
    obtain ⟨y, hy⟩ : ∃ y, o.getD zV = y := ⟨_, rfl⟩
    obtain ⟨b, hb⟩ : ∃ b, o.isSome = b := ⟨_, rfl⟩
    have HFy := q0_.mk (fit_told HFx.out ho hy)
    have HO := q0_.mk ho
    have HY := q0_.mk hy
    have HB := q0_.mk hb
    clear ho hy hb
    (try simp only [Act.put, List.setIfInBounds_toArray, List.set_cons_zero, List.set_cons_succ])
    go_cut [8, 9] (fun s8 s9 wx => ∃ (ga lo hi : Nat) (Ay3 Ay4 : Option Addr) (cy3 cy4 : Nat), s8 = .pointer (some ⟨ga, 0, none⟩) ∧ s9 = .bool b ∧ q0_ (wx.heap[ga]? = some (.cells #[.int .i64 y.f0, .bool y.f1, .string y.f2, .slice Ay3 y.f3.length cy3, .slice Ay4 y.f4.length cy4] 25 (0, 0))) ∧ q0_ (Sep lo hi wx y (.agg #[.int .i64 y.f0, .bool y.f1, .string y.f2, .slice Ay3 y.f3.length cy3, .slice Ay4 y.f4.length cy4])) ∧ q0_ (wr.heap.size ≤ lo ∧ hi ≤ wx.heap.size) ∧ q0_ (Below wr.heap.size wr wx))
    case first =>
     have SB := q0_.mk (below_drew (Below.refl wr.heap.size wr))
     refine wp_region_held_drew (S := fun W' => Below wr.heap.size wr W') (by kernel_rfl) SB.out (fun hS0 => ?_)
     have hS0 : Below wr.heap.size wr wr.drew := hS0
     generalize wr.drew = V0 at *
     (refine wpAnyH_take (i := 0) (v := ?_) rfl (by kernel_rfl) (by kernel_rfl) (by kernel_rfl) (fun _ _ _ h => h) (Or.inl ⟨by rfl, ?_⟩) (by assumption) ?_; rotate_left; (focus (intro w_ hSw; have e0_ := (hSw.cell (p := ⟨gx, 0, none⟩) GLq.out).trans jD_; have e1_ := (hSw.cell (p := ⟨gx, 1, none⟩) GLq.out).trans jd_; have e2_ := (hSw.cell (p := ⟨gx, 2, none⟩) GLq.out).trans jB_; have e3_ := (hSw.cell (p := ⟨gx, 3, none⟩) GLq.out).trans jb_; have e4_ := (hSw.cell (p := ⟨gx, 4, none⟩) GLq.out).trans jF_; clear hSw; go_simp; try with_reducible rfl)); (try simp only [gA_, gB_, gC_, Act.put, gD_, gE_, gF_]))
     (refine wpAnyH_take (i := 1) (v := ?_) rfl (by kernel_rfl) (by kernel_rfl) (by kernel_rfl) (fun _ _ _ h => h) (Or.inl ⟨by rfl, ?_⟩) (by assumption) ?_; rotate_left; (focus (intro w_ hSw; clear hSw; go_simp; try with_reducible rfl)); (try simp only [gA_, gB_, gC_, Act.put, gD_, gE_, gF_]))
     (refine wpAnyH_take (i := 2) (v := ?_) rfl (by kernel_rfl) (by kernel_rfl) (by kernel_rfl) (fun _ _ _ h => h) (Or.inl ⟨by rfl, ?_⟩) (by assumption) ?_; rotate_left; (focus (intro w_ hSw; clear hSw; go_simp; try with_reducible rfl)); (try simp only [gA_, gB_, gC_, Act.put, gD_, gE_, gF_]))
     (refine wpAnyH_take (i := 3) (v := ?_) rfl (by kernel_rfl) (by kernel_rfl) (by kernel_rfl) (fun _ _ _ h => h) (Or.inl ⟨by rfl, ?_⟩) (by assumption) ?_; rotate_left; (focus (intro w_ hSw; clear hSw; go_simp; try with_reducible rfl)); (try simp only [gA_, gB_, gC_, Act.put, gD_, gE_, gF_]))
     (refine wpAnyH_take (i := 4) (v := ?_) rfl (by kernel_rfl) (by kernel_rfl) (by kernel_rfl) (fun _ _ _ h => h) (Or.inl ⟨by rfl, ?_⟩) (by assumption) ?_; rotate_left; (focus (intro w_ hSw; have e0_ := (hSw.cell (World.block_lt_of_cell? _ _ HX0.out)).trans HX0.out; clear hSw; go_simp; try with_reducible rfl)); (try simp only [gA_, gB_, gC_, Act.put, gD_, gE_, gF_]))
     refine wpAnyH_ready (rs := [5, 9]) (by decide +kernel) (by simp) ?_
     refine (AllReadyH.cons (i := 5) rfl (fun K_ hK => ?_) (AllReadyH.cons (i := 9) rfl (fun K_ hK => ?_) AllReadyH.nil))
     ·
      refine qK_ rfl ?_
      (go_simp; go_at_call 24; refine (sem_getS_at HO.out HY.out HB.out (HRr.out.below SB.out) HFx.out).mono ?_; rintro e V1 ⟨Ay3, cy3, Ay4, cy4, rfl, ho, hb_⟩; have OWy := q0_.mk ho; clear ho)
      have LOy : q0_ (wr.heap.size ≤ V0.heap.size) := ⟨SB.out.size⟩
      refine hK.out _ _ (q4_ SB.out hb_) (fun hS1 => ?_)
      clear hK K_; (try simp only [gA_, gB_, gC_, Act.put, gD_, gE_, gF_])
      replace SB := q0_.mk (q4_ SB.out hb_)
      have HHy : q0_ (V1.heap.size ≤ V1.heap.size) := ⟨Nat.le_refl _⟩
      clear hb_
      (refine wpAnyH_take (i := 6) (v := ?_) rfl (by kernel_rfl) (by kernel_rfl) (by kernel_rfl) (fun _ _ _ h => h) (Or.inl ⟨by rfl, ?_⟩) (by assumption) ?_; rotate_left; (focus (intro w_ hSw; clear hSw; go_simp; try with_reducible rfl)); (try simp only [gA_, gB_, gC_, Act.put, gD_, gE_, gF_]))
      (refine wpAnyH_take (i := 7) (v := ?_) rfl (by kernel_rfl) (by kernel_rfl) (by kernel_rfl) (fun _ _ _ h => h) (Or.inl ⟨by rfl, ?_⟩) (by assumption) ?_; rotate_left; (focus (intro w_ hSw; clear hSw; go_simp; try with_reducible rfl)); (try simp only [gA_, gB_, gC_, Act.put, gD_, gE_, gF_]))
      (refine wpAnyH_take (i := 8) (v := ?_) rfl (by kernel_rfl) (by kernel_rfl) (by kernel_rfl) (fun _ _ _ h => h) (Or.inl ⟨by rfl, ?_⟩) (by assumption) ?_; rotate_left; (focus (intro w_ hSw; clear hSw; go_simp; try with_reducible rfl)); (try simp only [gA_, gB_, gC_, Act.put, gD_, gE_, gF_]))
      refine wpAnyH_ready (rs := [9]) (by decide +kernel) (by simp) ?_
      refine (AllReadyH.cons (i := 9) rfl (fun K_ hK => ?_) AllReadyH.nil)
      refine qK_ rfl ?_
      go_simp
      refine hK.out _ _ (q6_ SB.out _) (fun hS1 => ?_)
      clear hK K_; (try simp only [gA_, gB_, gC_, Act.put, gD_, gE_, gF_])
      have hb_ := q6_ (Below.refl V1.heap.size V1) (Obj.cells #[.int .i64 0, .bool false, .string (⟨#[]⟩ : ByteArray), .slice none 0 0, .slice none 0 0] 25)
      obtain ⟨ga, hg_⟩ : ∃ g, g = V1.heap.size := ⟨_, rfl⟩
      have ZB := q0_.mk (blk_new V1 (Obj.cells #[.int .i64 0, .bool false, .string (⟨#[]⟩ : ByteArray), .slice none 0 0, .slice none 0 0] 25))
      rw [← hg_] at ZB
      have ZG := q0_.mk (show wr.heap.size ≤ ga from hg_ ▸ SB.out.size)
      have ZF := q0_.mk (Nat.le_of_eq hg_.symm)
      generalize V1.alloc (Obj.cells #[.int .i64 0, .bool false, .string (⟨#[]⟩ : ByteArray), .slice none 0 0, .slice none 0 0] 25) = V2 at *
      rw [← hg_]
      replace OWy := q0_.mk (OWy.out.keep (fun k _ h => hb_.block k h))
      replace HHy := q0_.mk (Nat.le_trans HHy.out hb_.size)
      replace SB := q0_.mk (q4_ SB.out hb_)
      clear hg_ hb_
      obtain ⟨z0, z1, z2, z3, z4, y0, y1, y2, y3, y4⟩ := blk5z ZB.out
      refine wpAnyH_ready (rs := [10]) (by decide +kernel) (by simp) ?_
      refine AllReadyH.cons (i := 10) rfl (fun K_ hK => ?_) AllReadyH.nil
      refine qK_ rfl ?_
      go_simp
      obtain ⟨l1, l2, l3, l4⟩ := leafS ZB.out (Or.inr ZF.out) OWy.out SB.out ZG.out HHy.out
      refine hK.out _ _ l3 (fun hS1 => ?_)
      clear hK K_; (try simp only [gA_, gB_, gC_, Act.put, gD_, gE_, gF_])
      (refine wpAnyH_take (i := 11) (v := ?_) rfl (by kernel_rfl) (by kernel_rfl) (by kernel_rfl) (fun _ _ _ h => h) (Or.inl ⟨by rfl, ?_⟩) (by assumption) ?_; rotate_left; (focus (intro w_ hSw; clear hSw; go_simp; try with_reducible rfl)); (try simp only [gA_, gB_, gC_, Act.put, gD_, gE_, gF_]))
      refine wpAnyH_done (by decide +kernel) ?_ _
      (go_wp2_with (fail); go_meet; case rel => exact ⟨_, _, _, _, _, _, _, rfl, rfl, ⟨l1⟩, ⟨l2⟩, ⟨⟨LOy.out, l4⟩⟩, ⟨l3⟩⟩)
     ·
      refine qK_ rfl ?_
      go_simp
      refine hK.out _ _ (q6_ SB.out _) (fun hS1 => ?_)
      clear hK K_; (try simp only [gA_, gB_, gC_, Act.put, gD_, gE_, gF_])
      have hb_ := q6_ (Below.refl V0.heap.size V0) (Obj.cells #[.int .i64 0, .bool false, .string (⟨#[]⟩ : ByteArray), .slice none 0 0, .slice none 0 0] 25)
      obtain ⟨ga, hg_⟩ : ∃ g, g = V0.heap.size := ⟨_, rfl⟩
      have ZB := q0_.mk (blk_new V0 (Obj.cells #[.int .i64 0, .bool false, .string (⟨#[]⟩ : ByteArray), .slice none 0 0, .slice none 0 0] 25))
      rw [← hg_] at ZB
      have ZG := q0_.mk (show wr.heap.size ≤ ga from hg_ ▸ SB.out.size)
      generalize V0.alloc (Obj.cells #[.int .i64 0, .bool false, .string (⟨#[]⟩ : ByteArray), .slice none 0 0, .slice none 0 0] 25) = V1 at *
      rw [← hg_]
      replace SB := q0_.mk (q4_ SB.out hb_)
      clear hg_ hb_
      refine wpAnyH_ready (rs := [5]) (by decide +kernel) (by simp) ?_
      refine (AllReadyH.cons (i := 5) rfl (fun K_ hK => ?_) AllReadyH.nil)
      refine qK_ rfl ?_
      have GL := q0_.mk (qY_ ZB.out)
      (go_simp; go_at_call 24; refine (sem_getS_at HO.out HY.out HB.out (HRr.out.below SB.out) HFx.out).mono ?_; rintro e V2 ⟨Ay3, cy3, Ay4, cy4, rfl, ho, hb_⟩; have OWy := q0_.mk ho; clear ho)
      have LOy : q0_ (wr.heap.size ≤ V1.heap.size) := ⟨SB.out.size⟩
      refine hK.out _ _ (q4_ SB.out hb_) (fun hS1 => ?_)
      clear hK K_; (try simp only [gA_, gB_, gC_, Act.put, gD_, gE_, gF_])
      replace ZB := q0_.mk (q2_ ZB.out hb_)
      replace SB := q0_.mk (q4_ SB.out hb_)
      have HHy : q0_ (V2.heap.size ≤ V2.heap.size) := ⟨Nat.le_refl _⟩
      clear hb_
      (refine wpAnyH_take (i := 6) (v := ?_) rfl (by kernel_rfl) (by kernel_rfl) (by kernel_rfl) (fun _ _ _ h => h) (Or.inl ⟨by rfl, ?_⟩) (by assumption) ?_; rotate_left; (focus (intro w_ hSw; clear hSw; go_simp; try with_reducible rfl)); (try simp only [gA_, gB_, gC_, Act.put, gD_, gE_, gF_]))
      (refine wpAnyH_take (i := 7) (v := ?_) rfl (by kernel_rfl) (by kernel_rfl) (by kernel_rfl) (fun _ _ _ h => h) (Or.inl ⟨by rfl, ?_⟩) (by assumption) ?_; rotate_left; (focus (intro w_ hSw; clear hSw; go_simp; try with_reducible rfl)); (try simp only [gA_, gB_, gC_, Act.put, gD_, gE_, gF_]))
      (refine wpAnyH_take (i := 8) (v := ?_) rfl (by kernel_rfl) (by kernel_rfl) (by kernel_rfl) (fun _ _ _ h => h) (Or.inl ⟨by rfl, ?_⟩) (by assumption) ?_; rotate_left; (focus (intro w_ hSw; clear hSw; go_simp; try with_reducible rfl)); (try simp only [gA_, gB_, gC_, Act.put, gD_, gE_, gF_]))
      obtain ⟨z0, z1, z2, z3, z4, y0, y1, y2, y3, y4⟩ := blk5z ZB.out
      refine wpAnyH_ready (rs := [10]) (by decide +kernel) (by simp) ?_
      refine AllReadyH.cons (i := 10) rfl (fun K_ hK => ?_) AllReadyH.nil
      refine qK_ rfl ?_
      go_simp
      obtain ⟨l1, l2, l3, l4⟩ := leafS ZB.out (Or.inl GL.out) OWy.out SB.out ZG.out HHy.out
      refine hK.out _ _ l3 (fun hS1 => ?_)
      clear hK K_; (try simp only [gA_, gB_, gC_, Act.put, gD_, gE_, gF_])
      (refine wpAnyH_take (i := 11) (v := ?_) rfl (by kernel_rfl) (by kernel_rfl) (by kernel_rfl) (fun _ _ _ h => h) (Or.inl ⟨by rfl, ?_⟩) (by assumption) ?_; rotate_left; (focus (intro w_ hSw; clear hSw; go_simp; try with_reducible rfl)); (try simp only [gA_, gB_, gC_, Act.put, gD_, gE_, gF_]))
      refine wpAnyH_done (by decide +kernel) ?_ _
      (go_wp2_with (fail); go_meet; case rel => exact ⟨_, _, _, _, _, _, _, rfl, rfl, ⟨l1⟩, ⟨l2⟩, ⟨⟨LOy.out, l4⟩⟩, ⟨l3⟩⟩)
    case rest =>
     obtain ⟨ga8, lo, hi, Ae3, Ae4, ce3, ce4, rfl, rfl, BK8, SP8, LH8, SW8⟩ := hcut
     generalize hwq : wc = wq at *
     clear hwq
     have HRq := q0_.mk (HRr.out.below SW8.out)
     have HX0q := q0_.mk ((SW8.out.cell (World.block_lt_of_cell? _ _ HX0.out)).trans HX0.out)
     have BKxq := q0_.mk (q2_ BKxr.out SW8.out)
     clear jD_ jd_ jB_ jb_ jF_ r2_ r1_ r0_ PS_ Ps_ HX0 GLq
     obtain ⟨jD_, jd_, jB_, jb_, jF_⟩ := qV_ BKxq.out
     have HX0 := HX0q
     have GLq := q0_.mk (qY_ BKxq.out)
     go_upto_region 9 with (fail)
     (try simp only [Act.put, List.setIfInBounds_toArray, List.set_cons_zero, List.set_cons_succ])
     go_cut [10, 11] (fun s8 s9 wx => ∃ (ga : Nat) (Ay3 Ay4 : Option Addr) (cy3 cy4 : Nat), s8 = .pointer (some ⟨ga, 0, none⟩) ∧ s9 = .bool b ∧ q0_ (wx.heap[ga]? = some (.cells #[.int .i64 y.f0, .bool y.f1, .string y.f2, .slice Ay3 y.f3.length cy3, .slice Ay4 y.f4.length cy4] 25 (0, 0))) ∧ q0_ (Rds wx y (.agg #[.int .i64 y.f0, .bool y.f1, .string y.f2, .slice Ay3 y.f3.length cy3, .slice Ay4 y.f4.length cy4])) ∧ q0_ (Below wq.heap.size wq wx))
     case first =>
      have SB := q0_.mk (below_drew (Below.refl wq.heap.size wq))
      refine wp_region_held_drew (S := fun W' => Below wq.heap.size wq W') (by kernel_rfl) SB.out (fun hS0 => ?_)
      have hS0 : Below wq.heap.size wq wq.drew := hS0
      generalize wq.drew = V0 at *
      (refine wpAnyH_take (i := 0) (v := ?_) rfl (by kernel_rfl) (by kernel_rfl) (by kernel_rfl) (fun _ _ _ h => h) (Or.inl ⟨by rfl, ?_⟩) (by assumption) ?_; rotate_left; (focus (intro w_ hSw; have e0_ := (hSw.cell (p := ⟨gx, 0, none⟩) GLq.out).trans jD_; have e1_ := (hSw.cell (p := ⟨gx, 1, none⟩) GLq.out).trans jd_; have e2_ := (hSw.cell (p := ⟨gx, 2, none⟩) GLq.out).trans jB_; have e3_ := (hSw.cell (p := ⟨gx, 3, none⟩) GLq.out).trans jb_; have e4_ := (hSw.cell (p := ⟨gx, 4, none⟩) GLq.out).trans jF_; clear hSw; go_simp; try with_reducible rfl)); (try simp only [gA_, gB_, gC_, Act.put, gD_, gE_, gF_]))
      (refine wpAnyH_take (i := 1) (v := ?_) rfl (by kernel_rfl) (by kernel_rfl) (by kernel_rfl) (fun _ _ _ h => h) (Or.inl ⟨by rfl, ?_⟩) (by assumption) ?_; rotate_left; (focus (intro w_ hSw; clear hSw; go_simp; try with_reducible rfl)); (try simp only [gA_, gB_, gC_, Act.put, gD_, gE_, gF_]))
      (refine wpAnyH_take (i := 2) (v := ?_) rfl (by kernel_rfl) (by kernel_rfl) (by kernel_rfl) (fun _ _ _ h => h) (Or.inl ⟨by rfl, ?_⟩) (by assumption) ?_; rotate_left; (focus (intro w_ hSw; clear hSw; go_simp; try with_reducible rfl)); (try simp only [gA_, gB_, gC_, Act.put, gD_, gE_, gF_]))
      (refine wpAnyH_take (i := 3) (v := ?_) rfl (by kernel_rfl) (by kernel_rfl) (by kernel_rfl) (fun _ _ _ h => h) (Or.inl ⟨by rfl, ?_⟩) (by assumption) ?_; rotate_left; (focus (intro w_ hSw; clear hSw; go_simp; try with_reducible rfl)); (try simp only [gA_, gB_, gC_, Act.put, gD_, gE_, gF_]))
      (refine wpAnyH_take (i := 4) (v := ?_) rfl (by kernel_rfl) (by kernel_rfl) (by kernel_rfl) (fun _ _ _ h => h) (Or.inl ⟨by rfl, ?_⟩) (by assumption) ?_; rotate_left; (focus (intro w_ hSw; have e0_ := (hSw.cell (World.block_lt_of_cell? _ _ HX0.out)).trans HX0.out; clear hSw; go_simp; try with_reducible rfl)); (try simp only [gA_, gB_, gC_, Act.put, gD_, gE_, gF_]))
      refine wpAnyH_ready (rs := [5, 9]) (by decide +kernel) (by simp) ?_
      refine (AllReadyH.cons (i := 5) rfl (fun K_ hK => ?_) (AllReadyH.cons (i := 9) rfl (fun K_ hK => ?_) AllReadyH.nil))
      ·
       refine qK_ rfl ?_
       (go_simp; go_at_call 25; refine (sem_getR_at HO.out HY.out HB.out (HRq.out.below SB.out) HFx.out).mono ?_; rintro e V1 ⟨Ay3, cy3, Ay4, cy4, rfl, ho, hb_⟩; have OWy := q0_.mk ho; clear ho)
       have LOy : q0_ (wq.heap.size ≤ V0.heap.size) := ⟨SB.out.size⟩
       refine hK.out _ _ (q4_ SB.out hb_) (fun hS1 => ?_)
       clear hK K_; (try simp only [gA_, gB_, gC_, Act.put, gD_, gE_, gF_])
       replace SB := q0_.mk (q4_ SB.out hb_)
       have HHy : q0_ (V1.heap.size ≤ V1.heap.size) := ⟨Nat.le_refl _⟩
       clear hb_
       (refine wpAnyH_take (i := 6) (v := ?_) rfl (by kernel_rfl) (by kernel_rfl) (by kernel_rfl) (fun _ _ _ h => h) (Or.inl ⟨by rfl, ?_⟩) (by assumption) ?_; rotate_left; (focus (intro w_ hSw; clear hSw; go_simp; try with_reducible rfl)); (try simp only [gA_, gB_, gC_, Act.put, gD_, gE_, gF_]))
       (refine wpAnyH_take (i := 7) (v := ?_) rfl (by kernel_rfl) (by kernel_rfl) (by kernel_rfl) (fun _ _ _ h => h) (Or.inl ⟨by rfl, ?_⟩) (by assumption) ?_; rotate_left; (focus (intro w_ hSw; clear hSw; go_simp; try with_reducible rfl)); (try simp only [gA_, gB_, gC_, Act.put, gD_, gE_, gF_]))
       (refine wpAnyH_take (i := 8) (v := ?_) rfl (by kernel_rfl) (by kernel_rfl) (by kernel_rfl) (fun _ _ _ h => h) (Or.inl ⟨by rfl, ?_⟩) (by assumption) ?_; rotate_left; (focus (intro w_ hSw; clear hSw; go_simp; try with_reducible rfl)); (try simp only [gA_, gB_, gC_, Act.put, gD_, gE_, gF_]))
       refine wpAnyH_ready (rs := [9]) (by decide +kernel) (by simp) ?_
       refine (AllReadyH.cons (i := 9) rfl (fun K_ hK => ?_) AllReadyH.nil)
       refine qK_ rfl ?_
       go_simp
       refine hK.out _ _ (q6_ SB.out _) (fun hS1 => ?_)
       clear hK K_; (try simp only [gA_, gB_, gC_, Act.put, gD_, gE_, gF_])
       have hb_ := q6_ (Below.refl V1.heap.size V1) (Obj.cells #[.int .i64 0, .bool false, .string (⟨#[]⟩ : ByteArray), .slice none 0 0, .slice none 0 0] 25)
       obtain ⟨ga, hg_⟩ : ∃ g, g = V1.heap.size := ⟨_, rfl⟩
       have ZB := q0_.mk (blk_new V1 (Obj.cells #[.int .i64 0, .bool false, .string (⟨#[]⟩ : ByteArray), .slice none 0 0, .slice none 0 0] 25))
       rw [← hg_] at ZB
       have ZG := q0_.mk (show wq.heap.size ≤ ga from hg_ ▸ SB.out.size)
       have ZF := q0_.mk (Nat.le_of_eq hg_.symm)
       generalize V1.alloc (Obj.cells #[.int .i64 0, .bool false, .string (⟨#[]⟩ : ByteArray), .slice none 0 0, .slice none 0 0] 25) = V2 at *
       rw [← hg_]
       replace OWy := q0_.mk (OWy.out.below hb_)
       replace HHy := q0_.mk (Nat.le_trans HHy.out hb_.size)
       replace SB := q0_.mk (q4_ SB.out hb_)
       clear hg_ hb_
       obtain ⟨z0, z1, z2, z3, z4, y0, y1, y2, y3, y4⟩ := blk5z ZB.out
       refine wpAnyH_ready (rs := [10]) (by decide +kernel) (by simp) ?_
       refine AllReadyH.cons (i := 10) rfl (fun K_ hK => ?_) AllReadyH.nil
       refine qK_ rfl ?_
       go_simp
       obtain ⟨l1, l2, l3⟩ := leafC ZB.out (Or.inr ZF.out) OWy.out SB.out ZG.out
       refine hK.out _ _ l3 (fun hS1 => ?_)
       clear hK K_; (try simp only [gA_, gB_, gC_, Act.put, gD_, gE_, gF_])
       (refine wpAnyH_take (i := 11) (v := ?_) rfl (by kernel_rfl) (by kernel_rfl) (by kernel_rfl) (fun _ _ _ h => h) (Or.inl ⟨by rfl, ?_⟩) (by assumption) ?_; rotate_left; (focus (intro w_ hSw; clear hSw; go_simp; try with_reducible rfl)); (try simp only [gA_, gB_, gC_, Act.put, gD_, gE_, gF_]))
       refine wpAnyH_done (by decide +kernel) ?_ _
       (go_wp2_with (fail); go_meet; case rel => exact ⟨_, _, _, _, _, rfl, rfl, ⟨l1⟩, ⟨l2⟩, ⟨l3⟩⟩)
      ·
       refine qK_ rfl ?_
       go_simp
       refine hK.out _ _ (q6_ SB.out _) (fun hS1 => ?_)
       clear hK K_; (try simp only [gA_, gB_, gC_, Act.put, gD_, gE_, gF_])
       have hb_ := q6_ (Below.refl V0.heap.size V0) (Obj.cells #[.int .i64 0, .bool false, .string (⟨#[]⟩ : ByteArray), .slice none 0 0, .slice none 0 0] 25)
       obtain ⟨ga, hg_⟩ : ∃ g, g = V0.heap.size := ⟨_, rfl⟩
       have ZB := q0_.mk (blk_new V0 (Obj.cells #[.int .i64 0, .bool false, .string (⟨#[]⟩ : ByteArray), .slice none 0 0, .slice none 0 0] 25))
       rw [← hg_] at ZB
       have ZG := q0_.mk (show wq.heap.size ≤ ga from hg_ ▸ SB.out.size)
       generalize V0.alloc (Obj.cells #[.int .i64 0, .bool false, .string (⟨#[]⟩ : ByteArray), .slice none 0 0, .slice none 0 0] 25) = V1 at *
       rw [← hg_]
       replace SB := q0_.mk (q4_ SB.out hb_)
       clear hg_ hb_
       refine wpAnyH_ready (rs := [5]) (by decide +kernel) (by simp) ?_
       refine (AllReadyH.cons (i := 5) rfl (fun K_ hK => ?_) AllReadyH.nil)
       refine qK_ rfl ?_
       have GL := q0_.mk (qY_ ZB.out)
       (go_simp; go_at_call 25; refine (sem_getR_at HO.out HY.out HB.out (HRq.out.below SB.out) HFx.out).mono ?_; rintro e V2 ⟨Ay3, cy3, Ay4, cy4, rfl, ho, hb_⟩; have OWy := q0_.mk ho; clear ho)
       have LOy : q0_ (wq.heap.size ≤ V1.heap.size) := ⟨SB.out.size⟩
       refine hK.out _ _ (q4_ SB.out hb_) (fun hS1 => ?_)
       clear hK K_; (try simp only [gA_, gB_, gC_, Act.put, gD_, gE_, gF_])
       replace ZB := q0_.mk (q2_ ZB.out hb_)
       replace SB := q0_.mk (q4_ SB.out hb_)
       have HHy : q0_ (V2.heap.size ≤ V2.heap.size) := ⟨Nat.le_refl _⟩
       clear hb_
       (refine wpAnyH_take (i := 6) (v := ?_) rfl (by kernel_rfl) (by kernel_rfl) (by kernel_rfl) (fun _ _ _ h => h) (Or.inl ⟨by rfl, ?_⟩) (by assumption) ?_; rotate_left; (focus (intro w_ hSw; clear hSw; go_simp; try with_reducible rfl)); (try simp only [gA_, gB_, gC_, Act.put, gD_, gE_, gF_]))
       (refine wpAnyH_take (i := 7) (v := ?_) rfl (by kernel_rfl) (by kernel_rfl) (by kernel_rfl) (fun _ _ _ h => h) (Or.inl ⟨by rfl, ?_⟩) (by assumption) ?_; rotate_left; (focus (intro w_ hSw; clear hSw; go_simp; try with_reducible rfl)); (try simp only [gA_, gB_, gC_, Act.put, gD_, gE_, gF_]))
       (refine wpAnyH_take (i := 8) (v := ?_) rfl (by kernel_rfl) (by kernel_rfl) (by kernel_rfl) (fun _ _ _ h => h) (Or.inl ⟨by rfl, ?_⟩) (by assumption) ?_; rotate_left; (focus (intro w_ hSw; clear hSw; go_simp; try with_reducible rfl)); (try simp only [gA_, gB_, gC_, Act.put, gD_, gE_, gF_]))
       obtain ⟨z0, z1, z2, z3, z4, y0, y1, y2, y3, y4⟩ := blk5z ZB.out
       refine wpAnyH_ready (rs := [10]) (by decide +kernel) (by simp) ?_
       refine AllReadyH.cons (i := 10) rfl (fun K_ hK => ?_) AllReadyH.nil
       refine qK_ rfl ?_
       go_simp
       obtain ⟨l1, l2, l3⟩ := leafC ZB.out (Or.inl GL.out) OWy.out SB.out ZG.out
       refine hK.out _ _ l3 (fun hS1 => ?_)
       clear hK K_; (try simp only [gA_, gB_, gC_, Act.put, gD_, gE_, gF_])
       (refine wpAnyH_take (i := 11) (v := ?_) rfl (by kernel_rfl) (by kernel_rfl) (by kernel_rfl) (fun _ _ _ h => h) (Or.inl ⟨by rfl, ?_⟩) (by assumption) ?_; rotate_left; (focus (intro w_ hSw; clear hSw; go_simp; try with_reducible rfl)); (try simp only [gA_, gB_, gC_, Act.put, gD_, gE_, gF_]))
       refine wpAnyH_done (by decide +kernel) ?_ _
       (go_wp2_with (fail); go_meet; case rel => exact ⟨_, _, _, _, _, rfl, rfl, ⟨l1⟩, ⟨l2⟩, ⟨l3⟩⟩)
     case rest =>
      obtain ⟨ga9, Af3, Af4, cf3, cf4, rfl, rfl, BK9, RD9, SW9⟩ := hcut
      generalize hwq : wc = wp at *
      clear hwq
      have BK8p := q0_.mk (q2_ BK8.out SW9.out)
      have SP8p := q0_.mk (SP8.out.keep (fun k _ h => SW9.out.block k (Nat.lt_of_lt_of_le h LH8.out.2)))
      have LH8p := q0_.mk (Nat.le_trans LH8.out.2 SW9.out.size)
      clear jD_ jd_ jB_ jb_ jF_
      obtain ⟨kq_, k9_, k8_, k7_, k6_⟩ := qV_ BK8p.out
      obtain ⟨wJ_, wZ_, wQ_, ww_, wv_⟩ := qV_ BK9.out
      clear p1 p2
      have j1 : wrap64 ((j : Int) + 1) = (j : Int) + 1 := v_wrap (by omega) (by have := HFN.out; omega)
      cases b
      all_goals
       go_wp2_with (first
        | (go_at_call 20; (with_reducible refine (qg_ SP8p.out.reads RD9.out HFy.out).mono ?_); rintro e ws ⟨rfl, hb⟩; have SS := q0_.mk hb; clear hb; have SP8s := q0_.mk (SP8p.out.keep (fun k _ h => SS.out.block k (Nat.lt_of_lt_of_le h LH8p.out))); have BK8s := q0_.mk (q2_ BK8p.out SS.out); clear kq_ k9_ k8_ k7_ k6_ wJ_ wZ_ wQ_ ww_ wv_; obtain ⟨kq_, k9_, k8_, k7_, k6_⟩ := qV_ BK8s.out)
        | (go_at_call 23; (with_reducible refine (sem_spoil SP8s.out HFy.out (Nat.le_trans LH8p.out SS.out.size)).mono ?_); rintro e wt ⟨rfl, -, ht⟩; have ST := q0_.mk ht; clear ht kq_ k9_ k8_ k7_ k6_))
       go_roundg k1
       case measure => omega
       case rel => exact ⟨j + 1, by go_num, ⟨by have := hj.out; omega⟩, ⟨touch_over (q4_ HBr.out (q4_ SW8.out (q4_ SW9.out SS.out))) ST.out (Nat.le_trans HBr.out.size LH8.out.1)⟩⟩
   ·
    have e1 : decide ((j : Int) < ((x.f4.length + 1 : Nat) : Int)) = false := decide_eq_false (by omega)
    go_wp2_with (first
     | (go_at_call 20; (with_reducible refine (qg_ HRr.out RWr.out HFx.out).mono ?_); rintro e w1 ⟨rfl, hb⟩; have S1 := q0_.mk hb; clear hb)
     | (go_at_call 14; (with_reducible refine (colophonlaw10_awake.calls true _ (TAB.below HTr.out S1.out) rfl).mono ?_); rintro e w2 ⟨rfl, hb⟩; have S2 := q0_.mk hb; clear hb))
    go_ret
    exact ⟨rfl, q4_ (q4_ SWm.out HBr.out) (q4_ S1.out S2.out)⟩
end Go.Proofs.YtfpmompdgmklmaaDoor.P
/- ValueGets: of all values, and names. -/
namespace Go.Proofs.YtfpmompdgmklmaaDoor.P
open Go.RowKit Go.Proofs.YtfpmompdgmklmaaDoorW.PrintWords
theorem gets_walk (x : S25) (s : ByteArray) (vx : Value) (w : World) (hrx : Rds w x vx) (hfx : fitV x = true) (hs : s.size ≤ 140737488351232) (hT : TAB w) : Calls Tryd.prog 5 #[vx, .string s] w fun e w' => e = .returned (.bool true) ∧ Below w.heap.size w w' := by
 cases hd : anyDeep [x] with
 | true => exact gets_deep x s vx w hrx hfx hs hT hd
 | false => exact gets_case x s vx w hrx hfx hs hT hd
end Go.Proofs.YtfpmompdgmklmaaDoor.P
