/- The walk of a law of chapter 10. -/
import Derived.Test.YtfpmompdgmklmaaDoorVH
import Derived.Test.YtfpmompdgmklmaaDoorVA
namespace Go.Proofs.YtfpmompdgmklmaaDoor.P
open Go.RowKit Go.Proofs.YtfpmompdgmklmaaDoorW.PrintWords Go.Proofs.YtfpmompdgmklmaaDoorW.PrintLast Go.Proofs.YtfpmompdgmklmaaDoorW.PrintMore
set_option linter.unusedVariables false
set_option linter.unusedSimpArgs false
set_option maxHeartbeats 4000000 in
set_option maxRecDepth 100000 in
theorem gets_deep (x : S25) (s : ByteArray) (vx : Value) (w : World) (hrx : Rds w x vx) (hfx : fitV x = true) (hs : s.size ≤ 140737488351232) (hT : TAB w) (hd : anyDeep [x] = true) : Calls Tryd.prog 5 #[vx, .string s] w fun e w' => e = .returned (.bool true) ∧ Below w.heap.size w w' := by
  have hu25 := Tryd.underlying25
  have HT := Aside0.mk hT
  clear hT
  have HRx := Aside0.mk hrx
  have HFx := Aside0.mk hfx
  clear hfx
  obtain ⟨Ax3, cx3, Ax4, cx4, rfl, -, -, -, -⟩ := hrx
  have HDF := Aside0.mk (show ∀ y ∈ [x], fitV y = true from fun y hy => by rw [List.mem_singleton.mp hy]; exact HFx.out)
  have HD := Aside0.mk hd
  clear hd
  go_enter Tryd.func5, Tryd.ntmps5
  go_wp2_with (first
    | ((with_reducible refine gate_dst (N := 2) rfl ?_); refine box_event ?hg (N := 2) ?hd (cs := #[.int .i64 x.f0, .bool x.f1, .string x.f2, .slice Ax3 x.f3.length cx3, .slice Ax4 x.f4.length cx4]) (t := 25) ?hr ?_; (case hd => rfl); (case hg => rfl); (case hr => first | (go_simp; done) | (go_simp; rfl)); intro gx hg w1 hbox hb; have S1 := Aside0.mk hb; have BKx := Aside0.mk hbox; have GLx : Aside0 (gx < w1.heap.size) := ⟨blk_lt hbox⟩; clear hg hb hbox; (try clear kx_0 kx_1 kx_2 kx_3 kx_4); obtain ⟨kx_0, kx_1, kx_2, kx_3, kx_4⟩ := blk5 BKx.out)
    | ((with_reducible refine gate_dst (N := 13) rfl ?_); (try (refine gate_guard (by rfl) ?_; dsimp only)); refine lit_read k25 25 ?hg (N := 13) ?hd (xs := [x]) (inner := [.int .i64 x.f0, .bool x.f1, .string x.f2, .slice Ax3 x.f3.length cx3, .slice Ax4 x.f4.length cx4]) ?hr (reps1 (HRx.out.below S1.out).isK rfl) (by simp) ?_; (case hd => rfl); (case hg => rfl); (case hr => first | (go_simp; done) | (go_simp; rfl)); intro Ad cd w2 hc hl hb; have HCd := Aside0.mk hc; have HLd := Aside0.mk hl; have S2 := Aside0.mk hb; clear hc hl hb; replace BKx := Aside0.mk (blk_below BKx.out S2.out); (try clear kx_0 kx_1 kx_2 kx_3 kx_4); obtain ⟨kx_0, kx_1, kx_2, kx_3, kx_4⟩ := blk5 BKx.out)
    | (go_at_call 13; refine (sem_deep HCd.out HLd.out HDF.out).mono ?_; rintro e w3 ⟨rfl, hb⟩; have S3 := Aside0.mk hb; clear hb; rw [HD.out]; replace BKx := Aside0.mk (blk_below BKx.out S3.out); (try clear kx_0 kx_1 kx_2 kx_3 kx_4); obtain ⟨kx_0, kx_1, kx_2, kx_3, kx_4⟩ := blk5 BKx.out)
    | (go_at_call 14; (with_reducible refine (colophonlaw10_awake.calls true _ (TAB.below (TAB.below (TAB.below HT.out S1.out) S2.out) S3.out) rfl).mono ?_); rintro e w4 ⟨rfl, hb⟩; have S4 := Aside0.mk hb; clear hb; replace BKx := Aside0.mk (blk_below BKx.out S4.out); (try clear kx_0 kx_1 kx_2 kx_3 kx_4); obtain ⟨kx_0, kx_1, kx_2, kx_3, kx_4⟩ := blk5 BKx.out))
  go_ret
  exact ⟨rfl, (below_step (below_step (below_step S1.out S2.out) S3.out) S4.out)⟩
set_option maxHeartbeats 4000000 in
set_option maxRecDepth 100000 in
theorem gets_case (x : S25) (s : ByteArray) (vx : Value) (w : World) (hrx : Rds w x vx) (hfx : fitV x = true) (hs : s.size ≤ 140737488351232) (hT : TAB w) (hd : anyDeep [x] = false) : Calls Tryd.prog 5 #[vx, .string s] w fun e w' => e = .returned (.bool true) ∧ Below w.heap.size w w' := by
  have hu25 := Tryd.underlying25
  have HT := Aside0.mk hT
  clear hT
  have HRx := Aside0.mk hrx
  have HFx := Aside0.mk hfx
  clear hfx
  obtain ⟨Ax3, cx3, Ax4, cx4, rfl, -, -, -, -⟩ := hrx
  have HDF := Aside0.mk (show ∀ y ∈ [x], fitV y = true from fun y hy => by rw [List.mem_singleton.mp hy]; exact HFx.out)
  have HD := Aside0.mk hd
  have hu23 := Tryd.underlying23
  have hi9 : (Tryd.prog.info? 9).map (fun i => (i.zero, i.size, i.bytes)) = some (some (.string ByteArray.empty), 1, 16) := by rfl
  have HI9 := Aside0.mk hi9
  have HS := Aside0.mk hs
  have HFN := Aside0.mk (show x.f4.length * 16 ≤ 140737488351232 from (fit_parts (show fitV ⟨x.f0, x.f1, x.f2, x.f3, x.f4⟩ = true from by rw [fit_eta]; exact HFx.out)).2.2.1)
  clear hd hi9 hs
  go_enter Tryd.func5, Tryd.ntmps5
  go_wp2_with (first
    | ((with_reducible refine gate_dst (N := 2) rfl ?_); refine box_event ?hg (N := 2) ?hd (cs := #[.int .i64 x.f0, .bool x.f1, .string x.f2, .slice Ax3 x.f3.length cx3, .slice Ax4 x.f4.length cx4]) (t := 25) ?hr ?_; (case hd => rfl); (case hg => rfl); (case hr => first | (go_simp; done) | (go_simp; rfl)); intro gx hg w1 hbox hb; have S1 := Aside0.mk hb; have BKx := Aside0.mk hbox; have GLx : Aside0 (gx < w1.heap.size) := ⟨blk_lt hbox⟩; clear hg hb hbox; (try clear kx_0 kx_1 kx_2 kx_3 kx_4); obtain ⟨kx_0, kx_1, kx_2, kx_3, kx_4⟩ := blk5 BKx.out)
    | ((with_reducible refine gate_dst (N := 13) rfl ?_); (try (refine gate_guard (by rfl) ?_; dsimp only)); refine lit_read k25 25 ?hg (N := 13) ?hd (xs := [x]) (inner := [.int .i64 x.f0, .bool x.f1, .string x.f2, .slice Ax3 x.f3.length cx3, .slice Ax4 x.f4.length cx4]) ?hr (reps1 (HRx.out.below S1.out).isK rfl) (by simp) ?_; (case hd => rfl); (case hg => rfl); (case hr => first | (go_simp; done) | (go_simp; rfl)); intro Ad cd w2 hc hl hb; have HCd := Aside0.mk hc; have HLd := Aside0.mk hl; have S2 := Aside0.mk hb; clear hc hl hb; replace BKx := Aside0.mk (blk_below BKx.out S2.out); (try clear kx_0 kx_1 kx_2 kx_3 kx_4); obtain ⟨kx_0, kx_1, kx_2, kx_3, kx_4⟩ := blk5 BKx.out)
    | (go_at_call 13; refine (sem_deep HCd.out HLd.out HDF.out).mono ?_; rintro e w3 ⟨rfl, hb⟩; have S3 := Aside0.mk hb; clear hb; rw [HD.out]; replace BKx := Aside0.mk (blk_below BKx.out S3.out); (try clear kx_0 kx_1 kx_2 kx_3 kx_4); obtain ⟨kx_0, kx_1, kx_2, kx_3, kx_4⟩ := blk5 BKx.out)
    | (go_at_call 15; (with_reducible refine (sem_copyA (((HRx.out.below S1.out).below S2.out).below S3.out) HFx.out).mono ?_); rintro e w4 ⟨Ah3, ch3, Ah4, ch4, rfl, g3, g4, hb⟩; have R3h := Aside0.mk g3; have R4h := Aside0.mk g4; have S4 := Aside0.mk hb; clear g3 g4 hb; replace BKx := Aside0.mk (blk_below BKx.out S4.out); (try clear kx_0 kx_1 kx_2 kx_3 kx_4); obtain ⟨kx_0, kx_1, kx_2, kx_3, kx_4⟩ := blk5 BKx.out)
    | ((with_reducible refine gate_dst (N := 5) rfl ?_); refine box_event ?hg (N := 5) ?hd (cs := #[.int .i64 0, .bool false, .string (⟨#[]⟩ : ByteArray), .slice none 0 0, .slice none 0 0]) (t := 25) ?hr ?_; (case hd => rfl); (case hg => rfl); (case hr => first | (go_simp; done) | (go_simp; rfl)); intro gh hg wah hbox hb; have SAh := Aside0.mk hb; have BAh := Aside0.mk hbox; have GAh := Aside0.mk hg; clear hg hb hbox; obtain ⟨zh_0, zh_1, zh_2, zh_3, zh_4, yh_0, yh_1, yh_2, yh_3, yh_4⟩ := blk5z BAh.out)
    | ((with_reducible refine gate_store (p := 5) rfl ?_); refine store_event (w1 := wah.setCells gh 0 [.int .i64 x.f0, .bool x.f1, .string x.f2, .slice Ah3 x.f3.length ch3, .slice Ah4 x.f4.length ch4]) rfl rfl rfl ?hr ?_; (case hr => first | (go_simp; done) | (go_simp; rfl)); intro w5 hw_; have BKh : Aside0 (w5.heap[gh]? = some (.cells #[.int .i64 x.f0, .bool x.f1, .string x.f2, .slice Ah3 x.f3.length ch3, .slice Ah4 x.f4.length ch4] 25 (0, 0))) := ⟨by rw [hw_]; exact (blk_put5 BAh.out)⟩; have S5 : Aside0 (Below w4.heap.size w4 w5) := ⟨by rw [hw_]; exact (below_set5 SAh.out (Nat.le_of_eq GAh.out.symm))⟩; clear hw_ SAh BAh zh_0 yh_0 zh_1 yh_1 zh_2 yh_2 zh_3 yh_3 zh_4 yh_4; have GLh : Aside0 (gh < w5.heap.size) := ⟨blk_lt BKh.out⟩; replace BKx := Aside0.mk (blk_below BKx.out S5.out); (try clear kx_0 kx_1 kx_2 kx_3 kx_4); obtain ⟨kx_0, kx_1, kx_2, kx_3, kx_4⟩ := blk5 BKx.out; (try clear kh_0 kh_1 kh_2 kh_3 kh_4); obtain ⟨kh_0, kh_1, kh_2, kh_3, kh_4⟩ := blk5 BKh.out)
    | ((with_reducible refine gate_dst (N := 21) rfl ?_); (try (refine gate_guard (by rfl) ?_; dsimp only)); refine lit_read Kd.string 9 ?hg (N := 21) ?hd (xs := [s]) (inner := [.string s]) ?hr (Reps.one rfl (Reps.none _ _)) (by simp) ?_; (case hd => rfl); (case hg => rfl); (case hr => first | (go_simp; done) | (go_simp; rfl)); intro An cn w6 hc hl hb; have HCn := Aside0.mk hc; have HLn := Aside0.mk hl; have S6 := Aside0.mk hb; clear hc hl hb; replace BKx := Aside0.mk (blk_below BKx.out S6.out); (try clear kx_0 kx_1 kx_2 kx_3 kx_4); obtain ⟨kx_0, kx_1, kx_2, kx_3, kx_4⟩ := blk5 BKx.out; replace BKh := Aside0.mk (blk_below BKh.out S6.out); (try clear kh_0 kh_1 kh_2 kh_3 kh_4); obtain ⟨kh_0, kh_1, kh_2, kh_3, kh_4⟩ := blk5 BKh.out; obtain ⟨adn, rfl, hcn⟩ := lit1 HCn.out; have HCN := Aside0.mk hcn; clear hcn)
    | (refine append_name rfl (.tmp 19) (.tmp 21) rfl hu23 HI9.out (R_below (R_below R4h.out S5.out) S6.out) rfl adn cn rfl s HCN.out ((below_step (below_step S4.out S5.out) S6.out)).size (by have := HFN.out; omega) ?_; intro Am cm w7 hC hl hk hg; have HCm := Aside0.mk hC; have HLm := Aside0.mk hl; have RWh := Aside0.mk (was_kept (R_below (R_below R3h.out S5.out) S6.out) (Kd.R_reads' (R_below (R_below R4h.out S5.out) S6.out)).2.1 hk hg); have HGm := Aside0.mk hg; clear hC hl hk hg; have SBm : Aside0 (Below w3.heap.size w3 w7) := ⟨pw_below_grown (below_step (below_step S4.out S5.out) S6.out) _ ((below_step (below_step S4.out S5.out) S6.out)).size HGm.out (fun k hk => (own_ge (R_below (R_below R4h.out S5.out) S6.out) k hk).1)⟩; have SWm := Aside0.mk (below_step (below_step (below_step S1.out S2.out) S3.out) SBm.out); have HTm := Aside0.mk (TAB.below HT.out SWm.out); have HRm := Aside0.mk (HRx.out.below SWm.out); have nx : some gx ≠ (Value.slice Ah4 x.f4.length ch4).ownBlock := fun e => absurd (own_ge (R_below (R_below R4h.out S5.out) S6.out) gx e.symm).1 (Nat.not_le.mpr (Nat.lt_of_lt_of_le GLx.out ((below_step S2.out S3.out)).size)); have nh : some gh ≠ (Value.slice Ah4 x.f4.length ch4).ownBlock := fun e => absurd (own_ge R4h.out gh e.symm).2 (by rw [GAh.out]; exact Nat.lt_irrefl _); replace BKx := Aside0.mk (blk_grown BKx.out HGm.out nx); replace BKh := Aside0.mk (blk_grown BKh.out HGm.out nh); clear nx nh; (try clear kx_0 kx_1 kx_2 kx_3 kx_4 kh_0 kh_1 kh_2 kh_3 kh_4); obtain ⟨kx_0, kx_1, kx_2, kx_3, kx_4⟩ := blk5 BKx.out; obtain ⟨kh_0, kh_1, kh_2, kh_3, kh_4⟩ := blk5 BKh.out))
  go_loopg [7] (x.f4.length + 2) (fun kq v7 wr => ∃ j : Nat, v7 = .int .i64 (j : Int) ∧ Aside0 (j ≤ x.f4.length + 1 ∧ x.f4.length + 1 < kq + j) ∧ Aside0 (Below w7.heap.size w7 wr))
  case atStart => exact ⟨0, rfl, ⟨by omega⟩, ⟨Below.refl _ _⟩⟩
  case round =>
    obtain ⟨j, rfl, hj, HBr⟩ := hrel
    have HTr := Aside0.mk (TAB.below HTm.out HBr.out)
    have HRr := Aside0.mk (HRm.out.below HBr.out)
    have RWr := Aside0.mk (RWh.out.below HBr.out)
    have HCr := Aside0.mk (Kd.C_below HCm.out HBr.out)
    have BKxr := Aside0.mk (blk_below BKx.out HBr.out)
    have BKhr := Aside0.mk (blk_below BKh.out HBr.out)
    clear kx_0 kx_1 kx_2 kx_3 kx_4 kh_0 kh_1 kh_2 kh_3 kh_4
    obtain ⟨kx_0, kx_1, kx_2, kx_3, kx_4⟩ := blk5 BKxr.out
    obtain ⟨kh_0, kh_1, kh_2, kh_3, kh_4⟩ := blk5 BKhr.out
    cases gk with
    | zero => exact absurd hj.out (by omega)
    | succ k1 =>
      by_cases hlt : j < x.f4.length + 1
      ·
        have e1 : decide ((j : Int) < ((x.f4.length + 1 : Nat) : Int)) = true := decide_eq_true (by omega)
        go_upto_region 8 with (fail)
        obtain ⟨ad, e_, hx0⟩ := Kd.at_string HCr.out (j : Int) (by omega) (by omega)
        obtain rfl := e_
        rw [Int.toNat_natCast] at hx0
        generalize hsj : rdOf ByteArray.empty (x.f4 ++ [s]) (j : Int) = sj at hx0
        clear hsj
        have HX0 := Aside0.mk hx0
        clear hx0
        have p1 : (0 : Int) ≤ (j : Int) := by omega
        have p2 : (j : Int) < ((x.f4.length + 1 : Nat) : Int) := by omega
        have GLq := Aside0.mk (blk_lt BKxr.out)
        obtain ⟨o, ho⟩ : ∃ o, memberV x sj = o := ⟨_, rfl⟩
        obtain ⟨y, hy⟩ : ∃ y, o.getD zV = y := ⟨_, rfl⟩
        obtain ⟨b, hb⟩ : ∃ b, o.isSome = b := ⟨_, rfl⟩
        have HFy := Aside0.mk (fit_told HFx.out ho hy)
        have HO := Aside0.mk ho
        have HY := Aside0.mk hy
        have HB := Aside0.mk hb
        clear ho hy hb
        (try simp only [Act.put, List.setIfInBounds_toArray, List.set_cons_zero, List.set_cons_succ])
        go_cut [8, 9] (fun s8 s9 wx => ∃ (ga lo hi : Nat) (Ay3 Ay4 : Option Addr) (cy3 cy4 : Nat), s8 = .pointer (some ⟨ga, 0, none⟩) ∧ s9 = .bool b ∧ Aside0 (wx.heap[ga]? = some (.cells #[.int .i64 y.f0, .bool y.f1, .string y.f2, .slice Ay3 y.f3.length cy3, .slice Ay4 y.f4.length cy4] 25 (0, 0))) ∧ Aside0 (Sep lo hi wx y (.agg #[.int .i64 y.f0, .bool y.f1, .string y.f2, .slice Ay3 y.f3.length cy3, .slice Ay4 y.f4.length cy4])) ∧ Aside0 (wr.heap.size ≤ lo ∧ hi ≤ wx.heap.size) ∧ Aside0 (Below wr.heap.size wr wx))
        case first =>
          have SB := Aside0.mk (below_drew (Below.refl wr.heap.size wr))
          refine wp_region_held_drew (S := fun W' => Below wr.heap.size wr W') (by kernel_rfl) SB.out (fun hS0 => ?_)
          have hS0 : Below wr.heap.size wr wr.drew := hS0
          generalize wr.drew = V0 at *
          (refine wpAnyH_take (i := 0) (v := ?_) rfl (by kernel_rfl) (by kernel_rfl) (by kernel_rfl) (fun _ _ _ h => h) (Or.inl ⟨by rfl, ?_⟩) (by assumption) ?_; rotate_left; (focus (intro w_ hSw; have e0_ := (hSw.cell (p := ⟨gx, 0, none⟩) GLq.out).trans kx_0; have e1_ := (hSw.cell (p := ⟨gx, 1, none⟩) GLq.out).trans kx_1; have e2_ := (hSw.cell (p := ⟨gx, 2, none⟩) GLq.out).trans kx_2; have e3_ := (hSw.cell (p := ⟨gx, 3, none⟩) GLq.out).trans kx_3; have e4_ := (hSw.cell (p := ⟨gx, 4, none⟩) GLq.out).trans kx_4; clear hSw; go_simp; try with_reducible rfl)); (try simp only [List.getElem_toArray, List.getElem_cons_zero, List.getElem_cons_succ, Act.put, List.setIfInBounds_toArray, List.set_cons_zero, List.set_cons_succ]))
          (refine wpAnyH_take (i := 1) (v := ?_) rfl (by kernel_rfl) (by kernel_rfl) (by kernel_rfl) (fun _ _ _ h => h) (Or.inl ⟨by rfl, ?_⟩) (by assumption) ?_; rotate_left; (focus (intro w_ hSw; clear hSw; go_simp; try with_reducible rfl)); (try simp only [List.getElem_toArray, List.getElem_cons_zero, List.getElem_cons_succ, Act.put, List.setIfInBounds_toArray, List.set_cons_zero, List.set_cons_succ]))
          (refine wpAnyH_take (i := 2) (v := ?_) rfl (by kernel_rfl) (by kernel_rfl) (by kernel_rfl) (fun _ _ _ h => h) (Or.inl ⟨by rfl, ?_⟩) (by assumption) ?_; rotate_left; (focus (intro w_ hSw; clear hSw; go_simp; try with_reducible rfl)); (try simp only [List.getElem_toArray, List.getElem_cons_zero, List.getElem_cons_succ, Act.put, List.setIfInBounds_toArray, List.set_cons_zero, List.set_cons_succ]))
          (refine wpAnyH_take (i := 3) (v := ?_) rfl (by kernel_rfl) (by kernel_rfl) (by kernel_rfl) (fun _ _ _ h => h) (Or.inl ⟨by rfl, ?_⟩) (by assumption) ?_; rotate_left; (focus (intro w_ hSw; clear hSw; go_simp; try with_reducible rfl)); (try simp only [List.getElem_toArray, List.getElem_cons_zero, List.getElem_cons_succ, Act.put, List.setIfInBounds_toArray, List.set_cons_zero, List.set_cons_succ]))
          (refine wpAnyH_take (i := 4) (v := ?_) rfl (by kernel_rfl) (by kernel_rfl) (by kernel_rfl) (fun _ _ _ h => h) (Or.inl ⟨by rfl, ?_⟩) (by assumption) ?_; rotate_left; (focus (intro w_ hSw; have e0_ := (hSw.cell (World.block_lt_of_cell? _ _ HX0.out)).trans HX0.out; clear hSw; go_simp; try with_reducible rfl)); (try simp only [List.getElem_toArray, List.getElem_cons_zero, List.getElem_cons_succ, Act.put, List.setIfInBounds_toArray, List.set_cons_zero, List.set_cons_succ]))
          refine wpAnyH_ready (rs := [5, 9]) (by decide +kernel) (by simp) ?_
          refine (AllReadyH.cons (i := 5) rfl (fun K_ hK => ?_) (AllReadyH.cons (i := 9) rfl (fun K_ hK => ?_) AllReadyH.nil))
          ·
            refine step_of rfl ?_
            (go_simp; go_at_call 24; refine (sem_getS_at HO.out HY.out HB.out (HRr.out.below SB.out) HFx.out).mono ?_; rintro e V1 ⟨Ay3, cy3, Ay4, cy4, rfl, ho, hb_⟩; have OWy := Aside0.mk ho; clear ho)
            have LOy : Aside0 (wr.heap.size ≤ V0.heap.size) := ⟨SB.out.size⟩
            refine hK.out _ _ (below_step SB.out hb_) (fun hS1 => ?_)
            clear hK K_; (try simp only [List.getElem_toArray, List.getElem_cons_zero, List.getElem_cons_succ, Act.put, List.setIfInBounds_toArray, List.set_cons_zero, List.set_cons_succ])
            replace SB := Aside0.mk (below_step SB.out hb_)
            have HHy : Aside0 (V1.heap.size ≤ V1.heap.size) := ⟨Nat.le_refl _⟩
            clear hb_
            (refine wpAnyH_take (i := 6) (v := ?_) rfl (by kernel_rfl) (by kernel_rfl) (by kernel_rfl) (fun _ _ _ h => h) (Or.inl ⟨by rfl, ?_⟩) (by assumption) ?_; rotate_left; (focus (intro w_ hSw; clear hSw; go_simp; try with_reducible rfl)); (try simp only [List.getElem_toArray, List.getElem_cons_zero, List.getElem_cons_succ, Act.put, List.setIfInBounds_toArray, List.set_cons_zero, List.set_cons_succ]))
            (refine wpAnyH_take (i := 7) (v := ?_) rfl (by kernel_rfl) (by kernel_rfl) (by kernel_rfl) (fun _ _ _ h => h) (Or.inl ⟨by rfl, ?_⟩) (by assumption) ?_; rotate_left; (focus (intro w_ hSw; clear hSw; go_simp; try with_reducible rfl)); (try simp only [List.getElem_toArray, List.getElem_cons_zero, List.getElem_cons_succ, Act.put, List.setIfInBounds_toArray, List.set_cons_zero, List.set_cons_succ]))
            (refine wpAnyH_take (i := 8) (v := ?_) rfl (by kernel_rfl) (by kernel_rfl) (by kernel_rfl) (fun _ _ _ h => h) (Or.inl ⟨by rfl, ?_⟩) (by assumption) ?_; rotate_left; (focus (intro w_ hSw; clear hSw; go_simp; try with_reducible rfl)); (try simp only [List.getElem_toArray, List.getElem_cons_zero, List.getElem_cons_succ, Act.put, List.setIfInBounds_toArray, List.set_cons_zero, List.set_cons_succ]))
            refine wpAnyH_ready (rs := [9]) (by decide +kernel) (by simp) ?_
            refine (AllReadyH.cons (i := 9) rfl (fun K_ hK => ?_) AllReadyH.nil)
            refine step_of rfl ?_
            go_simp
            refine hK.out _ _ (below_alloc SB.out _) (fun hS1 => ?_)
            clear hK K_; (try simp only [List.getElem_toArray, List.getElem_cons_zero, List.getElem_cons_succ, Act.put, List.setIfInBounds_toArray, List.set_cons_zero, List.set_cons_succ])
            have hb_ := below_alloc (Below.refl V1.heap.size V1) (Obj.cells #[.int .i64 0, .bool false, .string (⟨#[]⟩ : ByteArray), .slice none 0 0, .slice none 0 0] 25)
            obtain ⟨ga, hg_⟩ : ∃ g, g = V1.heap.size := ⟨_, rfl⟩
            have ZB := Aside0.mk (blk_new V1 (Obj.cells #[.int .i64 0, .bool false, .string (⟨#[]⟩ : ByteArray), .slice none 0 0, .slice none 0 0] 25))
            rw [← hg_] at ZB
            have ZG := Aside0.mk (show wr.heap.size ≤ ga from hg_ ▸ SB.out.size)
            have ZF := Aside0.mk (Nat.le_of_eq hg_.symm)
            generalize V1.alloc (Obj.cells #[.int .i64 0, .bool false, .string (⟨#[]⟩ : ByteArray), .slice none 0 0, .slice none 0 0] 25) = V2 at *
            rw [← hg_]
            replace OWy := Aside0.mk (OWy.out.keep (fun k _ h => hb_.block k h))
            replace HHy := Aside0.mk (Nat.le_trans HHy.out hb_.size)
            replace SB := Aside0.mk (below_step SB.out hb_)
            clear hg_ hb_
            obtain ⟨z0, z1, z2, z3, z4, y0, y1, y2, y3, y4⟩ := blk5z ZB.out
            refine wpAnyH_ready (rs := [10]) (by decide +kernel) (by simp) ?_
            refine AllReadyH.cons (i := 10) rfl (fun K_ hK => ?_) AllReadyH.nil
            refine step_of rfl ?_
            go_simp
            obtain ⟨l1, l2, l3, l4⟩ := leafS ZB.out (Or.inr ZF.out) OWy.out SB.out ZG.out HHy.out
            refine hK.out _ _ l3 (fun hS1 => ?_)
            clear hK K_; (try simp only [List.getElem_toArray, List.getElem_cons_zero, List.getElem_cons_succ, Act.put, List.setIfInBounds_toArray, List.set_cons_zero, List.set_cons_succ])
            (refine wpAnyH_take (i := 11) (v := ?_) rfl (by kernel_rfl) (by kernel_rfl) (by kernel_rfl) (fun _ _ _ h => h) (Or.inl ⟨by rfl, ?_⟩) (by assumption) ?_; rotate_left; (focus (intro w_ hSw; clear hSw; go_simp; try with_reducible rfl)); (try simp only [List.getElem_toArray, List.getElem_cons_zero, List.getElem_cons_succ, Act.put, List.setIfInBounds_toArray, List.set_cons_zero, List.set_cons_succ]))
            refine wpAnyH_done (by decide +kernel) ?_ _
            (go_wp2_with (fail); go_meet; case rel => exact ⟨_, _, _, _, _, _, _, rfl, rfl, ⟨l1⟩, ⟨l2⟩, ⟨⟨LOy.out, l4⟩⟩, ⟨l3⟩⟩)
          ·
            refine step_of rfl ?_
            go_simp
            refine hK.out _ _ (below_alloc SB.out _) (fun hS1 => ?_)
            clear hK K_; (try simp only [List.getElem_toArray, List.getElem_cons_zero, List.getElem_cons_succ, Act.put, List.setIfInBounds_toArray, List.set_cons_zero, List.set_cons_succ])
            have hb_ := below_alloc (Below.refl V0.heap.size V0) (Obj.cells #[.int .i64 0, .bool false, .string (⟨#[]⟩ : ByteArray), .slice none 0 0, .slice none 0 0] 25)
            obtain ⟨ga, hg_⟩ : ∃ g, g = V0.heap.size := ⟨_, rfl⟩
            have ZB := Aside0.mk (blk_new V0 (Obj.cells #[.int .i64 0, .bool false, .string (⟨#[]⟩ : ByteArray), .slice none 0 0, .slice none 0 0] 25))
            rw [← hg_] at ZB
            have ZG := Aside0.mk (show wr.heap.size ≤ ga from hg_ ▸ SB.out.size)
            generalize V0.alloc (Obj.cells #[.int .i64 0, .bool false, .string (⟨#[]⟩ : ByteArray), .slice none 0 0, .slice none 0 0] 25) = V1 at *
            rw [← hg_]
            replace SB := Aside0.mk (below_step SB.out hb_)
            clear hg_ hb_
            refine wpAnyH_ready (rs := [5]) (by decide +kernel) (by simp) ?_
            refine (AllReadyH.cons (i := 5) rfl (fun K_ hK => ?_) AllReadyH.nil)
            refine step_of rfl ?_
            have GL := Aside0.mk (blk_lt ZB.out)
            (go_simp; go_at_call 24; refine (sem_getS_at HO.out HY.out HB.out (HRr.out.below SB.out) HFx.out).mono ?_; rintro e V2 ⟨Ay3, cy3, Ay4, cy4, rfl, ho, hb_⟩; have OWy := Aside0.mk ho; clear ho)
            have LOy : Aside0 (wr.heap.size ≤ V1.heap.size) := ⟨SB.out.size⟩
            refine hK.out _ _ (below_step SB.out hb_) (fun hS1 => ?_)
            clear hK K_; (try simp only [List.getElem_toArray, List.getElem_cons_zero, List.getElem_cons_succ, Act.put, List.setIfInBounds_toArray, List.set_cons_zero, List.set_cons_succ])
            replace ZB := Aside0.mk (blk_below ZB.out hb_)
            replace SB := Aside0.mk (below_step SB.out hb_)
            have HHy : Aside0 (V2.heap.size ≤ V2.heap.size) := ⟨Nat.le_refl _⟩
            clear hb_
            (refine wpAnyH_take (i := 6) (v := ?_) rfl (by kernel_rfl) (by kernel_rfl) (by kernel_rfl) (fun _ _ _ h => h) (Or.inl ⟨by rfl, ?_⟩) (by assumption) ?_; rotate_left; (focus (intro w_ hSw; clear hSw; go_simp; try with_reducible rfl)); (try simp only [List.getElem_toArray, List.getElem_cons_zero, List.getElem_cons_succ, Act.put, List.setIfInBounds_toArray, List.set_cons_zero, List.set_cons_succ]))
            (refine wpAnyH_take (i := 7) (v := ?_) rfl (by kernel_rfl) (by kernel_rfl) (by kernel_rfl) (fun _ _ _ h => h) (Or.inl ⟨by rfl, ?_⟩) (by assumption) ?_; rotate_left; (focus (intro w_ hSw; clear hSw; go_simp; try with_reducible rfl)); (try simp only [List.getElem_toArray, List.getElem_cons_zero, List.getElem_cons_succ, Act.put, List.setIfInBounds_toArray, List.set_cons_zero, List.set_cons_succ]))
            (refine wpAnyH_take (i := 8) (v := ?_) rfl (by kernel_rfl) (by kernel_rfl) (by kernel_rfl) (fun _ _ _ h => h) (Or.inl ⟨by rfl, ?_⟩) (by assumption) ?_; rotate_left; (focus (intro w_ hSw; clear hSw; go_simp; try with_reducible rfl)); (try simp only [List.getElem_toArray, List.getElem_cons_zero, List.getElem_cons_succ, Act.put, List.setIfInBounds_toArray, List.set_cons_zero, List.set_cons_succ]))
            obtain ⟨z0, z1, z2, z3, z4, y0, y1, y2, y3, y4⟩ := blk5z ZB.out
            refine wpAnyH_ready (rs := [10]) (by decide +kernel) (by simp) ?_
            refine AllReadyH.cons (i := 10) rfl (fun K_ hK => ?_) AllReadyH.nil
            refine step_of rfl ?_
            go_simp
            obtain ⟨l1, l2, l3, l4⟩ := leafS ZB.out (Or.inl GL.out) OWy.out SB.out ZG.out HHy.out
            refine hK.out _ _ l3 (fun hS1 => ?_)
            clear hK K_; (try simp only [List.getElem_toArray, List.getElem_cons_zero, List.getElem_cons_succ, Act.put, List.setIfInBounds_toArray, List.set_cons_zero, List.set_cons_succ])
            (refine wpAnyH_take (i := 11) (v := ?_) rfl (by kernel_rfl) (by kernel_rfl) (by kernel_rfl) (fun _ _ _ h => h) (Or.inl ⟨by rfl, ?_⟩) (by assumption) ?_; rotate_left; (focus (intro w_ hSw; clear hSw; go_simp; try with_reducible rfl)); (try simp only [List.getElem_toArray, List.getElem_cons_zero, List.getElem_cons_succ, Act.put, List.setIfInBounds_toArray, List.set_cons_zero, List.set_cons_succ]))
            refine wpAnyH_done (by decide +kernel) ?_ _
            (go_wp2_with (fail); go_meet; case rel => exact ⟨_, _, _, _, _, _, _, rfl, rfl, ⟨l1⟩, ⟨l2⟩, ⟨⟨LOy.out, l4⟩⟩, ⟨l3⟩⟩)
        case rest =>
          obtain ⟨ga8, lo, hi, Ae3, Ae4, ce3, ce4, rfl, rfl, BK8, SP8, LH8, SW8⟩ := hcut
          generalize hwq : wc = wq at *
          clear hwq
          have HRq := Aside0.mk (HRr.out.below SW8.out)
          have HX0q := Aside0.mk ((SW8.out.cell (World.block_lt_of_cell? _ _ HX0.out)).trans HX0.out)
          have BKxq := Aside0.mk (blk_below BKxr.out SW8.out)
          clear kx_0 kx_1 kx_2 kx_3 kx_4 kh_0 kh_1 kh_2 kh_3 kh_4 HX0 GLq
          obtain ⟨kx_0, kx_1, kx_2, kx_3, kx_4⟩ := blk5 BKxq.out
          have HX0 := HX0q
          have GLq := Aside0.mk (blk_lt BKxq.out)
          go_upto_region 9 with (fail)
          (try simp only [Act.put, List.setIfInBounds_toArray, List.set_cons_zero, List.set_cons_succ])
          go_cut [10, 11] (fun s8 s9 wx => ∃ (ga : Nat) (Ay3 Ay4 : Option Addr) (cy3 cy4 : Nat), s8 = .pointer (some ⟨ga, 0, none⟩) ∧ s9 = .bool b ∧ Aside0 (wx.heap[ga]? = some (.cells #[.int .i64 y.f0, .bool y.f1, .string y.f2, .slice Ay3 y.f3.length cy3, .slice Ay4 y.f4.length cy4] 25 (0, 0))) ∧ Aside0 (Rds wx y (.agg #[.int .i64 y.f0, .bool y.f1, .string y.f2, .slice Ay3 y.f3.length cy3, .slice Ay4 y.f4.length cy4])) ∧ Aside0 (Below wq.heap.size wq wx))
          case first =>
            have SB := Aside0.mk (below_drew (Below.refl wq.heap.size wq))
            refine wp_region_held_drew (S := fun W' => Below wq.heap.size wq W') (by kernel_rfl) SB.out (fun hS0 => ?_)
            have hS0 : Below wq.heap.size wq wq.drew := hS0
            generalize wq.drew = V0 at *
            (refine wpAnyH_take (i := 0) (v := ?_) rfl (by kernel_rfl) (by kernel_rfl) (by kernel_rfl) (fun _ _ _ h => h) (Or.inl ⟨by rfl, ?_⟩) (by assumption) ?_; rotate_left; (focus (intro w_ hSw; have e0_ := (hSw.cell (p := ⟨gx, 0, none⟩) GLq.out).trans kx_0; have e1_ := (hSw.cell (p := ⟨gx, 1, none⟩) GLq.out).trans kx_1; have e2_ := (hSw.cell (p := ⟨gx, 2, none⟩) GLq.out).trans kx_2; have e3_ := (hSw.cell (p := ⟨gx, 3, none⟩) GLq.out).trans kx_3; have e4_ := (hSw.cell (p := ⟨gx, 4, none⟩) GLq.out).trans kx_4; clear hSw; go_simp; try with_reducible rfl)); (try simp only [List.getElem_toArray, List.getElem_cons_zero, List.getElem_cons_succ, Act.put, List.setIfInBounds_toArray, List.set_cons_zero, List.set_cons_succ]))
            (refine wpAnyH_take (i := 1) (v := ?_) rfl (by kernel_rfl) (by kernel_rfl) (by kernel_rfl) (fun _ _ _ h => h) (Or.inl ⟨by rfl, ?_⟩) (by assumption) ?_; rotate_left; (focus (intro w_ hSw; clear hSw; go_simp; try with_reducible rfl)); (try simp only [List.getElem_toArray, List.getElem_cons_zero, List.getElem_cons_succ, Act.put, List.setIfInBounds_toArray, List.set_cons_zero, List.set_cons_succ]))
            (refine wpAnyH_take (i := 2) (v := ?_) rfl (by kernel_rfl) (by kernel_rfl) (by kernel_rfl) (fun _ _ _ h => h) (Or.inl ⟨by rfl, ?_⟩) (by assumption) ?_; rotate_left; (focus (intro w_ hSw; clear hSw; go_simp; try with_reducible rfl)); (try simp only [List.getElem_toArray, List.getElem_cons_zero, List.getElem_cons_succ, Act.put, List.setIfInBounds_toArray, List.set_cons_zero, List.set_cons_succ]))
            (refine wpAnyH_take (i := 3) (v := ?_) rfl (by kernel_rfl) (by kernel_rfl) (by kernel_rfl) (fun _ _ _ h => h) (Or.inl ⟨by rfl, ?_⟩) (by assumption) ?_; rotate_left; (focus (intro w_ hSw; clear hSw; go_simp; try with_reducible rfl)); (try simp only [List.getElem_toArray, List.getElem_cons_zero, List.getElem_cons_succ, Act.put, List.setIfInBounds_toArray, List.set_cons_zero, List.set_cons_succ]))
            (refine wpAnyH_take (i := 4) (v := ?_) rfl (by kernel_rfl) (by kernel_rfl) (by kernel_rfl) (fun _ _ _ h => h) (Or.inl ⟨by rfl, ?_⟩) (by assumption) ?_; rotate_left; (focus (intro w_ hSw; have e0_ := (hSw.cell (World.block_lt_of_cell? _ _ HX0.out)).trans HX0.out; clear hSw; go_simp; try with_reducible rfl)); (try simp only [List.getElem_toArray, List.getElem_cons_zero, List.getElem_cons_succ, Act.put, List.setIfInBounds_toArray, List.set_cons_zero, List.set_cons_succ]))
            refine wpAnyH_ready (rs := [5, 9]) (by decide +kernel) (by simp) ?_
            refine (AllReadyH.cons (i := 5) rfl (fun K_ hK => ?_) (AllReadyH.cons (i := 9) rfl (fun K_ hK => ?_) AllReadyH.nil))
            ·
              refine step_of rfl ?_
              (go_simp; go_at_call 25; refine (sem_getR_at HO.out HY.out HB.out (HRq.out.below SB.out) HFx.out).mono ?_; rintro e V1 ⟨Ay3, cy3, Ay4, cy4, rfl, ho, hb_⟩; have OWy := Aside0.mk ho; clear ho)
              have LOy : Aside0 (wq.heap.size ≤ V0.heap.size) := ⟨SB.out.size⟩
              refine hK.out _ _ (below_step SB.out hb_) (fun hS1 => ?_)
              clear hK K_; (try simp only [List.getElem_toArray, List.getElem_cons_zero, List.getElem_cons_succ, Act.put, List.setIfInBounds_toArray, List.set_cons_zero, List.set_cons_succ])
              replace SB := Aside0.mk (below_step SB.out hb_)
              have HHy : Aside0 (V1.heap.size ≤ V1.heap.size) := ⟨Nat.le_refl _⟩
              clear hb_
              (refine wpAnyH_take (i := 6) (v := ?_) rfl (by kernel_rfl) (by kernel_rfl) (by kernel_rfl) (fun _ _ _ h => h) (Or.inl ⟨by rfl, ?_⟩) (by assumption) ?_; rotate_left; (focus (intro w_ hSw; clear hSw; go_simp; try with_reducible rfl)); (try simp only [List.getElem_toArray, List.getElem_cons_zero, List.getElem_cons_succ, Act.put, List.setIfInBounds_toArray, List.set_cons_zero, List.set_cons_succ]))
              (refine wpAnyH_take (i := 7) (v := ?_) rfl (by kernel_rfl) (by kernel_rfl) (by kernel_rfl) (fun _ _ _ h => h) (Or.inl ⟨by rfl, ?_⟩) (by assumption) ?_; rotate_left; (focus (intro w_ hSw; clear hSw; go_simp; try with_reducible rfl)); (try simp only [List.getElem_toArray, List.getElem_cons_zero, List.getElem_cons_succ, Act.put, List.setIfInBounds_toArray, List.set_cons_zero, List.set_cons_succ]))
              (refine wpAnyH_take (i := 8) (v := ?_) rfl (by kernel_rfl) (by kernel_rfl) (by kernel_rfl) (fun _ _ _ h => h) (Or.inl ⟨by rfl, ?_⟩) (by assumption) ?_; rotate_left; (focus (intro w_ hSw; clear hSw; go_simp; try with_reducible rfl)); (try simp only [List.getElem_toArray, List.getElem_cons_zero, List.getElem_cons_succ, Act.put, List.setIfInBounds_toArray, List.set_cons_zero, List.set_cons_succ]))
              refine wpAnyH_ready (rs := [9]) (by decide +kernel) (by simp) ?_
              refine (AllReadyH.cons (i := 9) rfl (fun K_ hK => ?_) AllReadyH.nil)
              refine step_of rfl ?_
              go_simp
              refine hK.out _ _ (below_alloc SB.out _) (fun hS1 => ?_)
              clear hK K_; (try simp only [List.getElem_toArray, List.getElem_cons_zero, List.getElem_cons_succ, Act.put, List.setIfInBounds_toArray, List.set_cons_zero, List.set_cons_succ])
              have hb_ := below_alloc (Below.refl V1.heap.size V1) (Obj.cells #[.int .i64 0, .bool false, .string (⟨#[]⟩ : ByteArray), .slice none 0 0, .slice none 0 0] 25)
              obtain ⟨ga, hg_⟩ : ∃ g, g = V1.heap.size := ⟨_, rfl⟩
              have ZB := Aside0.mk (blk_new V1 (Obj.cells #[.int .i64 0, .bool false, .string (⟨#[]⟩ : ByteArray), .slice none 0 0, .slice none 0 0] 25))
              rw [← hg_] at ZB
              have ZG := Aside0.mk (show wq.heap.size ≤ ga from hg_ ▸ SB.out.size)
              have ZF := Aside0.mk (Nat.le_of_eq hg_.symm)
              generalize V1.alloc (Obj.cells #[.int .i64 0, .bool false, .string (⟨#[]⟩ : ByteArray), .slice none 0 0, .slice none 0 0] 25) = V2 at *
              rw [← hg_]
              replace OWy := Aside0.mk (OWy.out.below hb_)
              replace HHy := Aside0.mk (Nat.le_trans HHy.out hb_.size)
              replace SB := Aside0.mk (below_step SB.out hb_)
              clear hg_ hb_
              obtain ⟨z0, z1, z2, z3, z4, y0, y1, y2, y3, y4⟩ := blk5z ZB.out
              refine wpAnyH_ready (rs := [10]) (by decide +kernel) (by simp) ?_
              refine AllReadyH.cons (i := 10) rfl (fun K_ hK => ?_) AllReadyH.nil
              refine step_of rfl ?_
              go_simp
              obtain ⟨l1, l2, l3⟩ := leafC ZB.out (Or.inr ZF.out) OWy.out SB.out ZG.out
              refine hK.out _ _ l3 (fun hS1 => ?_)
              clear hK K_; (try simp only [List.getElem_toArray, List.getElem_cons_zero, List.getElem_cons_succ, Act.put, List.setIfInBounds_toArray, List.set_cons_zero, List.set_cons_succ])
              (refine wpAnyH_take (i := 11) (v := ?_) rfl (by kernel_rfl) (by kernel_rfl) (by kernel_rfl) (fun _ _ _ h => h) (Or.inl ⟨by rfl, ?_⟩) (by assumption) ?_; rotate_left; (focus (intro w_ hSw; clear hSw; go_simp; try with_reducible rfl)); (try simp only [List.getElem_toArray, List.getElem_cons_zero, List.getElem_cons_succ, Act.put, List.setIfInBounds_toArray, List.set_cons_zero, List.set_cons_succ]))
              refine wpAnyH_done (by decide +kernel) ?_ _
              (go_wp2_with (fail); go_meet; case rel => exact ⟨_, _, _, _, _, rfl, rfl, ⟨l1⟩, ⟨l2⟩, ⟨l3⟩⟩)
            ·
              refine step_of rfl ?_
              go_simp
              refine hK.out _ _ (below_alloc SB.out _) (fun hS1 => ?_)
              clear hK K_; (try simp only [List.getElem_toArray, List.getElem_cons_zero, List.getElem_cons_succ, Act.put, List.setIfInBounds_toArray, List.set_cons_zero, List.set_cons_succ])
              have hb_ := below_alloc (Below.refl V0.heap.size V0) (Obj.cells #[.int .i64 0, .bool false, .string (⟨#[]⟩ : ByteArray), .slice none 0 0, .slice none 0 0] 25)
              obtain ⟨ga, hg_⟩ : ∃ g, g = V0.heap.size := ⟨_, rfl⟩
              have ZB := Aside0.mk (blk_new V0 (Obj.cells #[.int .i64 0, .bool false, .string (⟨#[]⟩ : ByteArray), .slice none 0 0, .slice none 0 0] 25))
              rw [← hg_] at ZB
              have ZG := Aside0.mk (show wq.heap.size ≤ ga from hg_ ▸ SB.out.size)
              generalize V0.alloc (Obj.cells #[.int .i64 0, .bool false, .string (⟨#[]⟩ : ByteArray), .slice none 0 0, .slice none 0 0] 25) = V1 at *
              rw [← hg_]
              replace SB := Aside0.mk (below_step SB.out hb_)
              clear hg_ hb_
              refine wpAnyH_ready (rs := [5]) (by decide +kernel) (by simp) ?_
              refine (AllReadyH.cons (i := 5) rfl (fun K_ hK => ?_) AllReadyH.nil)
              refine step_of rfl ?_
              have GL := Aside0.mk (blk_lt ZB.out)
              (go_simp; go_at_call 25; refine (sem_getR_at HO.out HY.out HB.out (HRq.out.below SB.out) HFx.out).mono ?_; rintro e V2 ⟨Ay3, cy3, Ay4, cy4, rfl, ho, hb_⟩; have OWy := Aside0.mk ho; clear ho)
              have LOy : Aside0 (wq.heap.size ≤ V1.heap.size) := ⟨SB.out.size⟩
              refine hK.out _ _ (below_step SB.out hb_) (fun hS1 => ?_)
              clear hK K_; (try simp only [List.getElem_toArray, List.getElem_cons_zero, List.getElem_cons_succ, Act.put, List.setIfInBounds_toArray, List.set_cons_zero, List.set_cons_succ])
              replace ZB := Aside0.mk (blk_below ZB.out hb_)
              replace SB := Aside0.mk (below_step SB.out hb_)
              have HHy : Aside0 (V2.heap.size ≤ V2.heap.size) := ⟨Nat.le_refl _⟩
              clear hb_
              (refine wpAnyH_take (i := 6) (v := ?_) rfl (by kernel_rfl) (by kernel_rfl) (by kernel_rfl) (fun _ _ _ h => h) (Or.inl ⟨by rfl, ?_⟩) (by assumption) ?_; rotate_left; (focus (intro w_ hSw; clear hSw; go_simp; try with_reducible rfl)); (try simp only [List.getElem_toArray, List.getElem_cons_zero, List.getElem_cons_succ, Act.put, List.setIfInBounds_toArray, List.set_cons_zero, List.set_cons_succ]))
              (refine wpAnyH_take (i := 7) (v := ?_) rfl (by kernel_rfl) (by kernel_rfl) (by kernel_rfl) (fun _ _ _ h => h) (Or.inl ⟨by rfl, ?_⟩) (by assumption) ?_; rotate_left; (focus (intro w_ hSw; clear hSw; go_simp; try with_reducible rfl)); (try simp only [List.getElem_toArray, List.getElem_cons_zero, List.getElem_cons_succ, Act.put, List.setIfInBounds_toArray, List.set_cons_zero, List.set_cons_succ]))
              (refine wpAnyH_take (i := 8) (v := ?_) rfl (by kernel_rfl) (by kernel_rfl) (by kernel_rfl) (fun _ _ _ h => h) (Or.inl ⟨by rfl, ?_⟩) (by assumption) ?_; rotate_left; (focus (intro w_ hSw; clear hSw; go_simp; try with_reducible rfl)); (try simp only [List.getElem_toArray, List.getElem_cons_zero, List.getElem_cons_succ, Act.put, List.setIfInBounds_toArray, List.set_cons_zero, List.set_cons_succ]))
              obtain ⟨z0, z1, z2, z3, z4, y0, y1, y2, y3, y4⟩ := blk5z ZB.out
              refine wpAnyH_ready (rs := [10]) (by decide +kernel) (by simp) ?_
              refine AllReadyH.cons (i := 10) rfl (fun K_ hK => ?_) AllReadyH.nil
              refine step_of rfl ?_
              go_simp
              obtain ⟨l1, l2, l3⟩ := leafC ZB.out (Or.inl GL.out) OWy.out SB.out ZG.out
              refine hK.out _ _ l3 (fun hS1 => ?_)
              clear hK K_; (try simp only [List.getElem_toArray, List.getElem_cons_zero, List.getElem_cons_succ, Act.put, List.setIfInBounds_toArray, List.set_cons_zero, List.set_cons_succ])
              (refine wpAnyH_take (i := 11) (v := ?_) rfl (by kernel_rfl) (by kernel_rfl) (by kernel_rfl) (fun _ _ _ h => h) (Or.inl ⟨by rfl, ?_⟩) (by assumption) ?_; rotate_left; (focus (intro w_ hSw; clear hSw; go_simp; try with_reducible rfl)); (try simp only [List.getElem_toArray, List.getElem_cons_zero, List.getElem_cons_succ, Act.put, List.setIfInBounds_toArray, List.set_cons_zero, List.set_cons_succ]))
              refine wpAnyH_done (by decide +kernel) ?_ _
              (go_wp2_with (fail); go_meet; case rel => exact ⟨_, _, _, _, _, rfl, rfl, ⟨l1⟩, ⟨l2⟩, ⟨l3⟩⟩)
          case rest =>
            obtain ⟨ga9, Af3, Af4, cf3, cf4, rfl, rfl, BK9, RD9, SW9⟩ := hcut
            generalize hwq : wc = wp at *
            clear hwq
            have BK8p := Aside0.mk (blk_below BK8.out SW9.out)
            have SP8p := Aside0.mk (SP8.out.keep (fun k _ h => SW9.out.block k (Nat.lt_of_lt_of_le h LH8.out.2)))
            have LH8p := Aside0.mk (Nat.le_trans LH8.out.2 SW9.out.size)
            clear kx_0 kx_1 kx_2 kx_3 kx_4
            obtain ⟨ka_0, ka_1, ka_2, ka_3, ka_4⟩ := blk5 BK8p.out
            obtain ⟨kb_0, kb_1, kb_2, kb_3, kb_4⟩ := blk5 BK9.out
            clear p1 p2
            have j1 : wrap64 ((j : Int) + 1) = (j : Int) + 1 := v_wrap (by omega) (by have := HFN.out; omega)
            cases b
            all_goals
              go_wp2_with (first
                | (go_at_call 20; (with_reducible refine (sem_equalR_same SP8p.out.reads RD9.out HFy.out).mono ?_); rintro e ws ⟨rfl, hb⟩; have SS := Aside0.mk hb; clear hb; have SP8s := Aside0.mk (SP8p.out.keep (fun k _ h => SS.out.block k (Nat.lt_of_lt_of_le h LH8p.out))); have BK8s := Aside0.mk (blk_below BK8p.out SS.out); clear ka_0 ka_1 ka_2 ka_3 ka_4 kb_0 kb_1 kb_2 kb_3 kb_4; obtain ⟨ka_0, ka_1, ka_2, ka_3, ka_4⟩ := blk5 BK8s.out)
                | (go_at_call 23; (with_reducible refine (sem_spoil SP8s.out HFy.out (Nat.le_trans LH8p.out SS.out.size)).mono ?_); rintro e wt ⟨rfl, -, ht⟩; have ST := Aside0.mk ht; clear ht ka_0 ka_1 ka_2 ka_3 ka_4))
              go_roundg k1
              case measure => omega
              case rel => exact ⟨j + 1, by go_num, ⟨by have := hj.out; omega⟩, ⟨touch_over (below_step HBr.out (below_step SW8.out (below_step SW9.out SS.out))) ST.out (Nat.le_trans HBr.out.size LH8.out.1)⟩⟩
      · have e1 : decide ((j : Int) < ((x.f4.length + 1 : Nat) : Int)) = false := decide_eq_false (by omega)
        go_wp2_with (first
          | (go_at_call 20; (with_reducible refine (sem_equalR_same HRr.out RWr.out HFx.out).mono ?_); rintro e w1 ⟨rfl, hb⟩; have S1 := Aside0.mk hb; clear hb)
          | (go_at_call 14; (with_reducible refine (colophonlaw10_awake.calls true _ (TAB.below HTr.out S1.out) rfl).mono ?_); rintro e w2 ⟨rfl, hb⟩; have S2 := Aside0.mk hb; clear hb))
        go_ret
        exact ⟨rfl, below_step (below_step SWm.out HBr.out) (below_step S1.out S2.out)⟩
end Go.Proofs.YtfpmompdgmklmaaDoor.P
/- ValueGets: of all values, and names. -/
namespace Go.Proofs.YtfpmompdgmklmaaDoor.P
open Go.RowKit Go.Proofs.YtfpmompdgmklmaaDoorW.PrintWords
theorem gets_walk (x : S25) (s : ByteArray) (vx : Value) (w : World) (hrx : Rds w x vx) (hfx : fitV x = true) (hs : s.size ≤ 140737488351232) (hT : TAB w) : Calls Tryd.prog 5 #[vx, .string s] w fun e w' => e = .returned (.bool true) ∧ Below w.heap.size w w' := by
  cases hd : anyDeep [x] with
  | true => exact gets_deep x s vx w hrx hfx hs hT hd
  | false => exact gets_case x s vx w hrx hfx hs hT hd
end Go.Proofs.YtfpmompdgmklmaaDoor.P
