/- Reader.Write. -/
import Derived.Test.YthkmacgjekienaaDoorF5
namespace Go.Proofs.YthkmacgjekienaaDoor.P
attribute [-simp] List.length_drop List.length_take ByteArray.size_append
open Go.RowKit Go.Shelf Go.Proofs.YthkmacgjekienaaDoor.Pure Go.Proofs.YthkmacgjekienaaDoorW.PrintWords Go.Proofs.YthkmacgjekienaaDoorW.PrintLast Go.Proofs.YthkmacgjekienaaDoorW.PrintMore
set_option linter.unusedVariables false
set_option linter.unusedSimpArgs false
attribute [local go_sem] Oper.semAt_some
theorem info22 : (Tryd.prog.info? 27).map (fun i => (i.zero, i.size, i.bytes)) = some (some (.slice none 0 0), 1, 24) := by kernel_rfl
theorem Below_put {B : Nat} {a w : World} (h : Below B a w) {D : Nat} (hD : B ≤ D) (o : Obj) : Below B a (w.putObj D o) :=
  ⟨h.os, h.tape, h.output, by simpa [World.putObj] using h.size, fun k hk => (World.putObj_heap_other (by omega)).trans (h.block k hk)⟩
/-- the append of what comes -/
theorem wr_row {w0 w w1 : World} {g : Nat} {v v1 : Value} {B X : List Int} (hR : Rd w0.heap.size w g v B false) (r1 : Kd.R (Kd.int .u8) 5 w1 w0.heap.size (fun _ => True) v1 X) (r2 : w.grownBy w1 v.ownBlock) : Rd w0.heap.size (w1.setCell ⟨g, 0, none⟩ v1) g v1 X false := by
  have hb : w1.heap[g]? = some (.cells #[v, .bool true, .bool false] 57 (0, 0)) := blk_grown hR.blk r2 (Kd.R_ne hR.row hR.blk (by decide))
  refine ⟨?_, Kd.R_set r1 hb (fun q hq => by simp [Kd.int, Kd.scalar] at hq; subst hq; decide) 0 v1, hR.lo⟩
  have := blk_set hb 0 v1
  simpa using this
theorem results_ct {fn : Func} {p q : Tmp} {w : World} {tmps : Array Value} {g : Nat} {A : Option Addr} {n c : Nat} {u : Value} (h : fn.results = #[.cell p 22, .tmp q]) (hp : tmps.getD p undef = .pointer (some ⟨g, 0, none⟩)) (hq : tmps.getD q undef = u) (hc : w.cell? ⟨g, 0, none⟩ = some (.slice A n c)) : (results fn tmps).run Tryd.prog w = .ok (.tuple #[.slice A n c, u]) w := by
  have hagg : (isAgg 22).run Tryd.prog w = .ok false w := by
    unfold isAgg
    rw [Sem.run_bind, run_underlying Tryd.underlying22 w]
    rfl
  unfold results
  rw [show fn.results = [ResultVar.cell p 22, ResultVar.tmp q].toArray from h, List.mapM_toArray]
  have hp' : tmps[p]?.getD undef = .pointer (some ⟨g, 0, none⟩) := by simpa using hp
  have hq' : tmps[q]?.getD undef = u := by simpa using hq
  simp [Sem.run_bind, hp', hq', asAddr, loadVar, hagg, hc]
set_option maxRecDepth 100000 in
set_option maxHeartbeats 4000000 in
theorem write_walk {w0 w : World} {g : Nat} {v : Value} {B : List Int} (hR : Rd w0.heap.size w g v B false) (A : Option Addr) (n c : Nat) (l : List Int) (hn : l.length = n) (hl : Kd.C (Kd.int .u8) w A n l) (hc : n ≤ c) (hT : TAB w0) (hB : Below w0.heap.size w0 w)
    (hby : Byt (B ++ l)) (hsz : (B ++ l).length ≤ 140737488351232) (bs : List (List Int)) (left : List Int) (er : Int) (hbod : bodT (B ++ l) = (bs, left, er)) (hcnt : bs.length ≤ 5000000000000) :
    Calls Tryd.prog 14 #[.pointer (some ⟨g, 0, none⟩), .slice A n c] w fun e w' => ∃ vo v', e = .returned (.tuple #[vo, .int .i64 (if er = 3 then 0 else er)]) ∧
      Kd.R (Kd.slice 5 (Kd.int .u8)) 27 w' w.heap.size (fun k => w.heap.size ≤ k ∧ some k ≠ v'.ownBlock) vo bs ∧
      Rd w0.heap.size w' g v' (if er = 3 then left else []) (decide (er ≠ 3)) ∧ (∀ k, v'.ownBlock = some k → w.heap.size ≤ k) ∧ Below w0.heap.size w0 w' ∧ (∀ k, k < w.heap.size → k ≠ g → some k ≠ v.ownBlock → w'.heap[k]? = w.heap[k]?) := by
  obtain ⟨X, hX⟩ : ∃ X, B ++ l = X := ⟨_, rfl⟩
  have HSa := Aside0.mk (show B.length + n ≤ 140737488351232 by rw [List.length_append] at hsz; omega)
  rw [hX] at hby hsz hbod
  have HX := Aside0.mk hX
  have HBOD := Aside0.mk hbod
  clear hX hbod
  have HR := Aside0.mk hR
  have HL := Aside0.mk hl
  have HT := Aside0.mk hT
  have HB := Aside0.mk hB
  have HBy := Aside0.mk hby
  have HSZ := Aside0.mk hsz
  have HCN := Aside0.mk hcnt
  have hgl := hR.lt
  obtain ⟨Av, cv, rfl⟩ := Kd.R_slice hR.row
  have hAl := Kd.C_alloc hl (.cells #[.slice none 0 0] 22)
  have HRa := Aside0.mk (hR.below (below_alloc (Below.refl _ w) (.cells #[.slice none 0 0] 22)))
  have h1 := HRa.out.c1
  have h2 := HRa.out.c2
  have h0 := HRa.out.c0
  have HLa := Aside0.mk hAl
  have HGn := Aside0.mk hgl
  clear hR hl hT hB hby hsz hcnt hAl hgl
  refine (callsIn_wide (n := 4)).1 ?_
  refine callsIn_of_wp_marks Tryd.func14 rfl trivial ?_ rfl
  refine wpIn_wide.2 ?_
  simp only [Tryd.ntmps14, List.size_toArray, List.length_cons, List.length_nil, Nat.reduceAdd, Nat.reduceSub, Array.replicate_succ, Array.replicate_zero, List.push_toArray, List.append_toArray, List.nil_append, List.cons_append]
  go_wp2_with (first
    | (go_at_call 29; (with_reducible refine (none_calls HRa.out.c1).mono ?_); rintro e w' ⟨rfl, rfl⟩)
    | (at_builtin; refine Kd.R_append_row (Value.int .u8) 0 (w0 := w0) w0.heap.size rfl _ _ 27 5 (.int .u8 0) 1 rfl Tryd.underlying27 info5 rfl (by decide) _ _ l _ _ _ (fun _ => True) rfl rfl (fun _ _ => trivial) HRa.out.row HLa.out (below_alloc HB.out _) (by have := HB.out.size; simp; omega) (by have := HSa.out; omega) ?_; intro v1 w1 ho1 hb1 hg1 ha1; rw [HX.out] at ho1; obtain ⟨A1, c1, rfl⟩ := Kd.R_slice ho1; have HO1 := Aside0.mk ho1; have HB1 := Aside0.mk hb1; have HG1 := Aside0.mk hg1; have HA1 := Aside0.mk ha1; have kb := blk_grown HRa.out.blk hg1 (Kd.R_ne HRa.out.row HRa.out.blk (by decide)); have kc0 := blk_cell kb 0; have kf0 := blk_frozen kb 0; simp at kc0; clear ho1 hb1 hg1 ha1 kb))
  have hbo1 : Boxed w1 w.heap.size 22 (.slice none 0 0) := blk_grown (Boxed.new w 22 (.slice none 0 0)) HG1.out (Kd.R_ne HRa.out.row (Boxed.new w 22 (.slice none 0 0)) (by decide))
  have R5 := Aside0.mk (wr_row HRa.out HO1.out HG1.out)
  have hbo5 := hbo1.other (B' := g) (by have := HGn.out; omega) (Value.slice A1 X.length c1)
  have hk5 : ∀ k, k < w.heap.size → k ≠ g → some k ≠ (Value.slice Av B.length cv).ownBlock → (w1.setCell ⟨g, 0, none⟩ (Value.slice A1 X.length c1)).heap[k]? = w.heap[k]? := fun k hk h1 h2 =>
    (Below.heap_setCell w1 ⟨g, 0, none⟩ _ k h1).trans ((HG1.out.block k (by simp; omega) h2).trans (Below.heap_alloc _ _ _ (by omega)))
  have hb5 : Below w0.heap.size w0 (w1.setCell ⟨g, 0, none⟩ (Value.slice A1 X.length c1)) := HB1.out.setCell (p := ⟨g, 0, none⟩) HR.out.lo _
  have K5 := Aside0.mk hk5
  have B5 := Aside0.mk hb5
  have BO5 := Aside0.mk hbo5
  have hfv : ∀ k, (Value.slice A1 X.length c1).ownBlock = some k → (Value.slice Av B.length cv).ownBlock = some k ∨ w.heap.size ≤ k := fun k hk => by
    rcases HA1.out with e | ⟨b, e, hb⟩
    · exact .inl (e ▸ hk)
    · rw [e] at hk; cases hk; exact .inr (by simp at hb; omega)
  clear hbo1 hbo5 hk5 hb5 HO1 HG1 HB1 HA1 HRa HLa h0 h1 h2 kc0 kf0 HL
  have hsz5 : w.heap.size < (w1.setCell ⟨g, 0, none⟩ (Value.slice A1 X.length c1)).heap.size := BO5.out.lt
  have SZ5 := Aside0.mk hsz5
  clear hsz5
  generalize w1.setCell ⟨g, 0, none⟩ (Value.slice A1 X.length c1) = w5 at R5 K5 B5 BO5 SZ5 ⊢
  refine (all_calls A1 X.length c1 w5).mono ?_
  rintro e w6 ⟨rfl, rfl⟩
  have R6 := Aside0.mk (R5.out.below (below_alloc (Below.refl _ w5) (.cells #[.slice A1 X.length c1] 27)))
  have BO6 := Aside0.mk (BO5.out.alloc (.cells #[.slice A1 X.length c1] 27))
  have BX6 := Aside0.mk (Boxed.new w5 27 (.slice A1 X.length c1)).cell
  have B6 := Aside0.mk (below_alloc B5.out (.cells #[.slice A1 X.length c1] 27))
  have K6 := Aside0.mk (fun k (hk : k < w.heap.size) h1 h2 => (Below.heap_alloc w5 (.cells #[.slice A1 X.length c1] 27) k (Nat.lt_trans hk SZ5.out)).trans (K5.out k hk h1 h2))
  have SZ6 := Aside0.mk (show w.heap.size < (w5.alloc (.cells #[.slice A1 X.length c1] 27)).heap.size from BO6.out.lt)
  have HBX := SZ5
  clear R5 K5 B5 BO5 SZ5
  generalize w5.heap.size = bx at BX6 HBX ⊢
  generalize w5.alloc (.cells #[.slice A1 X.length c1] 27) = w6 at R6 BO6 BX6 B6 K6 SZ6 ⊢
  obtain ⟨gb, hgb, hview, hng, hne⟩ := R6.out.view bx w.heap.size (World.block_lt_of_cell? _ _ BX6.out) (by have := HGn.out; have := HBX.out; omega) (by have := HBX.out; omega) BO6.out (by decide)
  have HV6 := Aside0.mk hview
  have HGB := Aside0.mk hgb
  have HNE := Aside0.mk hne
  have HNG := Aside0.mk hng
  have hgb0 : w0.heap.size ≤ w6.heap.size := B6.out.size
  have HG0 := Aside0.mk hgb0
  have HW0 := Aside0.mk (show w0.heap.size ≤ w.heap.size from HB.out.size)
  clear hview hgb hne hng hgb0
  go_wp2
  refine (wpIn_wide (n := 4)).1 ?_
  refine rangeX rfl (by decide) (gf := 34) (lb := #[.pointer (some ⟨bx, 0, none⟩)]) rfl trivial (enters_of Tryd.func34 (by kernel_rfl) rfl) (all1_seq HV6.out HGB.out HBy.out HSZ.out HT.out B6.out bx BX6.out) (fun m pre x => Hx_own m pre x) Kpp.trans (fun W l o o' => Kpp_book HG0.out HGB.out W l o o') (fun _ => rfl)
    (fun m pre W => CI w0 w6 w.heap.size pre W) (fun _ _ _ => False) (fun m => CI.own SZ6.out HG0.out) (fun c s W W' row hs hg hr => hs) (CI.start BO6.out) ?a1 ?assign ?body ?done ?stop
  case assign =>
    intro l x W K hK
    gi_wp2
    exact hK
  case body =>
    rintro l pre ⟨xv, xb⟩ m W hI hx
    obtain ⟨vo, h1, h2⟩ := hI.box
    obtain ⟨Ax, cx, rfl⟩ := Kd.R_slice (show Kd.R (Kd.int .u8) 5 W w6.heap.size (fun k => m ≤ k) xv xb from hx.1)
    have hlen : (pre.map (·.2)).length < 5000000000000 := by
      have h3 : pre.length < bs.length := by have := (List.getElem?_eq_some_iff.1 hx.2.1).1; rw [HBOD.out] at this; exact this
      have h4 := HCN.out
      rw [List.length_map]; omega
    obtain ⟨bp, hbs⟩ : ∃ bp, pre.map (·.2) = bp := ⟨_, rfl⟩
    rw [hbs] at h2 hlen
    obtain ⟨Ao, co, rfl⟩ := Kd.R_slice h2
    have HBS := Aside0.mk hbs
    clear hbs
    have hco := h1.cell
    have H1 := Aside0.mk h1
    have H2 := Aside0.mk h2
    have HI := Aside0.mk hI
    have HXX := Aside0.mk (Kd.R_types hx.1 h1 (fun q hq => by simp [Kd.int, Kd.scalar] at hq; subst hq; decide))
    have HLN := Aside0.mk hlen
    have hap : ∀ k, w6.heap.size ≤ k ∧ (∃ q, q = 5 ∧ ∃ cells, W.heap[k]? = some (.cells cells q (0, 0))) → w6.heap.size ≤ k ∧ some k ≠ (Value.slice Ao bp.length co).ownBlock := fun k ⟨hk, q, hq, cells, hc⟩ => ⟨hk, fun e => by
      obtain ⟨cells2, hc2⟩ := Kd.R_typed h2 k e.symm
      rw [hc2] at hc; cases hc; cases hq⟩
    have HAP := Aside0.mk hap
    have hxm : (Kd.slice 5 (Kd.int .u8)).M W w6.heap.size (fun k => w6.heap.size ≤ k ∧ (∃ q, q = 5 ∧ ∃ cells, W.heap[k]? = some (.cells cells q (0, 0)))) xb [.slice Ax xb.length cx] := ⟨_, rfl, Kd.R_mono (Kd.R_bound hx.1) fun k hk => by
      obtain ⟨_, h3, _, q, hq, cells, hc⟩ := hk
      exact ⟨h3, q, by simpa [Kd.int, Kd.scalar] using hq, cells, hc⟩⟩
    have HXM := Aside0.mk hxm
    clear hI hx h1 h2 hlen hap hxm
    dsimp only
    gi_wp2_with (gi_at_builtin; refine in_append (Kd.slice 5 (Kd.int .u8)) w6.heap.size rfl (.tmp 30) (.tmp 32) 22 27 (.slice none 0 0) 24 rfl Tryd.underlying22 info27 rfl (by decide) (by decide) (.slice Ao bp.length co) bp xb [.slice Ax xb.length cx] (fun k => w6.heap.size ≤ k) (fun k => w6.heap.size ≤ k ∧ (∃ q, q = 5 ∧ ∃ cells, W.heap[k]? = some (.cells cells q (0, 0)))) rfl rfl HXM.out HAP.out (fun k hk => Nat.le_trans HI.out.be.size hk) H2.out HI.out.be.size (by have := HLN.out; omega) ?_; intro v1 wa r1 r2 r3; obtain ⟨A1, c1, e1⟩ := Kd.R_slice r1; rw [List.length_append, List.length_singleton] at e1; subst e1; have R1 := Aside0.mk r1; have R2 := Aside0.mk r2; have kb := H1.out.kept r2 (fun e_ => by have := Kd.R_base H2.out _ e_.symm; have := SZ6.out; omega); have kc := kb.cell; have kf := kb.frozen; clear r1 r2 r3 kb)
    exact CI.step HI.out SZ6.out HW0.out HGB.out HNE.out H1.out (by rw [HBS.out]; exact H2.out) (by rw [HBS.out]; exact R1.out) R2.out
  case stop => intro D c pre W _ _ h; exact h.elim
  case done =>
    intro D xs m W hD hxs hI hDef
    obtain ⟨vo, h1, h2⟩ := hI.box
    rw [hxs, HBOD.out] at h2
    have hbs : (bodT X).1 = bs := by rw [HBOD.out]
    obtain ⟨Ao, co, rfl⟩ := Kd.R_slice h2
    have hco := h1.cell
    have hg6 : g < w6.heap.size := Nat.lt_trans HGn.out SZ6.out
    have hg7 : W.heap[g]? = some (.cells #[.slice A1 X.length c1, .bool true, .bool false] 57 (0, 0)) := (hI.kp g hg6 (Nat.ne_of_lt HGn.out)).trans R6.out.blk
    have hv7 := HV6.out.move (W' := W) fun h => hI.kp gb h HNE.out
    have H1 := Aside0.mk h1
    have H2 := Aside0.mk h2
    have HI := Aside0.mk hI
    have HD := Aside0.mk hD
    have HDef := Aside0.mk hDef
    have HG7 := Aside0.mk hg7
    have HV7 := Aside0.mk hv7
    have HBS := Aside0.mk hbs
    have hm : bs.length ≤ 5000000000000 := HCN.out
    have HMM := Aside0.mk hm
    clear h1 h2 hI hD hDef hg7 hv7 hbs hm hg6 hxs
    go_wp2
    go_loopw [36] (fun i wr => ∃ (q : Nat) (A' : Option Addr) (c' : Nat) (l' : List Int), q ≤ bs.length ∧ i = .int .i64 q ∧ Aside0 (wr.heap[g]? = some (.cells #[.slice A' l'.length c', .bool true, .bool false] 57 (0, 0))) ∧ Aside0 (Vw gb wr A' l'.length c' l') ∧ Aside0 (Byt l') ∧ Aside0 (l'.length ≤ 140737488351232) ∧ Aside0 ((bodT l').1 = bs.drop q) ∧ Aside0 ((bodT l').2 = (left, er)) ∧ Aside0 (Below w0.heap.size W wr) ∧ Aside0 (∀ k, k < W.heap.size → k ≠ g → wr.heap[k]? = W.heap[k]?)) (fun i _ => bs.length - (intOf i).toNat)
    case atStart => exact ⟨0, A1, c1, X, Nat.zero_le _, rfl, HG7, HV7, HBy, HSZ, ⟨HBS.out⟩, ⟨by rw [HBOD.out]⟩, ⟨Below.refl _ _⟩, ⟨fun _ _ _ => rfl⟩⟩
    case round =>
      obtain ⟨q, A', c', l', hq, rfl, HGr, HVr, HByr, HSr, HDr, HEr, HBr, HKr⟩ := hrel
      have hgr0 := blk_cell HGr.out 0
      have hfr0 := blk_frozen HGr.out 0
      simp at hgr0
      by_cases hlt : q < bs.length
      · have ho : ok1 l' := by
          by_cases ho : ok1 l'
          · exact ho
          · exfalso
            have h1 := HDr.out
            rw [bodT_no ho] at h1
            have h2 := congrArg List.length h1
            rw [List.length_drop] at h2
            simp at h2
            omega
        have t1 : decide (q < bs.length) = true := decide_eq_true hlt
        have HO := Aside0.mk ho
        have HQ := Aside0.mk hlt
        have HC := Aside0.mk (first_ok HVr.out HByr.out HSr.out (HT.out.below ((B6.out.trans HI.out.be).trans HBr.out)) ho)
        clear ho hlt
        go_wp2_with (go_at_call 30; (with_reducible refine HC.out.mono ?_); rintro e w' ⟨hb1, A3, c3, A4, c4, rfl, hv3, hv4⟩; have HB1 := Aside0.mk hb1; have kg := (hb1.block g (blk_lt HGr.out)).trans HGr.out; have HV4 := Aside0.mk (hv4.move fun h => hb1.block gb h); have kc1 := blk_cell kg 0; have kf1 := blk_frozen kg 0; simp at kc1; have KG := Aside0.mk kg; clear hb1 hv3 hv4 kg)
        have hbs := HQ.out
        have e1 : wrap64 ((q : Int) + 1) = ((q + 1 : Nat) : Int) := by have := HMM.out; unfold wrap64; omega
        rw [e1]
        have hdr := HDr.out
        rw [bodT_ok HO.out, List.drop_eq_getElem_cons hbs] at hdr
        have her := HEr.out
        rw [bodT_ok HO.out] at her
        have hlr := rest1_lt HO.out
        refine ⟨⟨q + 1, A4, c4, rest1 l', by omega, rfl, ⟨?_⟩, ⟨HV4.out.move fun h => Below.heap_setCell w' ⟨g, 0, none⟩ _ gb HNG.out⟩, ⟨HByr.out.rest1⟩, ⟨by have := HSr.out; omega⟩, ⟨(List.cons.inj hdr).2⟩, ⟨her⟩, ⟨(HBr.out.trans (HB1.out.mono (Nat.le_trans (Nat.le_trans HG0.out HI.out.be.size) HBr.out.size))).setCell (p := ⟨g, 0, none⟩) HR.out.lo _⟩, ⟨?_⟩⟩, ?_⟩
        · have := blk_set KG.out 0 (.slice A4 (rest1 l').length c4)
          simpa using this
        · intro k hk hne
          exact (Below.heap_setCell w' ⟨g, 0, none⟩ _ k hne).trans ((HB1.out.block k (Nat.lt_of_lt_of_le hk HBr.out.size)).trans (HKr.out k hk hne))
        · simp [intOf]; omega
      · have hqe : q = bs.length := by omega
        have ho : ¬ ok1 l' := fun ho => by
          have h1 := HDr.out
          rw [bodT_ok ho, hqe, List.drop_length] at h1
          cases h1
        have hend := HEr.out
        rw [bodT_no ho] at hend
        have hend1 : l' = left := congrArg (·.1) hend
        have hend2 : err1 l' = er := congrArg (·.2) hend
        have t1 : decide (q < bs.length) = false := decide_eq_false hlt
        have HND := Aside0.mk hend
        have HC := Aside0.mk (first_no A' c' l'.length l' wr rfl HVr.out.C HVr.out.cap HByr.out HSr.out (HT.out.below ((B6.out.trans HI.out.be).trans HBr.out)) ho)
        have hbor : wr.heap[w.heap.size]? = some (.cells #[.slice Ao bs.length co] 22 (0, 0)) := (HKr.out _ H1.out.lt (by have := HGn.out; omega)).trans H1.out
        have HBO := Aside0.mk hbor
        -- what the end leaves
        have hDl : D < W.heap.size := (Array.getElem?_eq_some_iff.1 HDef.out).1
        have hfin : ∀ F : World, (∀ k, k < W.heap.size → k ≠ g → k ≠ w.heap.size → k ≠ D → F.heap[k]? = W.heap[k]?) →
            Kd.R (Kd.slice 5 (Kd.int .u8)) 27 F w.heap.size (fun k => w.heap.size ≤ k ∧ k < W.heap.size) (.slice Ao bs.length co) bs ∧ (∀ k, k < w.heap.size → k ≠ g → some k ≠ (Value.slice Av B.length cv).ownBlock → F.heap[k]? = w.heap[k]?) := fun F hF => by
          refine ⟨?_, fun k hk h1 h2 => ?_⟩
          · refine Kd.R_mono (Kd.R_lower (Kd.R_step (Kd.R_bound H2.out) fun k hk hlt => hF k hlt ?_ ?_ ?_) (Nat.le_of_lt SZ6.out)) fun k hk => ⟨Nat.le_trans (Nat.le_of_lt SZ6.out) hk.1, hk.2.2.1⟩
            · have := hk.1; have := SZ6.out; have := HGn.out; omega
            · have := hk.1; have := SZ6.out; omega
            · rintro rfl
              obtain ⟨_, _, _, _, _, cells, hc⟩ := hk
              rw [HDef.out] at hc; cases hc
          · have h3 := SZ6.out
            have h4 := HD.out
            exact (hF k (by have := HI.out.be.size; omega) h1 (by omega) (by omega)).trans ((HI.out.kp k (by omega) (by omega)).trans (K6.out k hk h1 h2))
        have HF := Aside0.mk hfin
        have HDL := Aside0.mk hDl
        clear ho hend hbor hlt hqe hfin hDl
        rw [hend2] at HC
        subst hend1
        clear hend2
        by_cases he : er = 3
        · subst he
          have t2 : ((3 : Int) != 3) = false := rfl
          have hn1 : ¬ (w.heap.size = g) := by have := HGn.out; omega
          have hn2 : ¬ (g = w.heap.size) := by have := HGn.out; omega
          go_wp2_with (first
            | (go_at_call 30; (with_reducible refine HC.out.mono ?_); rintro e w' ⟨rfl, hb1⟩; have HB1 := Aside0.mk hb1; have kg := (hb1.block g (blk_lt HGr.out)).trans HGr.out; have kbo := (hb1.block _ (blk_lt HBO.out)).trans HBO.out; have HVc := Aside0.mk (HVr.out.move fun h => hb1.block gb h); have kcg := blk_cell kg 0; simp at kcg; have KG := Aside0.mk kg; have KBO := Aside0.mk kbo; clear hb1 kg kbo)
            | (go_at_call 31; (with_reducible refine (clone_calls A' c' l'.length l' w' rfl HVc.out.C HVc.out.cap HSr.out).mono ?_); rintro e w2 ⟨v2, rfl, hr2, hb2⟩; obtain ⟨A5, c5, rfl⟩ := Kd.R_slice hr2; have HR2 := Aside0.mk hr2; have HB2 := Aside0.mk hb2; have kg := (hb2.block g (blk_lt KG.out)).trans KG.out; have kbo := (hb2.block _ (blk_lt KBO.out)).trans KBO.out; have kf1 := blk_frozen kg 0; have kcg0 := blk_cell kg 0; have kcb := blk_cell kbo 0; have kg1 := blk_set kg 0 (.slice A5 l'.length c5); have kbo2 := blk_far (p := ⟨g, 0, none⟩) kbo hn1 (.slice A5 l'.length c5); have kf3 := blk_frozen kbo2 0; have kbo3 := blk_set kbo2 0 (.slice Ao bs.length co); have kg3 := blk_far (p := ⟨w.heap.size, 0, none⟩) kg1 hn2 (.slice Ao bs.length co); simp at kcg0 kcb; have KG3 := Aside0.mk kg3; have KBO3 := Aside0.mk kbo3; clear hr2 hb2 kg kbo kg1 kbo2 kbo3 kg3))
          have hDg : D ≠ g := by have := HD.out; have := HGn.out; have := SZ6.out; omega
          have hDb : D ≠ w.heap.size := by have := HD.out; have := SZ6.out; omega
          have hb12 : Below wr.heap.size wr w2 := below_step HB1.out HB2.out
          have eD : w2.heap[D]? = some (.deferred (some [])) := (hb12.block D (Nat.lt_of_lt_of_le HDL.out HBr.out.size)).trans ((HKr.out D HDL.out hDg).trans HDef.out)
          have e1 := (Below.heap_setCell (w2.setCell ⟨g, 0, none⟩ (.slice A5 l'.length c5)) ⟨w.heap.size, 0, none⟩ (.slice Ao bs.length co) D hDb).trans ((Below.heap_setCell w2 ⟨g, 0, none⟩ (.slice A5 l'.length c5) D hDg).trans eD)
          have hbW : w0.heap.size ≤ W.heap.size := Nat.le_trans HG0.out HI.out.be.size
          have hbF : Below w0.heap.size W (((w2.setCell ⟨g, 0, none⟩ (.slice A5 l'.length c5)).setCell ⟨w.heap.size, 0, none⟩ (.slice Ao bs.length co)).putObj D (.deferred none)) :=
            Below_put (((HBr.out.trans (hb12.mono (Nat.le_trans hbW HBr.out.size))).setCell (p := ⟨g, 0, none⟩) HR.out.lo _).setCell (p := ⟨w.heap.size, 0, none⟩) HW0.out _) (Nat.le_trans HG0.out HD.out) _
          obtain ⟨F, hF⟩ : ∃ F, ((w2.setCell ⟨g, 0, none⟩ (.slice A5 l'.length c5)).setCell ⟨w.heap.size, 0, none⟩ (.slice Ao bs.length co)).putObj D (.deferred none) = F := ⟨_, rfl⟩
          have hgF : F.heap[g]? = some (.cells #[.slice A5 l'.length c5, .bool true, .bool false] 57 (0, 0)) := by rw [← hF, World.putObj_heap_other hDg.symm, KG3.out]; rfl
          have hcF : F.cell? ⟨w.heap.size, 0, none⟩ = some (.slice Ao bs.length co) := by
            refine blk_cell (t := 22) (cs := #[.slice Ao bs.length co]) ?_ 0
            rw [← hF, World.putObj_heap_other hDb.symm, KBO3.out]; rfl
          rw [hF] at hbF
          have hk2 : ∀ k, k < w2.heap.size → k ≠ g → k ≠ w.heap.size → k ≠ D → F.heap[k]? = w2.heap[k]? := fun k hk h1 h2 h3 => by
            rw [← hF, World.putObj_heap_other h3]
            exact (Below.heap_setCell _ ⟨w.heap.size, 0, none⟩ _ k h2).trans (Below.heap_setCell w2 ⟨g, 0, none⟩ _ k h1)
          have hsz12 := hb12.size
          have hkF : ∀ k, k < W.heap.size → k ≠ g → k ≠ w.heap.size → k ≠ D → F.heap[k]? = W.heap[k]? := fun k hk h1 h2 h3 =>
            (hk2 k (Nat.lt_of_lt_of_le hk (Nat.le_trans HBr.out.size hsz12)) h1 h2 h3).trans ((hb12.block k (Nat.lt_of_lt_of_le hk HBr.out.size)).trans (HKr.out k hk h1))
          obtain ⟨hT1, hK1⟩ := HF.out F hkF
          have hszW : W.heap.size ≤ w'.heap.size := Nat.le_trans HBr.out.size HB1.out.size
          have hrowF : Kd.R (Kd.int .u8) 5 F w0.heap.size (fun _ => True) (.slice A5 l'.length c5) l' := by
            refine Kd.R_mono (Kd.R_lower (Kd.R_step (Kd.R_bound HR2.out) fun k hk hlt => hk2 k hlt ?_ ?_ ?_) (Nat.le_trans hbW hszW)) fun _ _ => trivial
            · have := hk.1; have := HGn.out; have := SZ6.out; have := HI.out.be.size; omega
            · have := hk.1; have := SZ6.out; have := HI.out.be.size; omega
            · have := hk.1; have := HDL.out; omega
          have hnew : ∀ k, (Value.slice A5 l'.length c5).ownBlock = some k → w'.heap.size ≤ k := fun k hk => Kd.R_base HR2.out k hk
          refine ⟨by simp, .inl ⟨_, _, rfl, run_takeDeferred e1, ?_⟩⟩
          rw [hF]
          refine ⟨_, results_ct rfl rfl rfl hcF, _, rfl, .slice A5 l'.length c5, Kd.R_mono hT1 (fun k hk => ⟨hk.1, fun e => ?_⟩), ⟨hgF, hrowF, HR.out.lo⟩, (fun k hk => ?_), (B6.out.trans HI.out.be).trans hbF, hK1⟩
          · have := hnew k e.symm; have := hk.2; omega
          · have := hnew k hk; have := SZ6.out; have := HI.out.be.size; omega
        · have t2 : (er != 3) = true := by simpa using he
          have hn1 : ¬ (w.heap.size = g) := by have := HGn.out; omega
          have hn2 : ¬ (g = w.heap.size) := by have := HGn.out; omega
          go_wp2_with (go_at_call 30; (with_reducible refine HC.out.mono ?_); rintro e w' ⟨rfl, hb1⟩; have HB1 := Aside0.mk hb1; have kg := (hb1.block g (blk_lt HGr.out)).trans HGr.out; have kbo := (hb1.block _ (blk_lt HBO.out)).trans HBO.out; have kf1 := blk_frozen kg 0; have kg1 := blk_set kg 0 (.slice none 0 0); have kf2 := blk_frozen kg1 2; have kg2 := blk_set kg1 2 (.bool true); have kbo2 := blk_far (p := ⟨g, 2, none⟩) (blk_far (p := ⟨g, 0, none⟩) kbo (by have := HGn.out; show w.heap.size ≠ g; omega) (.slice none 0 0)) (by have := HGn.out; show w.heap.size ≠ g; omega) (.bool true); have kc3 := blk_cell kbo2 0; have kf3 := blk_frozen kbo2 0; have kbo3 := blk_set kbo2 0 (.slice Ao bs.length co); have kg3 := blk_far (p := ⟨w.heap.size, 0, none⟩) kg2 (by have := HGn.out; show g ≠ w.heap.size; omega) (.slice Ao bs.length co); simp at kc3; have kcw := blk_cell kbo 0; have kcg := blk_cell kg 0; have kcg2 := blk_cell kg 2; simp at kcw kcg kcg2; have KG3 := Aside0.mk kg3; have KBO3 := Aside0.mk kbo3; clear hb1 kg kbo kg1 kg2 kbo2 kbo3 kg3)
          have hDg : D ≠ g := by have := HD.out; have := HGn.out; have := SZ6.out; omega
          have hDb : D ≠ w.heap.size := by have := HD.out; have := SZ6.out; omega
          have eD : w'.heap[D]? = some (.deferred (some [])) := (HB1.out.block D (Nat.lt_of_lt_of_le HDL.out HBr.out.size)).trans ((HKr.out D HDL.out hDg).trans HDef.out)
          have e1 := (Below.heap_setCell ((w'.setCell ⟨g, 0, none⟩ (.slice none 0 0)).setCell ⟨g, 2, none⟩ (.bool true)) ⟨w.heap.size, 0, none⟩ (.slice Ao bs.length co) D hDb).trans ((Below.heap_setCell (w'.setCell ⟨g, 0, none⟩ (.slice none 0 0)) ⟨g, 2, none⟩ (.bool true) D hDg).trans ((Below.heap_setCell w' ⟨g, 0, none⟩ (.slice none 0 0) D hDg).trans eD))
          have hbW : w0.heap.size ≤ W.heap.size := Nat.le_trans HG0.out HI.out.be.size
          have hbF : Below w0.heap.size W ((((w'.setCell ⟨g, 0, none⟩ (.slice none 0 0)).setCell ⟨g, 2, none⟩ (.bool true)).setCell ⟨w.heap.size, 0, none⟩ (.slice Ao bs.length co)).putObj D (.deferred none)) :=
            Below_put ((((HBr.out.trans (HB1.out.mono (Nat.le_trans hbW HBr.out.size))).setCell (p := ⟨g, 0, none⟩) HR.out.lo _).setCell (p := ⟨g, 2, none⟩) HR.out.lo _).setCell (p := ⟨w.heap.size, 0, none⟩) HW0.out _) (Nat.le_trans HG0.out HD.out) _
          obtain ⟨F, hF⟩ : ∃ F, (((w'.setCell ⟨g, 0, none⟩ (.slice none 0 0)).setCell ⟨g, 2, none⟩ (.bool true)).setCell ⟨w.heap.size, 0, none⟩ (.slice Ao bs.length co)).putObj D (.deferred none) = F := ⟨_, rfl⟩
          have hgF : F.heap[g]? = some (.cells #[.slice none 0 0, .bool true, .bool true] 57 (0, 0)) := by rw [← hF, World.putObj_heap_other hDg.symm, KG3.out]; rfl
          have hcF : F.cell? ⟨w.heap.size, 0, none⟩ = some (.slice Ao bs.length co) := by
            refine blk_cell (t := 22) (cs := #[.slice Ao bs.length co]) ?_ 0
            rw [← hF, World.putObj_heap_other hDb.symm, KBO3.out]; rfl
          rw [hF] at hbF
          have hkF : ∀ k, k < W.heap.size → k ≠ g → k ≠ w.heap.size → k ≠ D → F.heap[k]? = W.heap[k]? := fun k hk h1 h2 h3 => by
            rw [← hF, World.putObj_heap_other h3]
            exact (Below.heap_setCell _ ⟨w.heap.size, 0, none⟩ _ k h2).trans ((Below.heap_setCell _ ⟨g, 2, none⟩ _ k h1).trans ((Below.heap_setCell w' ⟨g, 0, none⟩ _ k h1).trans ((HB1.out.block k (Nat.lt_of_lt_of_le hk HBr.out.size)).trans (HKr.out k hk h1))))
          obtain ⟨hT1, hK1⟩ := HF.out F hkF
          refine ⟨by simp, .inl ⟨_, _, rfl, run_takeDeferred e1, ?_⟩⟩
          rw [hF]
          exact ⟨_, results_ct rfl rfl rfl hcF, _, rfl, .slice none 0 0, Kd.R_mono hT1 (fun k hk => ⟨hk.1, fun e => by cases e⟩), ⟨hgF, Kd.R_nil _ _ _ _ _, HR.out.lo⟩, (fun k hk => by cases hk), (B6.out.trans HI.out.be).trans hbF, hK1⟩
end Go.Proofs.YthkmacgjekienaaDoor.P
