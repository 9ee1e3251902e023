/- Reader.Write. -/
import Derived.Test.YthkmacgjekienaaDoorFA
namespace Go.Proofs.YthkmacgjekienaaDoor.P
attribute [-simp] List.length_drop List.length_take ByteArray.size_append
open Go.RowKit Go.Shelf Go.Proofs.YthkmacgjekienaaDoor.Pure Go.Proofs.YthkmacgjekienaaDoorW.PrintWords Go.Proofs.YthkmacgjekienaaDoorW.PrintLast Go.Proofs.YthkmacgjekienaaDoorW.PrintMore
set_option linter.unusedVariables false
set_option linter.unusedSimpArgs false
attribute [local go_sem] Oper.semAt_some
theorem info22 : (Tryd.prog.info? 27).map (fun i => (i.zero, i.size, i.bytes)) = some (some (.slice none 0 0), 1, 24) := by kernel_rfl
theorem Below_put {B : Nat} {a w : World} (h : Below B a w) {D : Nat} (hD : B ≤ D) (o : Obj) : Below B a (w.putObj D o) :=
  ⟨h.os, h.tape, h.output, by simpa [World.putObj] using h.size, fun k hk => (World.putObj_heap_other (by omega)).trans (h.block k hk)⟩
/-- the append of what comes -/
theorem wr_row {w0 w w1 : World} {g : Nat} {v v1 : Value} {B X : List Int} (hR : Rd w0.heap.size w g v B false) (r1 : Kd.R (Kd.int .u8) 5 w1 w0.heap.size (fun _ => True) v1 X) (r2 : w.grownBy w1 v.ownBlock) : Rd w0.heap.size (w1.setCell ⟨g, 0, none⟩ v1) g v1 X false := by
  have hb : w1.heap[g]? = some (.cells #[v, .bool true, .bool false] 57 (0, 0)) := blk_grown hR.blk r2 (Kd.R_ne hR.row hR.blk (by decide))
  refine ⟨?_, Kd.R_set r1 hb (fun q hq => by simp [Kd.int, Kd.scalar] at hq; subst hq; decide) 0 v1, hR.lo⟩
  have := blk_set hb 0 v1
  simpa using this
theorem results_ct {fn : Func} {p q : Tmp} {w : World} {tmps : Array Value} {g : Nat} {A : Option Addr} {n c : Nat} {u : Value} (h : fn.results = #[.cell p 22, .tmp q]) (hp : tmps.getD p undef = .pointer (some ⟨g, 0, none⟩)) (hq : tmps.getD q undef = u) (hc : w.cell? ⟨g, 0, none⟩ = some (.slice A n c)) : (results fn tmps).run Tryd.prog w = .ok (.tuple #[.slice A n c, u]) w := by
  have hagg : (isAgg 22).run Tryd.prog w = .ok false w := by
    unfold isAgg
    rw [Sem.run_bind, run_underlying Tryd.underlying22 w]
    rfl
  unfold results
  rw [show fn.results = [ResultVar.cell p 22, ResultVar.tmp q].toArray from h, List.mapM_toArray]
  have hp' : tmps[p]?.getD undef = .pointer (some ⟨g, 0, none⟩) := by simpa using hp
  have hq' : tmps[q]?.getD undef = u := by simpa using hq
  simp [Sem.run_bind, hp', hq', asAddr, loadVar, hagg, hc]
set_option maxRecDepth 100000 in
set_option maxHeartbeats 4000000 in
theorem write_walk {w0 w : World} {g : Nat} {v : Value} {B : List Int} (hR : Rd w0.heap.size w g v B false) (A : Option Addr) (n c : Nat) (l : List Int) (hn : l.length = n) (hl : Kd.C (Kd.int .u8) w A n l) (hc : n ≤ c) (hT : TAB w0) (hB : Below w0.heap.size w0 w)
    (hby : Byt (B ++ l)) (hsz : (B ++ l).length ≤ 140737488353792) (bs : List (List Int)) (left : List Int) (er : Int) (hbod : bodT (B ++ l) = (bs, left, er)) (hcnt : bs.length ≤ 5000000000000) :
    Calls Tryd.prog 14 #[.pointer (some ⟨g, 0, none⟩), .slice A n c] w fun e w' => ∃ vo v', e = .returned (.tuple #[vo, .int .i64 (if er = 3 then 0 else er)]) ∧
      Kd.R (Kd.slice 5 (Kd.int .u8)) 27 w' w.heap.size (fun k => w.heap.size ≤ k ∧ some k ≠ v'.ownBlock) vo bs ∧
      Rd w0.heap.size w' g v' (if er = 3 then left else []) (decide (er ≠ 3)) ∧ (∀ k, v'.ownBlock = some k → w.heap.size ≤ k) ∧ Below w0.heap.size w0 w' ∧ (∀ k, k < w.heap.size → k ≠ g → some k ≠ v.ownBlock → w'.heap[k]? = w.heap[k]?) := by
  obtain ⟨X, hX⟩ : ∃ X, B ++ l = X := ⟨_, rfl⟩
  have HSa := Aside0.mk (show B.length + n ≤ 140737488353792 by rw [List.length_append] at hsz; omega)
  rw [hX] at hby hsz hbod
  have HX := Aside0.mk hX
  have HBOD := Aside0.mk hbod
  clear hX hbod
  have HR := Aside0.mk hR
  have HL := Aside0.mk hl
  have HT := Aside0.mk hT
  have HB := Aside0.mk hB
  have HBy := Aside0.mk hby
  have HSZ := Aside0.mk hsz
  have HCN := Aside0.mk hcnt
  have hgl := hR.lt
  obtain ⟨Av, cv, rfl⟩ := Kd.R_slice hR.row
  have hAl := Kd.C_alloc hl (.cells #[.slice none 0 0] 22)
  have HRa := Aside0.mk (hR.below (below_alloc (Below.refl _ w) (.cells #[.slice none 0 0] 22)))
  have h1 := HRa.out.c1
  have h2 := HRa.out.c2
  have h0 := HRa.out.c0
  have HLa := Aside0.mk hAl
  have HGn := Aside0.mk hgl
  clear hR hl hT hB hby hsz hcnt hAl hgl
  refine (callsIn_wide (n := 4)).1 ?_
  refine callsIn_of_wp_marks Tryd.func14 rfl trivial ?_ rfl
  refine wpIn_wide.2 ?_
  simp only [Tryd.ntmps14, List.size_toArray, List.length_cons, List.length_nil, Nat.reduceAdd, Nat.reduceSub, Array.replicate_succ, Array.replicate_zero, List.push_toArray, List.append_toArray, List.nil_append, List.cons_append]
  go_wp2_with (first
    | (go_at_call 29; (with_reducible refine (none_calls HRa.out.c1).mono ?_); rintro e w' ⟨rfl, rfl⟩)
    | (at_builtin; refine Kd.R_append_row (Value.int .u8) 0 (w0 := w0) w0.heap.size rfl _ _ 27 5 (.int .u8 0) 1 rfl Tryd.underlying27 info5 rfl (by decide) _ _ l _ _ _ (fun _ => True) rfl rfl (fun _ _ => trivial) HRa.out.row HLa.out (below_alloc HB.out _) (by have := HB.out.size; simp; omega) (by have := HSa.out; omega) ?_; intro v1 w1 ho1 hb1 hg1 ha1; rw [HX.out] at ho1; obtain ⟨A1, c1, rfl⟩ := Kd.R_slice ho1; have HO1 := Aside0.mk ho1; have HB1 := Aside0.mk hb1; have HG1 := Aside0.mk hg1; have HA1 := Aside0.mk ha1; have kb := blk_grown HRa.out.blk hg1 (Kd.R_ne HRa.out.row HRa.out.blk (by decide)); have kc0 := blk_cell kb 0; have kf0 := blk_frozen kb 0; simp at kc0; clear ho1 hb1 hg1 ha1 kb))
  have hbo1 : Boxed w1 w.heap.size 22 (.slice none 0 0) := blk_grown (Boxed.new w 22 (.slice none 0 0)) HG1.out (Kd.R_ne HRa.out.row (Boxed.new w 22 (.slice none 0 0)) (by decide))
  have R5 := Aside0.mk (wr_row HRa.out HO1.out HG1.out)
  have hbo5 := hbo1.other (B' := g) (by have := HGn.out; omega) (Value.slice A1 X.length c1)
  have hk5 : ∀ k, k < w.heap.size → k ≠ g → some k ≠ (Value.slice Av B.length cv).ownBlock → (w1.setCell ⟨g, 0, none⟩ (Value.slice A1 X.length c1)).heap[k]? = w.heap[k]? := fun k hk h1 h2 =>
    (Below.heap_setCell w1 ⟨g, 0, none⟩ _ k h1).trans ((HG1.out.block k (by simp; omega) h2).trans (Below.heap_alloc _ _ _ (by omega)))
  have hb5 : Below w0.heap.size w0 (w1.setCell ⟨g, 0, none⟩ (Value.slice A1 X.length c1)) := HB1.out.setCell (p := ⟨g, 0, none⟩) HR.out.lo _
  have K5 := Aside0.mk hk5
  have B5 := Aside0.mk hb5
  have BO5 := Aside0.mk hbo5
  have hfv : ∀ k, (Value.slice A1 X.length c1).ownBlock = some k → (Value.slice Av B.length cv).ownBlock = some k ∨ w.heap.size ≤ k := fun k hk => by
    rcases HA1.out with e | ⟨b, e, hb⟩
    · exact .inl (e ▸ hk)
    · rw [e] at hk; cases hk; exact .inr (by simp at hb; omega)
  clear hbo1 hbo5 hk5 hb5 HO1 HG1 HB1 HA1 HRa HLa h0 h1 h2 kc0 kf0 HL
  have hsz5 : w.heap.size < (w1.setCell ⟨g, 0, none⟩ (Value.slice A1 X.length c1)).heap.size := BO5.out.lt
  have SZ5 := Aside0.mk hsz5
  clear hsz5
  generalize w1.setCell ⟨g, 0, none⟩ (Value.slice A1 X.length c1) = w5 at R5 K5 B5 BO5 SZ5 ⊢
  refine (all_calls A1 X.length c1 w5).mono ?_
  rintro e w6 ⟨rfl, rfl⟩
  have R6 := Aside0.mk (R5.out.below (below_alloc (Below.refl _ w5) (.cells #[.slice A1 X.length c1] 27)))
  have BO6 := Aside0.mk (BO5.out.alloc (.cells #[.slice A1 X.length c1] 27))
  have BX6 := Aside0.mk (Boxed.new w5 27 (.slice A1 X.length c1)).cell
  have B6 := Aside0.mk (below_alloc B5.out (.cells #[.slice A1 X.length c1] 27))
  have K6 := Aside0.mk (fun k (hk : k < w.heap.size) h1 h2 => (Below.heap_alloc w5 (.cells #[.slice A1 X.length c1] 27) k (Nat.lt_trans hk SZ5.out)).trans (K5.out k hk h1 h2))
  have SZ6 := Aside0.mk (show w.heap.size < (w5.alloc (.cells #[.slice A1 X.length c1] 27)).heap.size from BO6.out.lt)
  have HBX := SZ5
  clear R5 K5 B5 BO5 SZ5
  generalize w5.heap.size = bx at BX6 HBX ⊢
  generalize w5.alloc (.cells #[.slice A1 X.length c1] 27) = w6 at R6 BO6 BX6 B6 K6 SZ6 ⊢
  obtain ⟨gb, hgb, hview, hng, hne⟩ := R6.out.view bx w.heap.size (World.block_lt_of_cell? _ _ BX6.out) (by have := HGn.out; have := HBX.out; omega) (by have := HBX.out; omega) BO6.out (by decide)
  have HV6 := Aside0.mk hview
  have HGB := Aside0.mk hgb
  have HNE := Aside0.mk hne
  have HNG := Aside0.mk hng
  have hgb0 : w0.heap.size ≤ w6.heap.size := B6.out.size
  have HG0 := Aside0.mk hgb0
  have HW0 := Aside0.mk (show w0.heap.size ≤ w.heap.size from HB.out.size)
  clear hview hgb hne hng hgb0
  go_wp2
  refine (wpIn_wide (n := 4)).1 ?_
  refine rangeX rfl (by decide) (gf := 34) (lb := #[.pointer (some ⟨bx, 0, none⟩)]) rfl trivial (enters_of Tryd.func34 (by kernel_rfl) rfl) (all1_seq HV6.out HGB.out HBy.out HSZ.out HT.out B6.out bx BX6.out) (fun m pre x => Hx_own m pre x) Kpp.trans (fun W l o o' => Kpp_book HG0.out HGB.out W l o o') (fun _ => rfl)
    (fun m pre W => CI w0 w6 w.heap.size pre W) (fun _ _ _ => False) (fun m => CI.own SZ6.out HG0.out) (fun c s W W' row hs hg hr => hs) (CI.start BO6.out) ?a1 ?assign ?body ?done ?stop
  case assign =>
    intro l x W K hK
    gi_wp2
    exact hK
  case body =>
    rintro l pre ⟨xv, xb⟩ m W hI hx
    obtain ⟨vo, h1, h2⟩ := hI.box
    obtain ⟨Ax, cx, rfl⟩ := Kd.R_slice (show Kd.R (Kd.int .u8) 5 W w6.heap.size (fun k => m ≤ k) xv xb from hx.1)
    have hlen : (pre.map (·.2)).length < 5000000000000 := by
      have h3 : pre.length < bs.length := by have := (List.getElem?_eq_some_iff.1 hx.2.1).1; rw [HBOD.out] at this; exact this
      have h4 := HCN.out
      rw [List.length_map]; omega
    obtain ⟨bp, hbs⟩ : ∃ bp, pre.map (·.2) = bp := ⟨_, rfl⟩
    rw [hbs] at h2 hlen
    obtain ⟨Ao, co, rfl⟩ := Kd.R_slice h2
    have HBS := Aside0.mk hbs
    clear hbs
    have hco := h1.cell
    have H1 := Aside0.mk h1
    have H2 := Aside0.mk h2
    have HI := Aside0.mk hI
    have HXX := Aside0.mk (Kd.R_types hx.1 h1 (fun q hq => by simp [Kd.int, Kd.scalar] at hq; subst hq; decide))
    have HLN := Aside0.mk hlen
    have hap : ∀ k, w6.heap.size ≤ k ∧ (∃ q, q = 5 ∧ ∃ cells, W.heap[k]? = some (.cells cells q (0, 0))) → w6.heap.size ≤ k ∧ some k ≠ (Value.slice Ao bp.length co).ownBlock := fun k ⟨hk, q, hq, cells, hc⟩ => ⟨hk, fun e => by
      obtain ⟨cells2, hc2⟩ := Kd.R_typed h2 k e.symm
      rw [hc2] at hc; cases hc; cases hq⟩
    have HAP := Aside0.mk hap
    have hxm : (Kd.slice 5 (Kd.int .u8)).M W w6.heap.size (fun k => w6.heap.size ≤ k ∧ (∃ q, q = 5 ∧ ∃ cells, W.heap[k]? = some (.cells cells q (0, 0)))) xb [.slice Ax xb.length cx] := ⟨_, rfl, Kd.R_mono (Kd.R_bound hx.1) fun k hk => by
      obtain ⟨_, h3, _, q, hq, cells, hc⟩ := hk
      exact ⟨h3, q, by simpa [Kd.int, Kd.scalar] using hq, cells, hc⟩⟩
    have HXM := Aside0.mk hxm
    clear hI hx h1 h2 hlen hap hxm
    dsimp only
    gi_wp2_with (gi_at_builtin; refine in_append (Kd.slice 5 (Kd.int .u8)) w6.heap.size rfl (.tmp 30) (.tmp 32) 22 27 (.slice none 0 0) 24 rfl Tryd.underlying22 info27 rfl (by decide) (by decide) (.slice Ao bp.length co) bp xb [.slice Ax xb.length cx] (fun k => w6.heap.size ≤ k) (fun k => w6.heap.size ≤ k ∧ (∃ q, q = 5 ∧ ∃ cells, W.heap[k]? = some (.cells cells q (0, 0)))) rfl rfl HXM.out HAP.out (fun k hk => Nat.le_trans HI.out.be.size hk) H2.out HI.out.be.size (by have := HLN.out; omega) ?_; intro v1 wa r1 r2 r3; obtain ⟨A1, c1, e1⟩ := Kd.R_slice r1; rw [List.length_append, List.length_singleton] at e1; subst e1; have R1 := Aside0.mk r1; have R2 := Aside0.mk r2; have kb := H1.out.kept r2 (fun e_ => by have := Kd.R_base H2.out _ e_.symm; have := SZ6.out; omega); have kc := kb.cell; have kf := kb.frozen; clear r1 r2 r3 kb)
    exact CI.step HI.out SZ6.out HW0.out HGB.out HNE.out H1.out (by rw [HBS.out]; exact H2.out) (by rw [HBS.out]; exact R1.out) R2.out
  case stop => intro D c pre W _ _ h; exact h.elim
  case done =>
    intro D xs m W hD hxs hI hDef
    obtain ⟨vo, h1, h2⟩ := hI.box
    rw [hxs, HBOD.out] at h2
    have hbs : (bodT X).1 = bs := by rw [HBOD.out]
    obtain ⟨Ao, co, rfl⟩ := Kd.R_slice h2
    have hco := h1.cell
    have hg6 : g < w6.heap.size := Nat.lt_trans HGn.out SZ6.out
    have hg7 : W.heap[g]? = some (.cells #[.slice A1 X.length c1, .bool true, .bool false] 57 (0, 0)) := (hI.kp g hg6 (Nat.ne_of_lt HGn.out)).trans R6.out.blk
    have hv7 := HV6.out.move (W' := W) fun h => hI.kp gb h HNE.out
    have H1 := Aside0.mk h1
    have H2 := Aside0.mk h2
    have HI := Aside0.mk hI
    have HD := Aside0.mk hD
    have HDef := Aside0.mk hDef
    have HG7 := Aside0.mk hg7
    have HV7 := Aside0.mk hv7
    have HBS := Aside0.mk hbs
    have hm : bs.length ≤ 5000000000000 := HCN.out
    have HMM := Aside0.mk hm
    clear h1 h2 hI hD hDef hg7 hv7 hbs hm hg6 hxs
    go_wp2
    go_loopw [36] (fun i wr => ∃ (q : Nat) (A' : Option Addr) (c' : Nat) (l' : List Int), q ≤ bs.length ∧ i = .int .i64 q ∧ Aside0 (wr.heap[g]? = some (.cells #[.slice A' l'.length c', .bool true, .bool false] 57 (0, 0))) ∧ Aside0 (Vw gb wr A' l'.length c' l') ∧ Aside0 (Byt l') ∧ Aside0 (l'.length ≤ 140737488353792) ∧ Aside0 ((bodT l').1 = bs.drop q) ∧ Aside0 ((bodT l').2 = (left, er)) ∧ Aside0 (Below w0.heap.size W wr) ∧ Aside0 (∀ k, k < W.heap.size → k ≠ g → wr.heap[k]? = W.heap[k]?)) (fun i _ => bs.length - (intOf i).toNat)
    case atStart => exact ⟨0, A1, c1, X, Nat.zero_le _, rfl, HG7, HV7, HBy, HSZ, ⟨HBS.out⟩, ⟨by rw [HBOD.out]⟩, ⟨Below.refl _ _⟩, ⟨fun _ _ _ => rfl⟩⟩
    case round =>
      obtain ⟨q, A', c', l', hq, rfl, HGr, HVr, HByr, HSr, HDr, HEr, HBr, HKr⟩ := hrel
      have hgr0 := blk_cell HGr.out 0
      have hfr0 := blk_frozen HGr.out 0
      simp at hgr0
      by_cases hlt : q < bs.length
      · have ho : ok1 l' := by
          by_cases ho : ok1 l'
          · exact ho
          · exfalso
            have h1 := HDr.out
            rw [bodT_no ho] at h1
            have h2 := congrArg List.length h1
            rw [List.length_drop] at h2
            simp at h2
            omega
        have t1 : decide (q < bs.length) = true := decide_eq_true hlt
        have HO := Aside0.mk ho
        have HQ := Aside0.mk hlt
        have HC := Aside0.mk (first_ok HVr.out HByr.out HSr.out (HT.out.below ((B6.out.trans HI.out.be).trans HBr.out)) ho)
        clear ho hlt
        go_wp2_with (go_at_call 30; (with_reducible refine HC.out.mono ?_); rintro e w' ⟨hb1, A3, c3, A4, c4, rfl, hv3, hv4⟩; have HB1 := Aside0.mk hb1; have kg := (hb1.block g (blk_lt HGr.out)).trans HGr.out; have HV4 := Aside0.mk (hv4.move fun h => hb1.block gb h); have kc1 := blk_cell kg 0; have kf1 := blk_frozen kg 0; simp at kc1; have KG := Aside0.mk kg; clear hb1 hv3 hv4 kg)
        have hbs := HQ.out
        have e1 : wrap64 ((q : Int) + 1) = ((q + 1 : Nat) : Int) := by have := HMM.out; unfold wrap64; omega
        rw [e1]
        have hdr := HDr.out
        rw [bodT_ok HO.out, List.drop_eq_getElem_cons hbs] at hdr
        have her := HEr.out
        rw [bodT_ok HO.out] at her
        have hlr := rest1_lt HO.out
        refine ⟨⟨q + 1, A4, c4, rest1 l', by omega, rfl, ⟨?_⟩, ⟨HV4.out.move fun h => Below.heap_setCell w' ⟨g, 0, none⟩ _ gb HNG.out⟩, ⟨HByr.out.rest1⟩, ⟨by have := HSr.out; omega⟩, ⟨(List.cons.inj hdr).2⟩, ⟨her⟩, ⟨(HBr.out.trans (HB1.out.mono (Nat.le_trans (Nat.le_trans HG0.out HI.out.be.size) HBr.out.size))).setCell (p := ⟨g, 0, none⟩) HR.out.lo _⟩, ⟨?_⟩⟩, ?_⟩
        · have := blk_set KG.out 0 (.slice A4 (rest1 l').length c4)
          simpa using this
        · intro k hk hne
          exact (Below.heap_setCell w' ⟨g, 0, none⟩ _ k hne).trans ((HB1.out.block k (Nat.lt_of_lt_of_le hk HBr.out.size)).trans (HKr.out k hk hne))
        · simp [intOf]; omega
      · have hqe : q = bs.length := by omega
        have ho : ¬ ok1 l' := fun ho => by
          have h1 := HDr.out
          rw [bodT_ok ho, hqe, List.drop_length] at h1
          cases h1
        have hend := HEr.out
        rw [bodT_no ho] at hend
        have hend1 : l' = left := congrArg (·.1) hend
        have hend2 : err1 l' = er := congrArg (·.2) hend
        have t1 : decide (q < bs.length) = false := decide_eq_false hlt
        have HND := Aside0.mk hend
        have HC := Aside0.mk (first_no A' c' l'.length l' wr rfl HVr.out.C HVr.out.cap HByr.out HSr.out (HT.out.below ((B6.out.trans HI.out.be).trans HBr.out)) ho)
        have hbor : wr.heap[w.heap.size]? = some (.cells #[.slice Ao bs.length co] 22 (0, 0)) := (HKr.out _ H1.out.lt (by have := HGn.out; omega)).trans H1.out
        have HBO := Aside0.mk hbor
        -- what the end leaves
        have hDl : D < W.heap.size := (Array.getElem?_eq_some_iff.1 HDef.out).1
        have hfin : ∀ F : World, (∀ k, k < W.heap.size → k ≠ g → k ≠ w.heap.size → k ≠ D → F.heap[k]? = W.heap[k]?) →
            Kd.R (Kd.slice 5 (Kd.int .u8)) 27 F w.heap.size (fun k => w.heap.size ≤ k ∧ k < W.heap.size) (.slice Ao bs.length co) bs ∧ (∀ k, k < w.heap.size → k ≠ g → some k ≠ (Value.slice Av B.length cv).ownBlock → F.heap[k]? = w.heap[k]?) := fun F hF => by
          refine ⟨?_, fun k hk h1 h2 => ?_⟩
          · refine Kd.R_mono (Kd.R_lower (Kd.R_step (Kd.R_bound H2.out) fun k hk hlt => hF k hlt ?_ ?_ ?_) (Nat.le_of_lt SZ6.out)) fun k hk => ⟨Nat.le_trans (Nat.le_of_lt SZ6.out) hk.1, hk.2.2.1⟩
            · have := hk.1; have := SZ6.out; have := HGn.out; omega
            · have := hk.1; have := SZ6.out; omega
            · rintro rfl
              obtain ⟨_, _, _, _, _, cells, hc⟩ := hk
              rw [HDef.out] at hc; cases hc
          · have h3 := SZ6.out
            have h4 := HD.out
            exact (hF k (by have := HI.out.be.size; omega) h1 (by omega) (by omega)).trans ((HI.out.kp k (by omega) (by omega)).trans (K6.out k hk h1 h2))
        have HF := Aside0.mk hfin
        have HDL := Aside0.mk hDl
        clear ho hend hbor hlt hqe hfin hDl
        rw [hend2] at HC
        subst hend1
        clear hend2
        by_cases he : er = 3
        · subst he
          have t2 : ((3 : Int) != 3) = false := rfl
          have hn1 : ¬ (w.heap.size = g) := by have := HGn.out; omega
          have hn2 : ¬ (g = w.heap.size) := by have := HGn.out; omega
          go_wp2_with (first
            | (go_at_call 30; (with_reducible refine HC.out.mono ?_); rintro e w' ⟨rfl, hb1⟩; have HB1 := Aside0.mk hb1; have kg := (hb1.block g (blk_lt HGr.out)).trans HGr.out; have kbo := (hb1.block _ (blk_lt HBO.out)).trans HBO.out; have HVc := Aside0.mk (HVr.out.move fun h => hb1.block gb h); have kcg := blk_cell kg 0; simp at kcg; have KG := Aside0.mk kg; have KBO := Aside0.mk kbo; clear hb1 kg kbo)
            | (go_at_call 31; (with_reducible refine (clone_calls A' c' l'.length l' w' rfl HVc.out.C HVc.out.cap HSr.out).mono ?_); rintro e w2 ⟨v2, rfl, hr2, hb2⟩; obtain ⟨A5, c5, rfl⟩ := Kd.R_slice hr2; have HR2 := Aside0.mk hr2; have HB2 := Aside0.mk hb2; have kg := (hb2.block g (blk_lt KG.out)).trans KG.out; have kbo := (hb2.block _ (blk_lt KBO.out)).trans KBO.out; have kf1 := blk_frozen kg 0; have kcg0 := blk_cell kg 0; have kcb := blk_cell kbo 0; have kg1 := blk_set kg 0 (.slice A5 l'.length c5); have kbo2 := blk_far (p := ⟨g, 0, none⟩) kbo hn1 (.slice A5 l'.length c5); have kf3 := blk_frozen kbo2 0; have kbo3 := blk_set kbo2 0 (.slice Ao bs.length co); have kg3 := blk_far (p := ⟨w.heap.size, 0, none⟩) kg1 hn2 (.slice Ao bs.length co); simp at kcg0 kcb; have KG3 := Aside0.mk kg3; have KBO3 := Aside0.mk kbo3; clear hr2 hb2 kg kbo kg1 kbo2 kbo3 kg3))
          have hDg : D ≠ g := by have := HD.out; have := HGn.out; have := SZ6.out; omega
          have hDb : D ≠ w.heap.size := by have := HD.out; have := SZ6.out; omega
          have hb12 : Below wr.heap.size wr w2 := below_step HB1.out HB2.out
          have eD : w2.heap[D]? = some (.deferred (some [])) := (hb12.block D (Nat.lt_of_lt_of_le HDL.out HBr.out.size)).trans ((HKr.out D HDL.out hDg).trans HDef.out)
          have e1 := (Below.heap_setCell (w2.setCell ⟨g, 0, none⟩ (.slice A5 l'.length c5)) ⟨w.heap.size, 0, none⟩ (.slice Ao bs.length co) D hDb).trans ((Below.heap_setCell w2 ⟨g, 0, none⟩ (.slice A5 l'.length c5) D hDg).trans eD)
          have hbW : w0.heap.size ≤ W.heap.size := Nat.le_trans HG0.out HI.out.be.size
          have hbF : Below w0.heap.size W (((w2.setCell ⟨g, 0, none⟩ (.slice A5 l'.length c5)).setCell ⟨w.heap.size, 0, none⟩ (.slice Ao bs.length co)).putObj D (.deferred none)) :=
            Below_put (((HBr.out.trans (hb12.mono (Nat.le_trans hbW HBr.out.size))).setCell (p := ⟨g, 0, none⟩) HR.out.lo _).setCell (p := ⟨w.heap.size, 0, none⟩) HW0.out _) (Nat.le_trans HG0.out HD.out) _
          obtain ⟨F, hF⟩ : ∃ F, ((w2.setCell ⟨g, 0, none⟩ (.slice A5 l'.length c5)).setCell ⟨w.heap.size, 0, none⟩ (.slice Ao bs.length co)).putObj D (.deferred none) = F := ⟨_, rfl⟩
          have hgF : F.heap[g]? = some (.cells #[.slice A5 l'.length c5, .bool true, .bool false] 57 (0, 0)) := by rw [← hF, World.putObj_heap_other hDg.symm, KG3.out]; rfl
          have hcF : F.cell? ⟨w.heap.size, 0, none⟩ = some (.slice Ao bs.length co) := by
            refine blk_cell (t := 22) (cs := #[.slice Ao bs.length co]) ?_ 0
            rw [← hF, World.putObj_heap_other hDb.symm, KBO3.out]; rfl
          rw [hF] at hbF
          have hk2 : ∀ k, k < w2.heap.size → k ≠ g → k ≠ w.heap.size → k ≠ D → F.heap[k]? = w2.heap[k]? := fun k hk h1 h2 h3 => by
            rw [← hF, World.putObj_heap_other h3]
            exact (Below.heap_setCell _ ⟨w.heap.size, 0, none⟩ _ k h2).trans (Below.heap_setCell w2 ⟨g, 0, none⟩ _ k h1)
          have hsz12 := hb12.size
          have hkF : ∀ k, k < W.heap.size → k ≠ g → k ≠ w.heap.size → k ≠ D → F.heap[k]? = W.heap[k]? := fun k hk h1 h2 h3 =>
            (hk2 k (Nat.lt_of_lt_of_le hk (Nat.le_trans HBr.out.size hsz12)) h1 h2 h3).trans ((hb12.block k (Nat.lt_of_lt_of_le hk HBr.out.size)).trans (HKr.out k hk h1))
          obtain ⟨hT1, hK1⟩ := HF.out F hkF
          have hszW : W.heap.size ≤ w'.heap.size := Nat.le_trans HBr.out.size HB1.out.size
          have hrowF : Kd.R (Kd.int .u8) 5 F w0.heap.size (fun _ => True) (.slice A5 l'.length c5) l' := by
            refine Kd.R_mono (Kd.R_lower (Kd.R_step (Kd.R_bound HR2.out) fun k hk hlt => hk2 k hlt ?_ ?_ ?_) (Nat.le_trans hbW hszW)) fun _ _ => trivial
            · have := hk.1; have := HGn.out; have := SZ6.out; have := HI.out.be.size; omega
            · have := hk.1; have := SZ6.out; have := HI.out.be.size; omega
            · have := hk.1; have := HDL.out; omega
          have hnew : ∀ k, (Value.slice A5 l'.length c5).ownBlock = some k → w'.heap.size ≤ k := fun k hk => Kd.R_base HR2.out k hk
          refine ⟨by simp, .inl ⟨_, _, rfl, run_takeDeferred e1, ?_⟩⟩
          rw [hF]
          refine ⟨_, results_ct rfl rfl rfl hcF, _, rfl, .slice A5 l'.length c5, Kd.R_mono hT1 (fun k hk => ⟨hk.1, fun e => ?_⟩), ⟨hgF, hrowF, HR.out.lo⟩, (fun k hk => ?_), (B6.out.trans HI.out.be).trans hbF, hK1⟩
          · have := hnew k e.symm; have := hk.2; omega
          · have := hnew k hk; have := SZ6.out; have := HI.out.be.size; omega
        · have t2 : (er != 3) = true := by simpa using he
          have hn1 : ¬ (w.heap.size = g) := by have := HGn.out; omega
          have hn2 : ¬ (g = w.heap.size) := by have := HGn.out; omega
          go_wp2_with (go_at_call 30; (with_reducible refine HC.out.mono ?_); rintro e w' ⟨rfl, hb1⟩; have HB1 := Aside0.mk hb1; have kg := (hb1.block g (blk_lt HGr.out)).trans HGr.out; have kbo := (hb1.block _ (blk_lt HBO.out)).trans HBO.out; have kf1 := blk_frozen kg 0; have kg1 := blk_set kg 0 (.slice none 0 0); have kf2 := blk_frozen kg1 2; have kg2 := blk_set kg1 2 (.bool true); have kbo2 := blk_far (p := ⟨g, 2, none⟩) (blk_far (p := ⟨g, 0, none⟩) kbo (by have := HGn.out; show w.heap.size ≠ g; omega) (.slice none 0 0)) (by have := HGn.out; show w.heap.size ≠ g; omega) (.bool true); have kc3 := blk_cell kbo2 0; have kf3 := blk_frozen kbo2 0; have kbo3 := blk_set kbo2 0 (.slice Ao bs.length co); have kg3 := blk_far (p := ⟨w.heap.size, 0, none⟩) kg2 (by have := HGn.out; show g ≠ w.heap.size; omega) (.slice Ao bs.length co); simp at kc3; have kcw := blk_cell kbo 0; have kcg := blk_cell kg 0; have kcg2 := blk_cell kg 2; simp at kcw kcg kcg2; have KG3 := Aside0.mk kg3; have KBO3 := Aside0.mk kbo3; clear hb1 kg kbo kg1 kg2 kbo2 kbo3 kg3)
          have hDg : D ≠ g := by have := HD.out; have := HGn.out; have := SZ6.out; omega
          have hDb : D ≠ w.heap.size := by have := HD.out; have := SZ6.out; omega
          have eD : w'.heap[D]? = some (.deferred (some [])) := (HB1.out.block D (Nat.lt_of_lt_of_le HDL.out HBr.out.size)).trans ((HKr.out D HDL.out hDg).trans HDef.out)
          have e1 := (Below.heap_setCell ((w'.setCell ⟨g, 0, none⟩ (.slice none 0 0)).setCell ⟨g, 2, none⟩ (.bool true)) ⟨w.heap.size, 0, none⟩ (.slice Ao bs.length co) D hDb).trans ((Below.heap_setCell (w'.setCell ⟨g, 0, none⟩ (.slice none 0 0)) ⟨g, 2, none⟩ (.bool true) D hDg).trans ((Below.heap_setCell w' ⟨g, 0, none⟩ (.slice none 0 0) D hDg).trans eD))
          have hbW : w0.heap.size ≤ W.heap.size := Nat.le_trans HG0.out HI.out.be.size
          have hbF : Below w0.heap.size W ((((w'.setCell ⟨g, 0, none⟩ (.slice none 0 0)).setCell ⟨g, 2, none⟩ (.bool true)).setCell ⟨w.heap.size, 0, none⟩ (.slice Ao bs.length co)).putObj D (.deferred none)) :=
            Below_put ((((HBr.out.trans (HB1.out.mono (Nat.le_trans hbW HBr.out.size))).setCell (p := ⟨g, 0, none⟩) HR.out.lo _).setCell (p := ⟨g, 2, none⟩) HR.out.lo _).setCell (p := ⟨w.heap.size, 0, none⟩) HW0.out _) (Nat.le_trans HG0.out HD.out) _
          obtain ⟨F, hF⟩ : ∃ F, (((w'.setCell ⟨g, 0, none⟩ (.slice none 0 0)).setCell ⟨g, 2, none⟩ (.bool true)).setCell ⟨w.heap.size, 0, none⟩ (.slice Ao bs.length co)).putObj D (.deferred none) = F := ⟨_, rfl⟩
          have hgF : F.heap[g]? = some (.cells #[.slice none 0 0, .bool true, .bool true] 57 (0, 0)) := by rw [← hF, World.putObj_heap_other hDg.symm, KG3.out]; rfl
          have hcF : F.cell? ⟨w.heap.size, 0, none⟩ = some (.slice Ao bs.length co) := by
            refine blk_cell (t := 22) (cs := #[.slice Ao bs.length co]) ?_ 0
            rw [← hF, World.putObj_heap_other hDb.symm, KBO3.out]; rfl
          rw [hF] at hbF
          have hkF : ∀ k, k < W.heap.size → k ≠ g → k ≠ w.heap.size → k ≠ D → F.heap[k]? = W.heap[k]? := fun k hk h1 h2 h3 => by
            rw [← hF, World.putObj_heap_other h3]
            exact (Below.heap_setCell _ ⟨w.heap.size, 0, none⟩ _ k h2).trans ((Below.heap_setCell _ ⟨g, 2, none⟩ _ k h1).trans ((Below.heap_setCell w' ⟨g, 0, none⟩ _ k h1).trans ((HB1.out.block k (Nat.lt_of_lt_of_le hk HBr.out.size)).trans (HKr.out k hk h1))))
          obtain ⟨hT1, hK1⟩ := HF.out F hkF
          refine ⟨by simp, .inl ⟨_, _, rfl, run_takeDeferred e1, ?_⟩⟩
          rw [hF]
          exact ⟨_, results_ct rfl rfl rfl hcF, _, rfl, .slice none 0 0, Kd.R_mono hT1 (fun k hk => ⟨hk.1, fun e => by cases e⟩), ⟨hgF, Kd.R_nil _ _ _ _ _, HR.out.lo⟩, (fun k hk => by cases hk), (B6.out.trans HI.out.be).trans hbF, hK1⟩
end Go.Proofs.YthkmacgjekienaaDoor.P
/- Readers that are closed, or none; the document's reader; a body with its header. -/
namespace Go.Proofs.YthkmacgjekienaaDoor.P
attribute [-simp] List.length_drop List.length_take ByteArray.size_append
open Go.RowKit Go.Shelf Go.Proofs.YthkmacgjekienaaDoor.Pure Go.Proofs.YthkmacgjekienaaDoorW.PrintWords Go.Proofs.YthkmacgjekienaaDoorW.PrintLast Go.Proofs.YthkmacgjekienaaDoorW.PrintMore
set_option linter.unusedVariables false
set_option linter.unusedSimpArgs false
theorem heap_new_cell (w : World) (t : TypeId) (u : Value) : (w.alloc (.cells #[u] t)).cell? ⟨w.heap.size, 0, none⟩ = some u ∧ (w.alloc (.cells #[u] t)).frozen? ⟨w.heap.size, 0, none⟩ = false := ⟨(Boxed.new w t u).cell, (Boxed.new w t u).frozen⟩
set_option maxRecDepth 100000 in
set_option maxHeartbeats 1000000 in
theorem write_closed {lo : Nat} {w : World} {g : Nat} {v : Value} {B : List Int} (hR : Rd lo w g v B true) (A : Value) :
    Calls Tryd.prog 14 #[.pointer (some ⟨g, 0, none⟩), A] w fun e w' => e = .returned (.tuple #[.slice none 0 0, .int .i64 70]) ∧ Below w.heap.size w w' := by
  have HRa := Aside0.mk (hR.below (below_alloc (Below.refl _ w) (.cells #[.slice none 0 0] 22)))
  have h1 := HRa.out.c1
  have h2 := HRa.out.c2
  obtain ⟨k1, k2⟩ := heap_new_cell w 22 (.slice none 0 0)
  clear hR
  go_enter Tryd.func14, Tryd.ntmps14
  go_wp2_with (go_at_call 29; (with_reducible refine (none_calls HRa.out.c1).mono ?_); rintro e w' ⟨rfl, rfl⟩)
  exact bodyPost_ret (results_ct (g := w.heap.size) (A := none) (n := 0) (c := 0) rfl rfl rfl k1) rfl ⟨rfl, below_alloc (Below.refl _ w) _⟩
theorem write_none {w : World} (p A : Value) (hp : ∀ W, Below w.heap.size w W → Calls Tryd.prog 29 #[p] W fun e w' => e = .returned (.bool true) ∧ W = w') :
    Calls Tryd.prog 14 #[p, A] w fun e w' => e = .returned (.tuple #[.slice none 0 0, .int .i64 1]) ∧ Below w.heap.size w w' := by
  have HP := Aside0.mk (hp _ (below_alloc (Below.refl _ w) (.cells #[.slice none 0 0] 22)))
  obtain ⟨k1, k2⟩ := heap_new_cell w 22 (.slice none 0 0)
  clear hp
  go_enter Tryd.func14, Tryd.ntmps14
  go_wp2_with (go_at_call 29; (with_reducible refine HP.out.mono ?_); rintro e w' ⟨rfl, rfl⟩)
  exact bodyPost_ret (results_ct (g := w.heap.size) (A := none) (n := 0) (c := 0) rfl rfl rfl k1) rfl ⟨rfl, below_alloc (Below.refl _ w) _⟩
set_option maxRecDepth 100000 in
set_option maxHeartbeats 2000000 in
/-- writes: what a reader that goes on answers is what was asked. -/
theorem writes_calls {w0 w : World} {g : Nat} {v : Value} {B : List Int} (hR : Rd w0.heap.size w g v B false) (s : ByteArray) (Aw : Option Addr) (cw : Nat) (ws : List ByteArray) (hw : Kd.C Kd.string w Aw ws.length ws) (hcw : ws.length ≤ cw) (hwl : ∀ ad, Aw = some ad → ∃ cells, w.heap[ad.block]? = some (.cells cells 9 (0, 0)))
    (hT : TAB w0) (hB : Below w0.heap.size w0 w) (hby : Byt (B ++ bytesOf s)) (hsz : (B ++ bytesOf s).length ≤ 1000000) (bs : List (List Int)) (left : List Int) (hbod : bodT (B ++ bytesOf s) = (bs, left, 3)) (hws : bs.map strOfNums = ws) (hc1 : bs.length ≤ 1000000) :
    Calls Tryd.prog 32 #[.pointer (some ⟨g, 0, none⟩), .string s, .slice Aw ws.length cw] w fun e w' => e = .returned (.bool true) ∧ ∃ v', Rd w0.heap.size w' g v' left false ∧ Below w0.heap.size w0 w' := by
  have hss : s.size ≤ 1000000 := by rw [List.length_append, bytesOf_length] at hsz; omega
  have hxs : X_bytes.f s = some (bytesOf s) := by unfold X_bytes.f; rw [if_pos (by omega)]
  have HXS := Aside0.mk hxs
  have HR := Aside0.mk hR
  have HW := Aside0.mk hw
  have HWL := Aside0.mk hwl
  have HT := Aside0.mk hT
  have HB := Aside0.mk hB
  have HBy := Aside0.mk hby
  have HSZ := Aside0.mk hsz
  have HBOD := Aside0.mk hbod
  have HWS := Aside0.mk hws
  have HC1 := Aside0.mk hc1
  have hle : ws.length = bs.length := by rw [← hws, List.length_map]
  have HLE := Aside0.mk hle
  clear hR hw hwl hT hB hby hsz hbod hws hss hxs hle
  go_enter Tryd.func32, Tryd.ntmps32
  go_upto_region 2 with (first
    | ((with_reducible refine gate_dst (N := 13) rfl ?_); refine conv_run rfl (.tmp 12) 9 27 5 rfl Tryd.underlying9 Tryd.underlying27 Tryd.underlying5 s rfl HXS.out ?_; intro vb w1 hv1 hb1; obtain ⟨Ab, cb, rfl⟩ := Kd.V_slice hv1; have HV1 := Aside0.mk hv1; have HB1 := Aside0.mk hb1; clear hv1 hb1)
    | (go_at_call 14; (with_reducible refine (write_walk (HR.out.below HB1.out) Ab _ cb (bytesOf s) rfl (Kd.V_reads' HV1.out).2.2 (Kd.V_reads' HV1.out).2.1 HT.out (HB.out.trans (HB1.out.mono HB.out.size)) HBy.out (by have := HSZ.out; omega) bs left 3 HBOD.out (by have := HC1.out; omega)).mono ?_); rintro e w2 ⟨vo, v2, rfl, ho2, hr2, _, hb2, hk2⟩; obtain ⟨Ao, co, rfl⟩ := Kd.R_slice ho2; have HO2 := Aside0.mk ho2; have HR2 := Aside0.mk hr2; have HB2 := Aside0.mk hb2; have HK2 := Aside0.mk hk2; clear ho2 hr2 hb2 hk2))
  have e0 : ((0 : Int) != 0) = false := rfl
  have e1 : ((bs.length : Int) != (ws.length : Int)) = false := by rw [HLE.out]; simp
  have HCo := Aside0.mk (Kd.R_reads' HO2.out).2.2
  have HCw := Aside0.mk (show Kd.C Kd.string w2 Aw ws.length ws from by
    have hw1 := Kd.C_below HW.out HB1.out
    rcases Nat.eq_zero_or_pos ws.length with h0 | h0
    · obtain rfl := List.eq_nil_of_length_eq_zero h0
      exact ⟨rfl, by decide, fun h => absurd h (by decide)⟩
    · obtain ⟨ad, e, _⟩ := hw1.2.2 h0
      subst e
      obtain ⟨cells, hc⟩ := HWL.out ad rfl
      have hc1 := (HB1.out.block _ (blk_lt hc)).trans hc
      have hkeep : w2.heap[ad.block]? = w1.heap[ad.block]? := HK2.out ad.block (blk_lt hc1) (fun e => by
        have h2 := (HR.out.below HB1.out).blk
        rw [← e, hc1] at h2; cases h2) (fun e => by
        obtain ⟨cells2, h2⟩ := Kd.R_typed (HR.out.below HB1.out).row _ e.symm
        rw [hc1] at h2; cases h2)
      refine ⟨hw1.1, hw1.2.1, fun hp => ?_⟩
      obtain ⟨ad', e', hh⟩ := hw1.2.2 hp
      cases e'
      refine ⟨ad, rfl, fun j x hx => ?_⟩
      obtain ⟨cs, h3, h4, h5⟩ := hh j x hx
      refine ⟨cs, h3, h4, fun i u hu => ?_⟩
      have h6 := h5 i u hu
      unfold World.cell? at h6 ⊢
      rw [show (ad.add (j * Kd.string.sz + i)).block = ad.block from add_block _ _] at h6 ⊢
      rw [hkeep]; exact h6)
  clear HW HWL HB1 HK2 HV1 HB
  go_wp2
  go_loopw [9] (fun i wr => ∃ q : Nat, q ≤ bs.length ∧ i = .int .i64 q ∧ Aside0 (∃ m, wr = w2.drewN m)) (fun i _ => bs.length - (intOf i).toNat)
  case atStart => exact ⟨0, Nat.zero_le _, rfl, ⟨0, rfl⟩⟩
  case round =>
    obtain ⟨q, hq, rfl, HM⟩ := hrel
    obtain ⟨m, rfl⟩ := HM.out
    have hbl := HC1.out
    by_cases hlt : q < bs.length
    · obtain ⟨ad, A0, c0, hA, hcell, hc0, hC⟩ := at_L1 HCo.out (q : Int) (by omega) (by omega)
      obtain ⟨ad2, hA2, hcell2⟩ := Kd.at_string HCw.out (q : Int) (by omega) (by rw [HLE.out]; omega)
      subst hA
      subst hA2
      have hstr : rdOf ByteArray.empty ws (q : Int) = strOfNums (rd_L1 bs (q : Int)) := by
        have := HWS.out
        subst this
        unfold rdOf rd_L1
        rw [Int.toNat_natCast]
        simp [List.getD, hlt]
      rw [hstr] at hcell2
      obtain ⟨x, hx⟩ : ∃ x, rd_L1 bs (q : Int) = x := ⟨_, rfl⟩
      rw [hx] at hcell hcell2 hC hc0
      have hcv : ∀ k, (convert 27 9 (.slice A0 x.length c0)).run Tryd.prog (w2.drewN k) = .ok (.string (strOfNums x)) (w2.drewN k) := fun k => Kd.C_string Tryd.underlying27 Tryd.underlying5 Tryd.underlying9 (Kd.C_drewN hC k)
      have h1 : (q : Int) < (bs.length : Int) := by omega
      have h2 : (q : Int) < (ws.length : Int) := by rw [HLE.out]; omega
      have h0 : (0 : Int) ≤ (q : Int) := by omega
      have t1 : decide (q < bs.length) = true := decide_eq_true hlt
      have hw1 : wrap64 ((q : Int) + 1) = ((q + 1 : Nat) : Int) := by unfold wrap64; omega
      simp only [Int.toNat_natCast] at hcell hcell2
      clear hstr hx hC HM
      go_wp2
      go_quiet (fail)
      go_wp2
      exact ⟨⟨q + 1, by omega, by simp, ⟨_, rfl⟩⟩, by simp [intOf]; omega⟩
    · have t1 : decide (q < bs.length) = false := decide_eq_false hlt
      clear HM
      go_wp2
      go_ret
      exact ⟨rfl, _, HR2.out.below (pw_below_drewN (Below.refl _ w2) m), pw_below_drewN HB2.out m⟩
end Go.Proofs.YthkmacgjekienaaDoor.P
/- The chapter's examples: what the reader answers to them. -/
namespace Go.Proofs.YthkmacgjekienaaDoor.P
attribute [-simp] List.length_drop List.length_take ByteArray.size_append
open Go.RowKit Go.Shelf Go.Proofs.YthkmacgjekienaaDoor.Pure Go.Proofs.YthkmacgjekienaaDoorW.PrintWords Go.Proofs.YthkmacgjekienaaDoorW.PrintLast Go.Proofs.YthkmacgjekienaaDoorW.PrintMore
set_option linter.unusedVariables false
set_option linter.unusedSimpArgs false
theorem hp_lit {l : List Int} {r : Int × Int × Int} (k : Nat) (h : head_Parse.f k l = some r) : hp l = r := hp_is (Ev.of (fun k => head_Parse.mono l k) h)
theorem bod_no {l : List Int} {e : Int} (h : hp l = (0, 0, e)) (h0 : e ≠ 0) : bodT l = ([], l, e) := by
  rw [bodT_no (fun h1 => h0 (by have := h1.1; rw [h] at this; exact this))]
  unfold err1
  rw [h, if_neg h0]
theorem bod_few {l : List Int} {n s : Nat} (h : hp l = ((n : Int), (s : Int), 0)) (h2 : 2 ≤ s) (hl : l.length < s + n) : bodT l = ([], l, 3) := by
  have e1 : sz l = s := by unfold sz; rw [h]; rfl
  have e2 : bn l = n := by unfold bn; rw [h]; rfl
  rw [bodT_no (fun h1 => by have := h1.2.1; rw [e1, e2] at this; omega)]
  unfold err1
  rw [h, if_pos rfl]
theorem bod_one {l : List Int} {n s : Nat} (h : hp l = ((n : Int), (s : Int), 0)) (h2 : 2 ≤ s) (hl : s + n ≤ l.length) {bs : List (List Int)} {r : List Int × Int} (hr : bodT (l.drop (s + n)) = (bs, r)) : bodT l = ((l.take (s + n)).drop s :: bs, r) := by
  have e1 : sz l = s := by unfold sz; rw [h]; rfl
  have e2 : bn l = n := by unfold bn; rw [h]; rfl
  rw [bodT_ok ⟨by rw [h], by rw [e1, e2]; exact hl, by rw [e1]; exact h2⟩]
  unfold rest1 body1
  rw [e1, e2, hr]
def aw1 : List Int := [67, 111, 110, 116, 101, 110, 116, 45, 76, 101, 110, 103, 116, 104, 58, 32, 50, 13, 10, 13, 10, 123, 125, 67, 111, 110, 116, 101, 110, 116, 45, 76, 101]
def aw1l : List Int := [67, 111, 110, 116, 101, 110, 116, 45, 76, 101]
def aw2 : List Int := [110, 103, 116, 104, 58, 32, 49, 13, 10, 13, 10]
theorem aw1_is : bodT ([] ++ aw1) = ([[123, 125]], aw1l, 3) :=
  bod_one (n := 2) (s := 21) (hp_lit 60 (by decide +kernel)) (by decide) (by decide) (bod_no (hp_lit 60 (by decide +kernel)) (by decide))
theorem aw2_is : bodT (aw1l ++ aw2) = ([], aw1l ++ aw2, 3) := bod_few (n := 1) (s := 21) (hp_lit 60 (by decide +kernel)) (by decide) (by decide)
theorem aw3_is : bodT ((aw1l ++ aw2) ++ [55, 120]) = ([[55]], [120], 3) :=
  bod_one (n := 1) (s := 21) (hp_lit 60 (by decide +kernel)) (by decide) (by decide) (bod_no (hp_lit 60 (by decide +kernel)) (by decide))
theorem aw4_is : bodT ([120] ++ [13, 10]) = ([], [120, 13, 10], 3) := bod_no (hp_lit 60 (by decide +kernel)) (by decide)
theorem aw5_is : bodT ([120, 13, 10] ++ []) = ([], [120, 13, 10], 3) := bod_no (hp_lit 60 (by decide +kernel)) (by decide)
theorem aw6_is : bodT ([120, 13, 10] ++ [13, 10, 13, 10]) = ([], [120, 13, 10, 13, 10, 13, 10], 60) := bod_no (hp_lit 60 (by decide +kernel)) (by decide)
/-- (*Reader).Write in the chapter's examples -/
theorem awk {w0 w : World} {g : Nat} {B : List Int} (hR : ∃ v, Rd w0.heap.size w g v B false) (s : ByteArray) (Aw : Option Addr) (nw cw : Nat) (ws : List ByteArray) (hnw : ws.length = nw) (hw : Kd.C Kd.string w Aw ws.length ws) (hcw : ws.length ≤ cw) (hwl : ∀ ad, Aw = some ad → ∃ cells, w.heap[ad.block]? = some (.cells cells 9 (0, 0)))
    (hT : TAB w0) (hB : Below w0.heap.size w0 w) (l : List Int) (hs : bytesOf s = l) (hby : Byt (B ++ l)) (hsz : (B ++ l).length ≤ 1000000) (bs : List (List Int)) (left : List Int) (hbod : bodT (B ++ l) = (bs, left, 3)) (hws : bs.map strOfNums = ws) (hc1 : bs.length ≤ 1000000) :
    Calls Tryd.prog 32 #[.pointer (some ⟨g, 0, none⟩), .string s, .slice Aw nw cw] w fun e w' => e = .returned (.bool true) ∧ (∃ v', Rd w0.heap.size w' g v' left false) ∧ Below w0.heap.size w0 w' := by
  subst hs hnw
  obtain ⟨v, hR⟩ := hR
  refine (writes_calls hR s Aw cw ws hw hcw hwl hT hB hby hsz bs left hbod hws hc1).mono ?_
  rintro e w' ⟨h1, v', h2, h3⟩
  exact ⟨h1, ⟨v', h2⟩, h3⟩
theorem C_str1 (w : World) (u : ByteArray) : Kd.C Kd.string (w.alloc (.cells #[.string u] 9)) (some ⟨w.heap.size, 0, none⟩) [u].length [u] ∧ ∀ ad, (some ⟨w.heap.size, 0, none⟩ : Option Addr) = some ad → ∃ cells, (w.alloc (.cells #[.string u] 9)).heap[ad.block]? = some (.cells cells 9 (0, 0)) := by
  have hb := heap_alloc_new w (.cells #[.string u] 9)
  refine ⟨⟨rfl, by simp, fun _ => ⟨⟨w.heap.size, 0, none⟩, rfl, fun j x hx => ?_⟩⟩, fun ad e => by cases e; exact ⟨_, hb⟩⟩
  cases j with
  | zero =>
    cases hx
    refine ⟨[.string u], rfl, rfl, fun i v hv => ?_⟩
    cases i with
    | zero => cases hv; exact blk_cell hb 0
    | succ i => cases hv
  | succ j => cases hx
theorem C_str0 (w : World) : Kd.C Kd.string w none ([] : List ByteArray).length [] := ⟨rfl, by decide, fun h => absurd h (by decide)⟩
theorem new_calls (w : World) : Calls Tryd.prog 11 #[] w fun e w' => e = .returned (.pointer (some ⟨w.heap.size, 0, none⟩)) ∧ w' = w.alloc (.cells #[.slice none 0 0, .bool true, .bool false] 57) := by
  go_enter Tryd.func11, Tryd.ntmps11
  go_wp2
  go_ret
  exact ⟨rfl, rfl⟩
/-- a reader that goes on -/
def RdE (w0 w : World) (g : Nat) (B : List Int) : Prop := ∃ v, Rd w0.heap.size w g v B false
theorem RdE.below {w0 w w' : World} {g : Nat} {B : List Int} (h : RdE w0 w g B) (hb : Below w.heap.size w w') : RdE w0 w' g B := by
  obtain ⟨v, h⟩ := h
  exact ⟨v, h.below hb⟩
theorem RdE.new {w0 w : World} (hB : Below w0.heap.size w0 w) : RdE w0 (w.alloc (.cells #[.slice none 0 0, .bool true, .bool false] 57)) w.heap.size [] := ⟨_, heap_alloc_new w _, Kd.R_nil _ _ _ _ _, hB.size⟩
theorem leftE {w0 w : World} {g : Nat} {B : List Int} (h : RdE w0 w g B) (n : Nat) (hn : B.length = n) : Calls Tryd.prog 17 #[.pointer (some ⟨g, 0, none⟩)] w fun e w' => e = .returned (.int .i64 n) ∧ w = w' := by
  obtain ⟨v, h⟩ := h
  subst hn
  exact left_calls h
theorem closedE {w0 w : World} {g : Nat} {B : List Int} (h : RdE w0 w g B) : Calls Tryd.prog 19 #[.pointer (some ⟨g, 0, none⟩)] w fun e w' => e = .returned (.bool false) ∧ w = w' := by
  obtain ⟨v, h⟩ := h
  exact closed_calls h
/-- a reader that is closed -/
def RdC (w0 w : World) (g : Nat) : Prop := ∃ v, Rd w0.heap.size w g v [] true
theorem RdC.below {w0 w w' : World} {g : Nat} (h : RdC w0 w g) (hb : Below w.heap.size w w') : RdC w0 w' g := by
  obtain ⟨v, h⟩ := h
  exact ⟨v, h.below hb⟩
theorem leftC {w0 w : World} {g : Nat} (h : RdC w0 w g) : Calls Tryd.prog 17 #[.pointer (some ⟨g, 0, none⟩)] w fun e w' => e = .returned (.int .i64 0) ∧ w = w' := by
  obtain ⟨v, h⟩ := h
  exact left_calls h
theorem closedC {w0 w : World} {g : Nat} (h : RdC w0 w g) : Calls Tryd.prog 19 #[.pointer (some ⟨g, 0, none⟩)] w fun e w' => e = .returned (.bool true) ∧ w = w' := by
  obtain ⟨v, h⟩ := h
  exact closed_calls h
theorem closeE {w0 w : World} {g : Nat} {B : List Int} (h : RdE w0 w g B) (A : Option Addr) (n c : Nat) (l : List Int) (hn : l.length = n) (hl : Kd.C (Kd.int .u8) w A n l) (hc : n ≤ c) (hT : TAB w0) (hB : Below w0.heap.size w0 w)
    (hby : Byt (B ++ l)) (hsz : (B ++ l).length ≤ 140737488353792) (left : List Int) (er : Int) (hbod : bodT (B ++ l) = ([], left, er)) (he : er ≠ 3) :
    Calls Tryd.prog 14 #[.pointer (some ⟨g, 0, none⟩), .slice A n c] w fun e w' => ∃ Ao co, e = .returned (.tuple #[.slice Ao 0 co, .int .i64 er]) ∧ RdC w0 w' g ∧ Below w0.heap.size w0 w' := by
  obtain ⟨v, h⟩ := h
  refine (write_walk h A n c l hn hl hc hT hB hby hsz [] left er hbod (by simp)).mono ?_
  rintro e w' ⟨vo, v', rfl, h1, h2, _, h3, _⟩
  rw [if_neg he, decide_eq_true he] at h2
  rw [if_neg he]
  obtain ⟨Ao, co, rfl⟩ := Kd.R_slice h1
  exact ⟨Ao, co, rfl, ⟨v', h2⟩, h3⟩
theorem writeC {w0 w : World} {g : Nat} (h : RdC w0 w g) (A : Value) : Calls Tryd.prog 14 #[.pointer (some ⟨g, 0, none⟩), A] w fun e w' => e = .returned (.tuple #[.slice none 0 0, .int .i64 70]) ∧ Below w.heap.size w w' := by
  obtain ⟨v, h⟩ := h
  exact write_closed h A
theorem byt_lit {l : List Int} (h : fitsB l = true) : Byt l := fits_of h
theorem newE {w0 w : World} (hB : Below w0.heap.size w0 w) : Calls Tryd.prog 11 #[] w fun e w' => ∃ g, e = .returned (.pointer (some ⟨g, 0, none⟩)) ∧ RdE w0 w' g [] ∧ Below w0.heap.size w0 w' ∧ Below w.heap.size w w' ∧ w.heap.size ≤ g :=
  (new_calls w).mono fun e w' ⟨h1, h2⟩ => ⟨_, h1, by rw [h2]; exact RdE.new hB, by rw [h2]; exact below_alloc hB _, by rw [h2]; exact below_alloc (Below.refl _ w) _, Nat.le_refl _⟩
theorem left10 {w0 w : World} {g : Nat} (h : RdE w0 w g aw1l) : Calls Tryd.prog 17 #[.pointer (some ⟨g, 0, none⟩)] w fun e w' => e = .returned (.int .i64 10) ∧ w = w' := leftE h 10 rfl
theorem left1 {w0 w : World} {g : Nat} (h : RdE w0 w g [120]) : Calls Tryd.prog 17 #[.pointer (some ⟨g, 0, none⟩)] w fun e w' => e = .returned (.int .i64 1) ∧ w = w' := leftE h 1 rfl
theorem awc1 {w0 w : World} {g : Nat} (h : RdE w0 w g []) (hT : TAB w0) (hB : Below w0.heap.size w0 w) : Calls Tryd.prog 32 #[.pointer (some ⟨g, 0, none⟩), .string ⟨#[67, 111, 110, 116, 101, 110, 116, 45, 76, 101, 110, 103, 116, 104, 58, 32, 50, 13, 10, 13, 10, 123, 125, 67, 111, 110, 116, 101, 110, 116, 45, 76, 101]⟩, .slice (some ⟨w.heap.size, 0, none⟩) 1 1] (w.alloc (.cells #[.string ⟨#[123, 125]⟩] 9)) fun e w' => e = .returned (.bool true) ∧ RdE w0 w' g aw1l ∧ Below w0.heap.size w0 w' :=
  awk (h.below (below_alloc (Below.refl _ _) _)) _ _ 1 1 [⟨#[123, 125]⟩] rfl (C_str1 _ _).1 (by decide) (C_str1 _ _).2 hT (below_alloc hB _) aw1 rfl (byt_lit (by decide +kernel)) (by decide) _ _ aw1_is (by decide +kernel) (by decide)
theorem awc2 {w0 w : World} {g : Nat} (h : RdE w0 w g aw1l) (hT : TAB w0) (hB : Below w0.heap.size w0 w) : Calls Tryd.prog 32 #[.pointer (some ⟨g, 0, none⟩), .string ⟨#[110, 103, 116, 104, 58, 32, 49, 13, 10, 13, 10]⟩, .slice none 0 0] w fun e w' => e = .returned (.bool true) ∧ RdE w0 w' g (aw1l ++ aw2) ∧ Below w0.heap.size w0 w' :=
  awk h _ none 0 0 [] rfl (C_str0 _) (by decide) (fun _ e => by cases e) hT hB aw2 rfl (byt_lit (by decide +kernel)) (by decide) _ _ aw2_is rfl (by decide)
theorem awc3 {w0 w : World} {g : Nat} (h : RdE w0 w g (aw1l ++ aw2)) (hT : TAB w0) (hB : Below w0.heap.size w0 w) : Calls Tryd.prog 32 #[.pointer (some ⟨g, 0, none⟩), .string ⟨#[55, 120]⟩, .slice (some ⟨w.heap.size, 0, none⟩) 1 1] (w.alloc (.cells #[.string ⟨#[55]⟩] 9)) fun e w' => e = .returned (.bool true) ∧ RdE w0 w' g [120] ∧ Below w0.heap.size w0 w' :=
  awk (h.below (below_alloc (Below.refl _ _) _)) _ _ 1 1 [⟨#[55]⟩] rfl (C_str1 _ _).1 (by decide) (C_str1 _ _).2 hT (below_alloc hB _) [55, 120] rfl (byt_lit (by decide +kernel)) (by decide) _ _ aw3_is (by decide +kernel) (by decide)
theorem awc4 {w0 w : World} {g : Nat} (h : RdE w0 w g [120]) (hT : TAB w0) (hB : Below w0.heap.size w0 w) : Calls Tryd.prog 32 #[.pointer (some ⟨g, 0, none⟩), .string ⟨#[13, 10]⟩, .slice none 0 0] w fun e w' => e = .returned (.bool true) ∧ RdE w0 w' g [120, 13, 10] ∧ Below w0.heap.size w0 w' :=
  awk h _ none 0 0 [] rfl (C_str0 _) (by decide) (fun _ e => by cases e) hT hB [13, 10] rfl (byt_lit (by decide +kernel)) (by decide) _ _ aw4_is rfl (by decide)
theorem awc5 {w0 w : World} {g : Nat} (h : RdE w0 w g [120, 13, 10]) (hT : TAB w0) (hB : Below w0.heap.size w0 w) : Calls Tryd.prog 32 #[.pointer (some ⟨g, 0, none⟩), .string ⟨#[]⟩, .slice none 0 0] w fun e w' => e = .returned (.bool true) ∧ RdE w0 w' g [120, 13, 10] ∧ Below w0.heap.size w0 w' :=
  awk h _ none 0 0 [] rfl (C_str0 _) (by decide) (fun _ e => by cases e) hT hB [] rfl (byt_lit (by decide +kernel)) (by decide) _ _ aw5_is rfl (by decide)
theorem awc6 {w0 w : World} {g : Nat} (h : RdE w0 w g [120, 13, 10]) (hT : TAB w0) (hB : Below w0.heap.size w0 w) : Calls Tryd.prog 14 #[.pointer (some ⟨g, 0, none⟩), .slice (some ⟨w.heap.size, 0, none⟩) 4 4] (w.alloc (.cells #[.int .u8 13, .int .u8 10, .int .u8 13, .int .u8 10] 5 (4, 5))) fun e w' => ∃ Ao co, e = .returned (.tuple #[.slice Ao 0 co, .int .i64 60]) ∧ RdC w0 w' g ∧ Below w0.heap.size w0 w' :=
  closeE (h.below (below_alloc (Below.refl _ _) _)) _ 4 4 [13, 10, 13, 10] rfl (lit_V w 5 [13, 10, 13, 10] (by decide) (4, 5)) (by decide) hT (below_alloc hB _) (byt_lit (by decide +kernel)) (by decide) _ 60 aw6_is (by decide)
set_option maxRecDepth 100000 in
set_option maxHeartbeats 4000000 in
theorem awake_calls {w0 w : World} (hT : TAB w0) (hB : Below w0.heap.size w0 w) : Calls Tryd.prog 21 #[] w fun e w' => e = .returned (.bool true) ∧ Below w0.heap.size w0 w' := by
  have HT := Aside0.mk hT
  have HB := Aside0.mk hB
  have kc := fun (w : World) (C : Array Value) (n c : Nat) => Lib.run_convert_bytes_const (P := Tryd.prog) w 27 5 C n c Tryd.underlying27 Tryd.underlying5
  clear hT hB
  go_enter Tryd.func21, Tryd.ntmps21
  go_wp2_with (first
    | (go_at_call 11; (with_reducible refine (newE HB.out).mono ?_); rintro e wn ⟨g, rfl, r_, b_, _, _⟩; have R0 := Aside0.mk r_; have B0 := Aside0.mk b_; clear r_ b_)
    | (go_at_call 32; (with_reducible refine (awc1 R0.out HT.out B0.out).mono ?_); rintro e w1 ⟨rfl, r_, b_⟩; have R1 := Aside0.mk r_; have B1 := Aside0.mk b_; clear r_ b_)
    | (go_at_call 17; (with_reducible refine (left10 R1.out).mono ?_); rintro e w_ ⟨rfl, rfl⟩)
    | (go_at_call 32; (with_reducible refine (awc2 R1.out HT.out B1.out).mono ?_); rintro e w2 ⟨rfl, r_, b_⟩; have R2 := Aside0.mk r_; have B2 := Aside0.mk b_; clear r_ b_)
    | (go_at_call 32; (with_reducible refine (awc3 R2.out HT.out B2.out).mono ?_); rintro e w3 ⟨rfl, r_, b_⟩; have R3 := Aside0.mk r_; have B3 := Aside0.mk b_; clear r_ b_)
    | (go_at_call 17; (with_reducible refine (left1 R3.out).mono ?_); rintro e w_ ⟨rfl, rfl⟩)
    | (go_at_call 32; (with_reducible refine (awc4 R3.out HT.out B3.out).mono ?_); rintro e w4 ⟨rfl, r_, b_⟩; have R4 := Aside0.mk r_; have B4 := Aside0.mk b_; clear r_ b_)
    | (go_at_call 32; (with_reducible refine (awc5 R4.out HT.out B4.out).mono ?_); rintro e w5 ⟨rfl, r_, b_⟩; have R5 := Aside0.mk r_; have B5 := Aside0.mk b_; clear r_ b_)
    | (go_at_call 19; (with_reducible refine (closedE R5.out).mono ?_); rintro e w_ ⟨rfl, rfl⟩)
    | (go_at_call 14; (with_reducible refine (awc6 R5.out HT.out B5.out).mono ?_); rintro e w6 ⟨Ao, co, rfl, r_, b_⟩; have R6 := Aside0.mk r_; have B6 := Aside0.mk b_; clear r_ b_)
    | (go_at_call 14; (with_reducible refine (writeC R6.out _).mono ?_); rintro e w7 ⟨rfl, b_⟩; have R7 := Aside0.mk (R6.out.below b_); have B7 := Aside0.mk (B6.out.trans (b_.mono B6.out.size)); clear b_)
    | (go_at_call 19; (with_reducible refine (closedC R7.out).mono ?_); rintro e w_ ⟨rfl, rfl⟩)
    | (go_at_call 17; (with_reducible refine (leftC R7.out).mono ?_); rintro e w_ ⟨rfl, rfl⟩))
  go_ret
  exact ⟨rfl, B7.out⟩
end Go.Proofs.YthkmacgjekienaaDoor.P
/- A body with its header. -/
namespace Go.Proofs.YthkmacgjekienaaDoor.P
attribute [-simp] List.length_drop List.length_take ByteArray.size_append
open Go.RowKit Go.Shelf Go.Proofs.YthkmacgjekienaaDoor.Pure Go.Proofs.YthkmacgjekienaaDoorW.PrintWords Go.Proofs.YthkmacgjekienaaDoorW.PrintLast Go.Proofs.YthkmacgjekienaaDoorW.PrintMore
set_option linter.unusedVariables false
set_option linter.unusedSimpArgs false
/-- a row of bytes with room behind it, all of which may be written -/
structure Sp (w : World) (b n cap : Nat) (l : List Int) : Prop where
  len : l.length = n
  le : n ≤ cap
  max : n ≤ 140737488355328
  cell : ∀ (j : Nat) (x : Int), l[j]? = some x → w.cell? ⟨b, j, none⟩ = some (.int .u8 x)
  room : ∀ j, j < cap → (w.cell? ⟨b, j, none⟩).isSome = true ∧ w.frozen? ⟨b, j, none⟩ = false
theorem Sp.C {w : World} {b n cap : Nat} {l : List Int} (h : Sp w b n cap l) : Kd.C (Kd.int .u8) w (some ⟨b, 0, none⟩) n l := by
  have hl := h.len
  subst hl
  exact C_of_cells (by have := h.max; omega) fun j x hx => by rw [add_plain]; exact h.cell j x hx
section
variable {P : Program} {ops : Array Oper} {rest : List Oper} {o o1 o2 : Oper} {a : Act} {Q : Exit → Act → World → Prop} {W : World}
theorem Sp_bytes (W : World) (s : ByteArray) (hs : s.size ≤ 140737488355328) : Sp (Lib.bytesWorld W 5 s) W.heap.size s.size (grownCap W s.size 0 5) (bytesOf s) := by
  have hb := Lib.bytesWorld_at_new W 5 s
  refine ⟨bytesOf_length s, grownCap_ge _ _ _ _, hs, fun j x hx => ?_, fun j hj => ?_⟩
  · have hj : j < s.size := by have := (List.getElem?_eq_some_iff.1 hx).1; rw [bytesOf_length] at this; exact this
    rw [Lib.bytesWorld_cell W 5 s j hj]
    congr 2
    unfold bytesOf at hx
    rw [List.getElem?_map] at hx
    have hj2 : j < s.data.toList.length := by rw [Array.length_toList]; exact hj
    rw [List.getElem?_eq_getElem hj2] at hx
    simp at hx
    subst hx
    have hj3 : j < s.data.size := hj
    simp [List.getD]
    rw [Array.getElem?_eq_getElem hj3]
    rfl
  · have hsz : (Lib.bytesCells W 5 s).size = grownCap W s.size 0 5 := by
      have := grownCap_ge W s.size 0 5
      unfold Lib.bytesCells
      simp
      have h2 : s.data.size = s.size := rfl
      omega
    unfold World.cell? World.frozen?
    rw [hb]
    simp only [hsz]
    refine ⟨?_, ?_⟩
    · simp [hsz, hj]
    · simp; omega
theorem conv_sp (hgd : o.guard = none) (s : Operand) (ho : o.op = .convert 9 27 s) (b : ByteArray) (hx : a.eval s = .string b) (hs : b.size ≤ 140737488355328)
    (h : ∀ cap, Sp (Lib.bytesWorld W 5 b) W.heap.size b.size cap (bytesOf b) → Below W.heap.size W (Lib.bytesWorld W 5 b) → wpList Tryd.prog ops Q rest (a.put o.dst (.slice (some ⟨W.heap.size, 0, none⟩) b.size cap)) (Lib.bytesWorld W 5 b)) : wpList Tryd.prog ops Q (o :: rest) a W := by
  refine Kd.event_run hgd ?_ (h _ (Sp_bytes W b hs) (bytes_below (Below.refl _ _) (Nat.le_refl _) _ _))
  unfold execOp
  simp only [ho, hx]
  simp [Lib.run_convert_string_bytes W 9 27 5 b Tryd.underlying9 Tryd.underlying27 Tryd.underlying5]
end
def hdS (u : Nat) : ByteArray := (((⟨#[67, 111, 110, 116, 101, 110, 116, 45, 76, 101, 110, 103, 116, 104, 58, 32]⟩ : ByteArray) ++ txt u) ++ (⟨#[13, 10]⟩ : ByteArray)) ++ (⟨#[13, 10]⟩ : ByteArray)
theorem hdS_bytes (u : Nat) : bytesOf (hdS u) = hdOf u := mk_bytes u
theorem hdS_size (u : Nat) : (hdS u).size = (hdOf u).length := by rw [← hdS_bytes, bytesOf_length]
set_option maxRecDepth 100000 in
set_option maxHeartbeats 1000000 in
theorem make_sp (u : Nat) (hu : u ≤ 65536) (w : World) (hT : TAB2 w) : Calls Tryd.prog 35 #[.int .i64 u] w fun e w' => ∃ b cap, e = .returned (.tuple #[.slice (some ⟨b, 0, none⟩) (hdOf u).length cap, .int .i64 0]) ∧ Sp w' b (hdOf u).length cap (hdOf u) ∧ w.heap.size ≤ b ∧ Below w.heap.size w w' := by
  have HC := Aside0.mk (digits_Text.calls (u : Int) (txt u) 0 w hT (by have := text_is (u : Int) (by omega) (by omega); rw [Int.toNat_natCast] at this; exact this))
  have c1 : decide (65536 < u) = false := decide_eq_false (by omega)
  have e0 : ((0 : Int) != 0) = false := rfl
  have hts := txt_size u
  have hnl := nd_small_len u hu
  have c5 : (9223372036854775807 < 16 + (txt u).size) = False := eq_false (by omega)
  have c6 : (9223372036854775807 < 16 + (txt u).size + 2) = False := eq_false (by omega)
  have c7 : (9223372036854775807 < 16 + (txt u).size + 2 + 2) = False := eq_false (by omega)
  have hz : (hdS u).size ≤ 140737488355328 := by rw [hdS_size]; have := hd_len u hu; omega
  have HZ := Aside0.mk hz
  clear hT hts hnl hz
  go_enter Tryd.func35, Tryd.ntmps35
  go_wp2_with (first
    | (go_at_call 39; (with_reducible refine HC.out.mono ?_); rintro e w1 ⟨rfl, hb1⟩; have HB1 := Aside0.mk hb1; clear hb1)
    | ((with_reducible refine gate_dst (N := 20) rfl ?_); refine conv_sp rfl (.tmp 19) rfl (hdS u) rfl HZ.out ?_; intro cap hsp hb2; rw [hdS_size, hdS_bytes] at hsp; have HSP := Aside0.mk hsp; have HB2 := Aside0.mk hb2; clear hsp hb2))
  go_ret2
  refine ⟨_, _, ?_, HSP.out, HB1.out.size, below_step HB1.out HB2.out⟩
  rw [← hdS_size]
  rfl
theorem make_no (n : Int) (h : 65536 < n) (w : World) : Calls Tryd.prog 35 #[.int .i64 n] w fun e w' => e = .returned (.tuple #[.slice none 0 0, .int .i64 9]) ∧ Below w.heap.size w w' := by
  have c1 : decide (65536 < n) = true := decide_eq_true h
  go_enter Tryd.func35, Tryd.ntmps35
  go_wp2
  go_ret2
  exact ⟨rfl, Below.refl _ _⟩
def hdS2 (u : Nat) : ByteArray := ((⟨#[67, 111, 110, 116, 101, 110, 116, 45, 76, 101, 110, 103, 116, 104, 58, 32]⟩ : ByteArray) ++ txt u) ++ (⟨#[13, 10, 13, 10]⟩ : ByteArray)
theorem hdS2_bytes (u : Nat) : bytesOf (hdS2 u) = hdOf u := by
  unfold hdS2
  rw [bytesOf_app, bytesOf_app, txt_bytes]
  simp [bytesOf, hdOf, lns, clOf]
theorem hdS2_size (u : Nat) : (hdS2 u).size = (hdOf u).length := by rw [← hdS2_bytes, bytesOf_length]
set_option maxRecDepth 100000 in
set_option maxHeartbeats 1000000 in
theorem refMake_sp (u : Nat) (hu : u ≤ 65536) (w : World) : Calls Tryd.prog 36 #[.int .i64 u] w fun e w' => ∃ b cap, e = .returned (.tuple #[.slice (some ⟨b, 0, none⟩) (hdOf u).length cap, .int .i64 0]) ∧ Sp w' b (hdOf u).length cap (hdOf u) ∧ w.heap.size ≤ b ∧ Below w.heap.size w w' := by
  obtain ⟨k, hk⟩ := refText_ev (u : Int) (by omega) (by omega)
  rw [Int.toNat_natCast] at hk
  have HC := Aside0.mk (colophonref05_Text.calls k (u : Int) (txt u) 0 w (hk k (Nat.le_refl _)))
  have c0 : decide ((u : Int) < 0) = false := decide_eq_false (by omega)
  have c1 : decide (65536 < u) = false := decide_eq_false (by omega)
  have hts := txt_size u
  have hnl := nd_small_len u hu
  have c5 : (9223372036854775807 < 16 + (txt u).size) = False := eq_false (by omega)
  have c6 : (9223372036854775807 < 16 + (txt u).size + 4) = False := eq_false (by omega)
  have hz : (hdS2 u).size ≤ 140737488355328 := by rw [hdS2_size]; have := hd_len u hu; omega
  have HZ := Aside0.mk hz
  clear hk hts hnl hz
  go_enter Tryd.func36, Tryd.ntmps36
  go_wp2_with (first
    | (go_at_call 40; (with_reducible refine HC.out.mono ?_); rintro e w1 ⟨rfl, hb1⟩; have HB1 := Aside0.mk hb1; clear hb1)
    | ((with_reducible refine gate_dst (N := 20) rfl ?_); refine conv_sp rfl (.tmp 19) rfl (hdS2 u) rfl HZ.out ?_; intro cap hsp hb2; rw [hdS2_size, hdS2_bytes] at hsp; have HSP := Aside0.mk hsp; have HB2 := Aside0.mk hb2; clear hsp hb2))
  go_ret2
  refine ⟨_, _, ?_, HSP.out, HB1.out.size, below_step HB1.out HB2.out⟩
  rw [← hdS2_size]
  rfl
theorem refMake_no (n : Int) (h : 65536 < n) (w : World) : Calls Tryd.prog 36 #[.int .i64 n] w fun e w' => e = .returned (.tuple #[.slice none 0 0, .int .i64 9]) ∧ Below w.heap.size w w' := by
  have c0 : decide (n < 0) = false := decide_eq_false (by omega)
  have c1 : decide (65536 < n) = true := decide_eq_true h
  go_enter Tryd.func36, Tryd.ntmps36
  go_wp2
  go_ret2
  exact ⟨rfl, Below.refl _ _⟩
theorem grown_setCells (b : Nat) : ∀ (vs : List Value) (o : Nat) (w : World), w.grownBy (w.setCells b o vs) (some b)
  | [], _, w => World.grownBy.refl w _
  | v :: r, o, w => by
    rw [World.setCells]
    have h1 : w.grownBy (w.setCell ⟨b, o, none⟩ v) (some b) := ⟨rfl, rfl, rfl, (KeepsWalks.setCell w _ v).size, fun k _ hk => Below.heap_setCell _ _ _ k (fun e => hk (by rw [e]))⟩
    have h2 := grown_setCells b r (o + 1) (w.setCell ⟨b, o, none⟩ v)
    exact h1.trans h2
/-- append onto such a row -/
theorem sp_append {ops : Array Oper} {rest : List Oper} {o : Oper} {a : Act} {Q : Exit → Act → World → Prop} {W : World} (hg : o.guard = none) (s x : Operand) (hop : o.op = Op.call { callee := Callee.builtin Builtin.append, args := #[s, x], argTypes := #[27, 27] })
    (b n cap : Nat) (xs : List Int) (h : Sp W b n cap xs) (hs : a.eval s = .slice (some ⟨b, 0, none⟩) n cap) (A : Option Addr) (m c : Nat) (ys : List Int) (hy : ys.length = m) (hA : Kd.C (Kd.int .u8) W A m ys) (hx : a.eval x = .slice A m c) (hm : n + m ≤ 140737488355328)
    (hK : ∀ A1 c1 w1, Kd.C (Kd.int .u8) w1 (some A1) (xs ++ ys).length (xs ++ ys) → (xs ++ ys).length ≤ c1 → (A1.block = b ∨ W.heap.size ≤ A1.block) → W.grownBy w1 (some b) → wpList Tryd.prog ops Q rest (a.put o.dst (.slice (some A1) (xs ++ ys).length c1)) w1) :
    wpList Tryd.prog ops Q (o :: rest) a W := by
  have hl := h.len
  obtain ⟨i0, hi, hz0, hz1, hz2⟩ := info_parts info5
  have hlen : (xs ++ ys).length = n + m := by rw [List.length_append, hl, hy]
  rw [hlen] at hK
  refine wpList_plain hg fun K hK' => ?_
  have fin : ∀ A1 c1 w1, (Builtin.append_ #[27, 27] o.type #[.slice (some ⟨b, 0, none⟩) n cap, .slice A m c]).run Tryd.prog W = .ok (.slice (some A1) (n + m) c1) w1 → Kd.C (Kd.int .u8) w1 (some A1) (n + m) (xs ++ ys) → n + m ≤ c1 → (A1.block = b ∨ W.heap.size ≤ A1.block) → W.grownBy w1 (some b) → Oper.wp Tryd.prog o a W K Q := fun A1 c1 w1 hr h1 h2 h3 h4 => by
    unfold Oper.wp execOp
    simp only [hop, resolve, invoke, builtin, Sem.run_bind, Sem.run_pure, Result.andThen_ok, List.map_toArray, List.map_cons, List.map_nil, hs, hx, hr]
    exact hK' _ _ (hK A1 c1 w1 h1 h2 h3 h4)
  cases A with
  | none =>
    have h0 : m = 0 := by
      rcases Nat.eq_zero_or_pos m with h0 | h0
      · exact h0
      · obtain ⟨ad, h', _⟩ := hA.2.2 h0
        cases h'
    subst h0
    obtain rfl : ys = [] := List.eq_nil_of_length_eq_zero hy
    refine fin ⟨b, 0, none⟩ cap W ?_ (by rw [List.append_nil]; exact h.C) h.le (.inl rfl) (World.grownBy.refl W _)
    simp [Builtin.append_, run_underlying Tryd.underlying27, sizeOf, typeInfo, hi, Builtin.lenOf, Builtin.firstCells, h.le, storeCells]
  | some ad =>
    have hcy : ∀ j u, (nums .u8 ys)[j]? = some u → W.cell? (ad.add j) = some u := fun j u hu => by
      unfold nums at hu
      rw [List.getElem?_map, Option.map_eq_some_iff] at hu
      obtain ⟨x, hx', rfl⟩ := hu
      exact C_cell hA j x hx'
    have h1c : ∀ u ∈ nums .u8 ys, u.oneCell' = true := fun u hu => by simp only [nums, List.mem_map] at hu; obtain ⟨q, _, rfl⟩ := hu; rfl
    have hnl : (nums .u8 ys).length = m := by simp [nums, hy]
    by_cases hr : n + m ≤ cap
    · have hroom : ∀ j, j < (nums .u8 ys).length → (W.cell? ⟨b, 0 + n * i0.size + j, none⟩).isSome = true ∧ W.frozen? ⟨b, 0 + n * i0.size + j, none⟩ = false := fun j hj => by
        have := h.room (n + j) (by omega)
        rw [hz1]
        simpa using this
      have hrun := run_append_room_cells (P := Tryd.prog) (w := W) 27 o.type 5 i0 Tryd.underlying27 hi b 0 n cap ad m c (nums .u8 ys) (by rw [hnl, hz1, Nat.mul_one]) hcy h1c hr (fun j hj => (hroom j hj).1) (fun j hj => (hroom j hj).2)
      rw [hz1] at hrun
      simp only [Nat.mul_one, Nat.zero_add] at hrun
      refine fin ⟨b, 0, none⟩ cap _ hrun ?_ hr (.inl rfl) ?_
      · rw [← hlen]
        refine C_of_cells (by omega) fun j x hx' => ?_
        rw [add_plain]
        rcases Nat.lt_or_ge j n with hj | hj
        · rw [World.cell?_setCells_out b (nums .u8 ys) n W ⟨b, j, none⟩ (fun _ _ => .inl hj)]
          rw [List.getElem?_append_left (by omega)] at hx'
          exact h.cell j x hx'
        · have hj2 : j - n < (nums .u8 ys).length := by have := (List.getElem?_eq_some_iff.1 hx').1; omega
          have := World.cell?_setCells_in b (nums .u8 ys) n W (fun j hj => by have := (hroom j hj).1; rw [hz1] at this; simpa using this) (j - n) hj2
          rw [show n + (j - n) = j by omega] at this
          rw [this]
          rw [List.getElem?_append_right (by omega), hl] at hx'
          have hj3 : j - n < ys.length := by omega
          rw [List.getElem?_eq_getElem hj3] at hx'
          cases hx'
          simp [nums]
      · exact grown_setCells b (nums .u8 ys) n W
    · obtain ⟨v1, w1, hrun, h1, h2⟩ := run_append_arg_grows (P := Tryd.prog) (w := W) 27 o.type 5 i0 (.int .u8 0) 1 1 Tryd.underlying27 hi hz0 hz1 hz2 rfl (by decide) ⟨b, 0, none⟩ n cap (nums .u8 xs) (by simp [nums, hl]) (fun j u hu => by
        unfold nums at hu
        rw [List.getElem?_map, Option.map_eq_some_iff] at hu
        obtain ⟨x, hx', rfl⟩ := hu
        rw [add_plain]
        exact h.cell j x hx') ad m c (nums .u8 ys) (by rw [hnl, Nat.mul_one]) hcy (by omega) (by unfold maxLen; omega) (by omega)
      have hR : Kd.R (Kd.int .u8) 5 w1 W.heap.size (fun _ => True) v1 (xs ++ ys) := Kd.R_of_own (by
        have e : nums .u8 xs ++ nums .u8 ys = encs (Value.int .u8) (xs ++ ys) := by simp [nums, encs]
        rw [e] at h1
        rw [hlen]; exact h1) (fun _ _ => trivial)
      obtain ⟨A1, c1, rfl⟩ := Kd.R_slice hR
      obtain ⟨_, e2, e3⟩ := Kd.R_reads' hR
      rw [hlen] at hrun e2 e3
      obtain ⟨ad1, rfl, _⟩ := e3.2.2 (by omega)
      obtain ⟨g1, rfl⟩ := Kd.R_head hR
      exact fin ⟨g1, 0, none⟩ c1 w1 hrun e3 e2 (.inr (Kd.R_base hR g1 rfl)) ⟨h2.1, h2.2, h2.3, h2.size, fun k hk _ => h2.block k hk (by simp)⟩
/-- a body with its header, or that it is too long -/
def frT (l : List Int) : List Int × Int := if l.length ≤ 65536 then (hdOf l.length ++ l, 0) else ([], 5)
set_option maxRecDepth 100000 in
set_option maxHeartbeats 2000000 in
theorem frame_calls (A : Option Addr) (c n : Nat) (l : List Int) (w : World) (hn : l.length = n) (hr : Kd.C (Kd.int .u8) w A n l) (hc : n ≤ c) (hl : n ≤ 140737488351232) (hT : TAB2 w) :
    Calls Tryd.prog 27 #[.slice A n c] w fun e w' => ∃ A1 c1, e = .returned (.tuple #[.slice A1 (frT l).1.length c1, .int .i64 (frT l).2]) ∧ Kd.C (Kd.int .u8) w' A1 (frT l).1.length (frT l).1 ∧ (frT l).1.length ≤ c1 ∧ Below w.heap.size w w' ∧ ∀ ad, A1 = some ad → w.heap.size ≤ ad.block := by
  unfold frT
  rw [hn]
  by_cases h : n ≤ 65536
  · rw [if_pos h]
    have HC := Aside0.mk (make_sp n h w hT)
    have hhl := hd_len n h
    have HH := Aside0.mk hhl
    obtain ⟨hh, hhd⟩ : ∃ hh, (hdOf n).length = hh := ⟨_, rfl⟩
    rw [hhd] at HC hhl HH
    have HR := Aside0.mk hr
    have HNN := Aside0.mk h
    have HN := Aside0.mk hn
    have e0 : ((0 : Int) != 0) = false := rfl
    have hlen : (hdOf n ++ l).length = hh + n := by rw [List.length_append, hhd, hn]
    have HLEN := Aside0.mk hlen
    clear hr hl hhl hhd hlen hn hT
    go_enter Tryd.func27, Tryd.ntmps27
    go_wp2_with (first
      | (go_at_call 35; (with_reducible refine HC.out.mono ?_); rintro e w1 ⟨b, cap, rfl, hsp, hbw, hb1⟩; have HSP := Aside0.mk hsp; have HBW := Aside0.mk hbw; have HB1 := Aside0.mk hb1; clear hsp hbw hb1)
      | (at_builtin; refine sp_append rfl (.tmp 14) (.tmp 15) rfl b hh cap (hdOf n) HSP.out rfl A n c l HN.out (Kd.C_below HR.out HB1.out) rfl (by have := HH.out; have := HNN.out; omega) ?_; intro A1 c1 w2 hC hc1 hblk hg2; rw [HLEN.out] at hC hc1 ⊢; have HC2 := Aside0.mk hC; have HC1 := Aside0.mk hc1; have HBK := Aside0.mk hblk; have HG2 := Aside0.mk hg2; clear hC hc1 hblk hg2))
    go_ret2
    rw [HLEN.out]
    refine ⟨_, _, rfl, HC2.out, HC1.out, ?_, fun ad e => ?_⟩
    · exact (HB1.out.mono (Nat.le_refl _)).grown HG2.out HB1.out.size fun j e => by cases e; exact HBW.out
    · cases e
      have := HB1.out.size
      have := HBW.out
      rcases HBK.out with e | e
      · rw [e]; exact HBW.out
      · omega
  · rw [if_neg h]
    have HC := Aside0.mk (make_no (n : Int) (by omega) w)
    have e0 : ((9 : Int) != 0) = true := rfl
    clear hr hl hn hT
    go_enter Tryd.func27, Tryd.ntmps27
    go_wp2_with (go_at_call 35; (with_reducible refine HC.out.mono ?_); rintro e w1 ⟨rfl, hb1⟩)
    go_ret2
    exact ⟨none, 0, rfl, C_empty _ _, Nat.le_refl _, hb1, fun ad e => by cases e⟩
set_option maxRecDepth 100000 in
set_option maxHeartbeats 2000000 in
theorem refFrame_calls (A : Option Addr) (c n : Nat) (l : List Int) (w : World) (hn : l.length = n) (hr : Kd.C (Kd.int .u8) w A n l) (hc : n ≤ c) (hl : n ≤ 140737488351232) :
    Calls Tryd.prog 28 #[.slice A n c] w fun e w' => ∃ A1 c1, e = .returned (.tuple #[.slice A1 (frT l).1.length c1, .int .i64 (frT l).2]) ∧ Kd.C (Kd.int .u8) w' A1 (frT l).1.length (frT l).1 ∧ (frT l).1.length ≤ c1 ∧ Below w.heap.size w w' ∧ ∀ ad, A1 = some ad → w.heap.size ≤ ad.block := by
  unfold frT
  rw [hn]
  by_cases h : n ≤ 65536
  · rw [if_pos h]
    have HC := Aside0.mk (refMake_sp n h w)
    have hhl := hd_len n h
    have HH := Aside0.mk hhl
    obtain ⟨hh, hhd⟩ : ∃ hh, (hdOf n).length = hh := ⟨_, rfl⟩
    rw [hhd] at HC hhl HH
    have HR := Aside0.mk hr
    have HNN := Aside0.mk h
    have HN := Aside0.mk hn
    have e0 : ((0 : Int) != 0) = false := rfl
    have hlen : (hdOf n ++ l).length = hh + n := by rw [List.length_append, hhd, hn]
    have HLEN := Aside0.mk hlen
    clear hr hl hhl hhd hlen hn
    go_enter Tryd.func28, Tryd.ntmps28
    go_wp2_with (first
      | (go_at_call 36; (with_reducible refine HC.out.mono ?_); rintro e w1 ⟨b, cap, rfl, hsp, hbw, hb1⟩; have HSP := Aside0.mk hsp; have HBW := Aside0.mk hbw; have HB1 := Aside0.mk hb1; clear hsp hbw hb1)
      | (at_builtin; refine sp_append rfl (.tmp 14) (.tmp 15) rfl b hh cap (hdOf n) HSP.out rfl A n c l HN.out (Kd.C_below HR.out HB1.out) rfl (by have := HH.out; have := HNN.out; omega) ?_; intro A1 c1 w2 hC hc1 hblk hg2; rw [HLEN.out] at hC hc1 ⊢; have HC2 := Aside0.mk hC; have HC1 := Aside0.mk hc1; have HBK := Aside0.mk hblk; have HG2 := Aside0.mk hg2; clear hC hc1 hblk hg2))
    go_ret2
    rw [HLEN.out]
    refine ⟨_, _, rfl, HC2.out, HC1.out, ?_, fun ad e => ?_⟩
    · exact (HB1.out.mono (Nat.le_refl _)).grown HG2.out HB1.out.size fun j e => by cases e; exact HBW.out
    · cases e
      have := HB1.out.size
      have := HBW.out
      rcases HBK.out with e | e
      · rw [e]; exact HBW.out
      · omega
  · rw [if_neg h]
    have HC := Aside0.mk (refMake_no (n : Int) (by omega) w)
    have e0 : ((9 : Int) != 0) = true := rfl
    clear hr hl hn
    go_enter Tryd.func28, Tryd.ntmps28
    go_wp2_with (go_at_call 36; (with_reducible refine HC.out.mono ?_); rintro e w1 ⟨rfl, hb1⟩)
    go_ret2
    exact ⟨none, 0, rfl, C_empty _ _, Nat.le_refl _, hb1, fun ad e => by cases e⟩
end Go.Proofs.YthkmacgjekienaaDoor.P
