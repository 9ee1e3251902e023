/- FrameBroken. -/
import Derived.Test.YthkmacgjekienaaDoorG2
namespace Go.Proofs.YthkmacgjekienaaDoor.P
attribute [-simp] List.length_drop List.length_take ByteArray.size_append
open Go.RowKit Go.Shelf Go.Proofs.YthkmacgjekienaaDoor.Pure Go.Proofs.YthkmacgjekienaaDoorW.PrintWords Go.Proofs.YthkmacgjekienaaDoorW.PrintLast Go.Proofs.YthkmacgjekienaaDoorW.PrintMore
attribute [local go_sem] max2_int min2_int max_two min_two
set_option linter.unusedVariables false
set_option linter.unusedSimpArgs false
/-- a new reader, and a row of bytes of one's own -/
structure Bk (w wr : World) (vb : Value) (X : List Int) : Prop where
  blk : wr.heap[w.heap.size]? = some (.cells #[.slice none 0 0, .bool true, .bool false] 57 (0, 0))
  row : Kd.R (Kd.int .u8) 5 wr w.heap.size (fun _ => True) vb X
  be : Below w.heap.size w wr
theorem Bk.new (w : World) : Bk w (w.alloc (.cells #[.slice none 0 0, .bool true, .bool false] 57)) (.slice none 0 0) [] := ⟨heap_alloc_new w _, Kd.R_nil _ _ _ _ _, below_alloc (Below.refl _ _) _⟩
theorem Bk.below {w wr w1 : World} {vb : Value} {X : List Int} (h : Bk w wr vb X) (hb : Below wr.heap.size wr w1) : Bk w w1 vb X :=
  ⟨(hb.block _ (blk_lt h.blk)).trans h.blk, Kd.R_below h.row hb, h.be.trans (hb.mono h.be.size)⟩
theorem Bk.step {w wr w1 : World} {vb v1 : Value} {X X1 : List Int} (h : Bk w wr vb X) (hr : Kd.R (Kd.int .u8) 5 w1 w.heap.size (fun _ => True) v1 X1) (hb : Below w.heap.size w w1) (hg : wr.grownBy w1 vb.ownBlock) : Bk w w1 v1 X1 :=
  ⟨blk_grown h.blk hg (Kd.R_ne h.row h.blk (by decide)), hr, hb⟩
theorem Bk.rd {w wr : World} {vb : Value} {X : List Int} (h : Bk w wr vb X) : Rd w.heap.size wr w.heap.size (.slice none 0 0) [] false := ⟨h.blk, Kd.R_nil _ _ _ _ _, Nat.le_refl _⟩
theorem take_rd (l : List (List Int)) (q : Nat) (h : q < l.length) : l.take (q + 1) = l.take q ++ [rd_L1 l (q : Int)] := by
  rw [List.take_add_one]
  congr 1
  unfold rd_L1
  rw [Int.toNat_natCast]
  simp [List.getD, h]
theorem rd_mem (l : List (List Int)) (q : Nat) (h : q < l.length) : rd_L1 l (q : Int) ∈ l := by
  unfold rd_L1
  rw [Int.toNat_natCast]
  simp [List.getD, h]
theorem frT_is (x : List Int) (h : x.length ≤ 65536) : frT x = (hdOf x.length ++ x, 0) := by unfold frT; rw [if_pos h]
theorem app_str {ops : Array Oper} {rest : List Oper} {o : Oper} {a : Act} {Q : Exit → Act → World → Prop} {w W : World} (hg : o.guard = none) (s x : Operand) (ho : o.op = Op.call { callee := Callee.builtin Builtin.append, args := #[s, x], argTypes := #[27, 9] }) (v : Value) (X : List Int) (y : ByteArray) (l k : _) (hs : a.eval s = v) (hx : a.eval x = .string y) (hyl : bytesOf y = l) (HB : Bk w W v X) (hk : (X ++ l).length = k) (hl : k ≤ 140737488355328)
    (h : ∀ A2 c2 w1, Bk w w1 (.slice A2 k c2) (X ++ l) → wpList Tryd.prog ops Q rest (a.put o.dst (.slice A2 k c2)) w1) : wpList Tryd.prog ops Q (o :: rest) a W := by
  subst hyl hk
  refine print_append_str (w0 := w) w.heap.size hg s x 27 9 5 ho Tryd.underlying27 Tryd.underlying9 info5 v X y hs hx (Kd.own_of_R HB.row) HB.be HB.be.size (by rw [List.length_append, bytesOf_length] at hl; exact hl) ?_
  intro v1 w1 ho1 hb1 hg1
  have hr1 : Kd.R (Kd.int .u8) 5 w1 w.heap.size (fun _ => True) v1 (X ++ bytesOf y) := Kd.R_of_own ho1 (fun _ _ => trivial)
  obtain ⟨A2, c2, rfl⟩ := Kd.R_slice hr1
  exact h A2 c2 w1 (HB.step hr1 hb1 hg1)
theorem app_row {ops : Array Oper} {rest : List Oper} {o : Oper} {a : Act} {Q : Exit → Act → World → Prop} {w W : World} (hg : o.guard = none) (s x : Operand) (ho : o.op = Op.call { callee := Callee.builtin Builtin.append, args := #[s, x], argTypes := #[27, 27] }) (v : Value) (X : List Int) (l : List Int) (A : Option Addr) (m c k : Nat) (hs : a.eval s = v) (hx : a.eval x = .slice A m c) (hA : Kd.C (Kd.int .u8) W A m l) (HB : Bk w W v X) (hm : l.length = m) (hk : (X ++ l).length = k) (hl : k ≤ 140737488355328)
    (h : ∀ A2 c2 w1, Bk w w1 (.slice A2 k c2) (X ++ l) → W.grownBy w1 v.ownBlock → wpList Tryd.prog ops Q rest (a.put o.dst (.slice A2 k c2)) w1) : wpList Tryd.prog ops Q (o :: rest) a W := by
  subst hk hm
  refine Kd.R_append_row (Value.int .u8) 0 (w0 := w) w.heap.size hg s x 27 5 (.int .u8 0) 1 ho Tryd.underlying27 info5 rfl (by decide) v X l A _ c (fun _ => True) hs hx (fun _ _ => trivial) HB.row hA HB.be HB.be.size (by rw [List.length_append] at hl; omega) ?_
  intro v1 w1 ho1 hb1 hg1 ha1
  obtain ⟨A2, c2, rfl⟩ := Kd.R_slice ho1
  exact h A2 c2 w1 (HB.step ho1 hb1 hg1) hg1
theorem brk_write {w W : World} {A : Option Addr} {k c : Nat} {X : List Int} (HB : Bk w W (.slice A k c) X) (hk : X.length = k) (hT : TAB w) (hby : Byt X) (hsz : k ≤ 140737488353792) (bs : List (List Int)) (left : List Int) (hbod : bodT (([] : List Int) ++ X) = (bs, left, 60)) (q : Nat) (hq : bs.length = q) (hq10 : q ≤ 1000) :
    Calls Tryd.prog 14 #[.pointer (some ⟨w.heap.size, 0, none⟩), .slice A k c] W fun e w' => ∃ Ao co, e = .returned (.tuple #[.slice Ao q co, .int .i64 60]) ∧ RdC w w' w.heap.size ∧ Below w.heap.size w w' := by
  subst hk hq
  refine (write_walk HB.rd A _ c X rfl (Kd.R_reads' HB.row).2.2 (Kd.R_reads' HB.row).2.1 hT HB.be hby (by simpa using hsz) bs left 60 hbod (by omega)).mono ?_
  rintro e w' ⟨vo, v', rfl, h1, h2, _, h3, _⟩
  rw [if_neg (by decide), decide_eq_true (by decide)] at h2
  rw [if_neg (by decide)]
  obtain ⟨Ao, co, rfl⟩ := Kd.R_slice h1
  exact ⟨Ao, co, rfl, ⟨v', h2⟩, h3⟩
theorem frm (A : Option Addr) (c m fk : Nat) (y fl : List Int) (w : World) (hm : y.length = m) (hfl : (frT y) = (fl, 0)) (hfk : fl.length = fk) (hr : Kd.C (Kd.int .u8) w A m y) (hc : m ≤ c) (hl : m ≤ 140737488351232) (hT : TAB2 w) :
    Calls Tryd.prog 27 #[.slice A m c] w fun e w' => ∃ A1 c1, e = .returned (.tuple #[.slice A1 fk c1, .int .i64 0]) ∧ Kd.C (Kd.int .u8) w' A1 fk fl ∧ fk ≤ c1 ∧ Below w.heap.size w w' := by
  refine (frame_calls A c m y w hm hr hc hl hT).mono ?_
  rintro e w' ⟨A1, c1, h1, h2, h3, h4, _⟩
  rw [hfl] at h1 h2 h3
  subst hfk
  exact ⟨A1, c1, h1, h2, h3, h4⟩
set_option maxRecDepth 100000 in
set_option maxHeartbeats 4000000 in
theorem broken_walk (l : List (List Int)) (A : Option Addr) (c : Nat) (t : List Int) (At : Option Addr) (ct : Nat) (w : World) (hr : Kd.C (Kd.slice 5 (Kd.int .u8)) w A l.length l) (hc : l.length ≤ c) (hby : ∀ x ∈ l, Byt x)
    (hrt : Kd.C (Kd.int .u8) w At t.length t) (hct : t.length ≤ ct) (hlt : t.length ≤ 140737488351232) (hbt : Byt t) (hT : TAB2 w) :
    Calls Tryd.prog 9 #[.slice A l.length c, .slice At t.length ct] w fun e w' => e = .returned (.bool true) ∧ Below w.heap.size w w' := by
  have HR := Aside0.mk hr
  have HRT := Aside0.mk hrt
  have HT := Aside0.mk hT
  have HBY := Aside0.mk hby
  have HBT := Aside0.mk hbt
  obtain ⟨n, hn⟩ : ∃ n, l.length = n := ⟨_, rfl⟩
  obtain ⟨nt, hnt⟩ : ∃ n, t.length = n := ⟨_, rfl⟩
  rw [hn] at hc HR ⊢
  rw [hnt] at hct hlt HRT ⊢
  have HN := Aside0.mk hn
  have HNT := Aside0.mk hnt
  have HLT := Aside0.mk hlt
  clear hr hrt hT hby hbt hn hnt hlt
  go_enter Tryd.func9, Tryd.ntmps9
  go_wp2_with (go_at_call 11; (with_reducible refine (new_calls w).mono ?_); rintro e wn ⟨rfl, rfl⟩)
  have hb0 := Bk.new w
  have HB0 := Aside0.mk hb0
  clear hb0
  generalize w.alloc (.cells #[.slice none 0 0, .bool true, .bool false] 57) = wn at HB0 ⊢
  go_loopw [6, 7, 8, 9, 10] (fun b m i f u wr => ∃ (q k : Nat) (Ab : Option Addr) (cb : Nat), q ≤ n ∧ q ≤ 10 ∧ m = .int .i64 q ∧ i = .int .i64 q ∧ b = .slice Ab k cb ∧ Aside0 (k = (frs 200 (l.take q)).length) ∧ Aside0 (Bk w wr (.slice Ab k cb) (frs 200 (l.take q)))) (fun b m i f u _ => 10 - (intOf i).toNat)
  case atStart => exact ⟨0, 0, none, 0, Nat.zero_le _, Nat.zero_le _, rfl, rfl, rfl, ⟨by simp [frs]⟩, ⟨by simpa [frs] using HB0.out⟩⟩
  case round =>
    obtain ⟨q, k, Ab, cb, hq, hq10, rfl, rfl, rfl, HK, HB⟩ := hrel
    by_cases hlt : q < n ∧ q < 10
    · have HRw := Aside0.mk (Kd.C_below HR.out HB.out.be)
      obtain ⟨ad, A0, c0, hA, hcell, hc0, hC⟩ := at_L1 HRw.out (q : Int) (by omega) (by omega)
      subst hA
      have hmem := rd_mem l q (by rw [HN.out]; omega)
      have htk := take_rd l q (by rw [HN.out]; omega)
      obtain ⟨x, hx⟩ : ∃ x, rd_L1 l (q : Int) = x := ⟨_, rfl⟩
      rw [hx] at hcell hc0 hC hmem htk
      obtain ⟨xn, hxn⟩ : ∃ n, x.length = n := ⟨_, rfl⟩
      rw [hxn] at hcell hc0 hC
      obtain ⟨m, hm⟩ : ∃ m, min 200 xn = m := ⟨_, rfl⟩
      have hmx : m ≤ xn := by omega
      have hm2 : m ≤ 200 := by omega
      have hms : (m = xn ∧ ((200 : Int) < (xn : Int)) = False ∧ (xn : Int) ≤ (c0 : Int)) ∨ (m = 200 ∧ ((200 : Int) < (xn : Int)) = True ∧ (200 : Int) ≤ (c0 : Int)) := by
        rcases Nat.lt_or_ge 200 xn with h | h
        · exact .inr ⟨by omega, eq_true (by omega), by omega⟩
        · exact .inl ⟨by omega, eq_false (by omega), by omega⟩
      have hty : x.take 200 = x.take m := by
        rcases Nat.le_total 200 xn with h | h
        · rw [show m = 200 by omega]
        · rw [List.take_of_length_le (by omega), List.take_of_length_le (by omega)]
      have htl : (x.take m).length = m := by rw [List.length_take]; omega
      have hCy : Kd.C (Kd.int .u8) wr A0 m (x.take m) := by
        have := Kd.C_take (m := m) (by rw [hxn]; exact hC : Kd.C (Kd.int .u8) wr A0 x.length x) (by omega)
        rwa [htl] at this
      obtain ⟨y, hy⟩ : ∃ y, x.take m = y := ⟨_, rfl⟩
      rw [hy] at hty htl hCy
      obtain ⟨fl, hfl⟩ : ∃ fl, hdOf y.length ++ y = fl := ⟨_, rfl⟩
      obtain ⟨fk, hfk⟩ : ∃ fk, fl.length = fk := ⟨_, rfl⟩
      have hfk2 : fk ≤ 240 := by rw [← hfk, ← hfl, List.length_append]; have := hd_len y.length (by omega); omega
      have hft : frT y = (fl, 0) := by rw [frT_is y (by omega), hfl]
      have hX : frs 200 (l.take (q + 1)) = frs 200 (l.take q) ++ fl := by rw [htk, frs_snoc, hty, hfl]
      have hXl : (frs 200 (l.take q)).length ≤ 2400 := by
        have := frs_len 200 (by decide) (l.take q)
        have h2 : (l.take q).length ≤ q := by rw [List.length_take]; omega
        have h3 : (l.take q).length * (200 + 40) ≤ 10 * (200 + 40) := Nat.mul_le_mul_right _ (by omega)
        omega
      obtain ⟨X, hXX⟩ : ∃ X, frs 200 (l.take q) = X := ⟨_, rfl⟩
      rw [hXX] at hX hXl HK HB
      have FC := Aside0.mk (fun W (hW : Below wr.heap.size wr W) => frm A0 c0 m fk y fl W htl hft hfk (Kd.C_below hCy hW) (by omega) (by omega) (HT.out.below (HB.out.below hW).be))
      obtain ⟨i0, hi, _, hsz, _⟩ := info_parts info5
      have hcut := cut_to (P := Tryd.prog) 27 5 .i64 Tryd.underlying27 hi A0 xn c0 (m : Int) (by omega) (by omega) hc0
      obtain ⟨kx, hkx⟩ : ∃ kx, (X ++ fl).length = kx := ⟨_, rfl⟩
      have HKX := Aside0.mk hkx
      have HX := Aside0.mk hX
      have HXL := Aside0.mk hXl
      have HFK := Aside0.mk (And.intro hfk hfk2)
      have h1 : (q : Int) < (n : Int) := by omega
      have h0 : (0 : Int) ≤ (q : Int) := by omega
      have t1 : decide (q < n) = true := decide_eq_true hlt.1
      have t2 : decide ((q : Int) < 10) = true := decide_eq_true (by omega)
      have hw1 : wrap64 ((q : Int) + 1) = ((q + 1 : Nat) : Int) := by unfold wrap64; omega
      simp only [Int.toNat_natCast] at hcell hcut
      clear hC hmem htk hx hxn hm hty htl hCy hy hfl hfk hfk2 hft hX hkx hXl hXX hi hsz hmx hm2
      rcases hms with ⟨rfl, c2, c3⟩ | ⟨rfl, c2, c3⟩
      all_goals
        try simp only [Nat.cast_ofNat] at hcut
        go_upto_region 7 with (fail)
        go_region_with (go_at_call 27; (with_reducible refine (FC.out _ (by repeat (first | (with_reducible exact Below.refl _ _) | apply below_drew | apply pw_below_drewN))).mono ?_); rintro e w1 ⟨A1, c1, rfl, hf1, hf2, hf3⟩; have HF := Aside0.mk hf1; have HB1 := Aside0.mk ((HB.out.below (by repeat (first | (with_reducible exact Below.refl _ _) | apply below_drew | apply pw_below_drewN))).below hf3); clear hf1 hf2 hf3)
        all_goals
          go_wp2_with (at_builtin; refine Kd.R_append_row (Value.int .u8) 0 (w0 := w) w.heap.size rfl _ _ 27 5 (.int .u8 0) 1 rfl Tryd.underlying27 info5 rfl (by decide) _ X fl _ _ _ (fun _ => True) rfl rfl (fun _ _ => trivial) HB1.out.row HF.out HB1.out.be HB1.out.be.size (by have := HXL.out; have := HFK.out.2; omega) ?_; intro v1 w2 ho1 hb1 hg1 ha1; obtain ⟨A2, c2, rfl⟩ := Kd.R_slice ho1; rw [HKX.out] at ho1 ⊢; have HB2 := Aside0.mk (HB1.out.step ho1 hb1 hg1); clear ho1 hb1 hg1 ha1)
          exact ⟨⟨q + 1, _, A2, c2, by omega, by omega, by simp, by simp, rfl, ⟨by rw [HX.out, HKX.out]⟩, ⟨by rw [HX.out]; exact HB2.out⟩⟩, by simp [intOf]; omega⟩
    · have hxl : (frs 200 (l.take q)).length ≤ 2400 := by
        have := frs_len 200 (by decide) (l.take q)
        have h2 : (l.take q).length ≤ q := by rw [List.length_take]; omega
        have h3 : (l.take q).length * (200 + 40) ≤ 10 * (200 + 40) := Nat.mul_le_mul_right _ (by omega)
        omega
      have hXB : Byt (frs 200 (l.take q)) := frs_byt 200 _ fun x hx => HBY.out x (List.mem_of_mem_take hx)
      have hbod : bodT (([] : List Int) ++ ((frs 200 (l.take q) ++ [88, 13, 10, 13, 10]) ++ t)) = ((l.take q).map (List.take 200), [88, 13, 10, 13, 10] ++ t, 60) := by
        rw [List.nil_append, List.append_assoc, bod_frs 200 (by decide) _ (Byt.app (byt_lit (by decide +kernel)) HBT.out) (l.take q) (fun x hx => HBY.out x (List.mem_of_mem_take hx)) (by have := HNT.out; have := HLT.out; simp; omega), bod_x t HBT.out (by have := HNT.out; have := HLT.out; omega)]
        simp
      have hbs : ((l.take q).map (List.take 200)).length = q := by rw [List.length_map, List.length_take, HN.out]; omega
      obtain ⟨bs, hbss⟩ : ∃ bs, (l.take q).map (List.take 200) = bs := ⟨_, rfl⟩
      obtain ⟨X, hXX⟩ : ∃ X, frs 200 (l.take q) = X := ⟨_, rfl⟩
      rw [hXX] at hxl hXB hbod HK HB
      rw [hbss] at hbod hbs
      have HBOD := Aside0.mk hbod
      have HBS := Aside0.mk hbs
      have HXL := Aside0.mk hxl
      have HXB := Aside0.mk hXB
      have HQ := Aside0.mk hq10
      have e5 : bytesOf (⟨#[88, 13, 10, 13, 10]⟩ : ByteArray) = [88, 13, 10, 13, 10] := by decide +kernel
      have HE5 := Aside0.mk e5
      have hout : (q < n) = False ∨ ((q < n) = True ∧ ((q : Int) < 10) = False) := by
        rcases Nat.lt_or_ge q n with h | h
        · exact .inr ⟨eq_true h, eq_false (by omega)⟩
        · exact .inl (eq_false (by omega))
      clear hXB hbod hbs hbss hXX e5 hlt hq hq10
      obtain ⟨k1, hk1⟩ : ∃ k, (X ++ ([88, 13, 10, 13, 10] : List Int)).length = k := ⟨_, rfl⟩
      obtain ⟨k2, hk2⟩ : ∃ k, ((X ++ ([88, 13, 10, 13, 10] : List Int)) ++ t).length = k := ⟨_, rfl⟩
      have hk2b : k2 ≤ 140737488353792 := by have := HNT.out; have := HLT.out; rw [← hk2, List.length_append, List.length_append]; simp; omega
      have hk1b : k1 ≤ k2 := by rw [← hk1, ← hk2]; simp only [List.length_append]; omega
      have HK1 := Aside0.mk hk1
      have HK2 := Aside0.mk hk2
      have HK2b := Aside0.mk hk2b
      have HK1b := Aside0.mk hk1b
      clear hxl hk1 hk2 hk2b hk1b
      rcases hout with c1 | ⟨c1, c2⟩
      all_goals
        go_wp2_with (first
          | (at_builtin; refine app_str rfl (.tmp 46) _ rfl _ X _ [88, 13, 10, 13, 10] k1 rfl rfl HE5.out HB.out HK1.out (by have := HK1b.out; have := HK2b.out; omega) ?_; intro A2 cA2 w2 hb2; have HB2 := Aside0.mk hb2; clear hb2)
          | (at_builtin; refine app_row rfl (.tmp 50) (.tmp 51) rfl _ _ t At nt ct k2 rfl rfl (Kd.C_below HRT.out HB2.out.be) HB2.out HNT.out HK2.out (by have := HK2b.out; omega) ?_; intro A3 c3 w3 hb3 hg3; have HB3 := Aside0.mk hb3; clear hb3 hg3)
          | (go_at_call 14; (with_reducible refine (brk_write HB3.out HK2.out HT.out.tab (Byt.app (Byt.app HXB.out (byt_lit (by decide +kernel))) HBT.out) HK2b.out bs _ HBOD.out q HBS.out (by have := HQ.out; omega)).mono ?_); rintro e w4 ⟨Ao, co, rfl, r_, b_⟩; have R4 := Aside0.mk r_; have B4 := Aside0.mk b_; clear r_ b_)
          | (go_at_call 14; (with_reducible refine (writeC R4.out _).mono ?_); rintro e w5 ⟨rfl, b_⟩; have R5 := Aside0.mk (R4.out.below b_); have B5 := Aside0.mk (B4.out.trans (b_.mono B4.out.size)); clear b_)
          | (go_at_call 19; (with_reducible refine (closedC R5.out).mono ?_); rintro e w_ ⟨rfl, rfl⟩)
          | (go_at_call 17; (with_reducible refine (leftC R5.out).mono ?_); rintro e w_ ⟨rfl, rfl⟩)
          | (go_at_call 21; (with_reducible refine (awake_calls HT.out.tab B5.out).mono ?_); rintro e w6 ⟨rfl, b_⟩; have B6 := Aside0.mk b_; clear b_))
        go_ret
        exact ⟨rfl, B6.out⟩
end Go.Proofs.YthkmacgjekienaaDoor.P
