/- ValueNames: the walk. -/
import Derived.Test.YtfpmompdgmklmaaDoorVX
import Derived.Test.YtfpmompdgmklmaaDoorLK
import Derived.Test.YtfpmompdgmklmaaDoorLG
import Derived.Test.YtfpmompdgmklmaaDoorLD
namespace Go.Proofs.YtfpmompdgmklmaaDoor.P
open Go.RowKit Go.Proofs.YtfpmompdgmklmaaDoorW.PrintWords Go.Proofs.YtfpmompdgmklmaaDoorW.PrintLast Go.Proofs.YtfpmompdgmklmaaDoorW.PrintMore
set_option linter.unusedVariables false
set_option linter.unusedSimpArgs false
theorem step_want {P : Program} {K : Act → World → Prop} {Q : Exit → Act → World → Prop} {a : Act} {w : World} {o : Oper} {ops : Array Oper} {E : Prop} (hw : Region.wanted o (yielded ops a.tmps) = true) (h : o.wp P a w K Q) : if Region.wanted o (yielded ops a.tmps) = true then Oper.wp P o a w K Q else E := by
 rw [if_pos hw]; exact h
theorem Vds.below {w W : World} {x : S25} {v : Value} (h : Vds w x v) (hb : Below w.heap.size w W) : Vds W x v := by
 obtain ⟨A3, c3, A4, c4, rfl, h3, h4⟩ := h
 exact ⟨A3, c3, A4, c4, rfl, Kd.V_below h3 hb, Kd.V_below h4 hb⟩
def NAI : Array Value := #[.int .i64 0, .int .i64 9, .int .i64 10, .int .i64 (-1), .int .i64 (-9), .int .i64 (-10), .int .i64 9223372036854775807, .int .i64 (-9223372036854775808)]
def nI (i : Nat) : Int := ([0, 9, 10, -1, -9, -10, 9223372036854775807, -9223372036854775808] : List Int).getD i 0
theorem NI_at : ∀ i, i < 8 → NAI[i]? = some (.int .i64 (nI i))
 | 0, _ => rfl | 1, _ => rfl | 2, _ => rfl | 3, _ => rfl | 4, _ => rfl | 5, _ => rfl | 6, _ => rfl | 7, _ => rfl
theorem NI_wf : ∀ i, i < 8 → (Lit.int .i64 (nI i)).wf = true
 | 0, _ => by decide | 1, _ => by decide | 2, _ => by decide | 3, _ => by decide | 4, _ => by decide | 5, _ => by decide | 6, _ => by decide | 7, _ => by decide
theorem fn_a : ([⟨#[97]⟩] : List ByteArray).length * 16 ≤ 140737488351232 ∧ ∀ s ∈ ([⟨#[97]⟩] : List ByteArray), s.size ≤ 140737488351232 := ⟨by decide, fun s hs => by simp at hs; subst hs; decide⟩
theorem fn_0 : ([] : List ByteArray).length * 16 ≤ 140737488351232 ∧ ∀ s ∈ ([] : List ByteArray), s.size ≤ 140737488351232 := ⟨by decide, fun s hs => by simp at hs⟩
theorem fl_0 : ([] : List S25).length * 80 ≤ 140737488351232 ∧ ∀ x ∈ ([] : List S25), fitV x = true := ⟨by decide, fun s hs => by simp at hs⟩
theorem fl_s : ([numV 1] : List S25).length * 80 ≤ 140737488351232 ∧ ∀ x ∈ ([numV 1] : List S25), fitV x = true := ⟨by decide, fun s hs => by simp at hs; subst hs; decide +kernel⟩
theorem fit_odd : fitV ⟨5, false, ⟨#[]⟩, [numV 1], [⟨#[97]⟩, ⟨#[98]⟩]⟩ = true := by decide +kernel
theorem row1 {α : Type} (d : Kd α) {W : World} {g : Nat} {e : TypeId} {x : α} {cs : List Value} (hb : W.heap[g]? = some (.cells cs.toArray e (0, 0))) (hK : d.K W x cs) (hl : cs.length = d.sz) : Kd.C d W (some ⟨g, 0, none⟩) 1 [x] := by
 refine ⟨rfl, by decide, fun _ => ⟨_, rfl, fun j p hj => ?_⟩⟩
 match j, hj with
 | 0, hj =>
  cases hj
  refine ⟨cs, hl, hK, fun i u hu => ?_⟩
  rw [addr0, Nat.zero_mul, Nat.zero_add, q1_ hb i]
  simpa using hu
 | j + 1, hj => simp at hj
def SomeB (W : World) (g : Nat) : Prop := W.heap[g]? = some (.cells #[.int .i64 2, .bool false, .string (numS 1), .slice none 0 0, .slice none 0 0] 25 (0, 0))
def NameB (W : World) (g : Nat) (s : ByteArray) : Prop := W.heap[g]? = some (.cells #[.string s] 9 (0, 0))
theorem SomeB.below {w W : World} {g : Nat} (h : SomeB w g) (hb : Below w.heap.size w W) : SomeB W g := q2_ h hb
theorem some_C {W : World} {g : Nat} (h : SomeB W g) : Kd.C k25 W (some ⟨g, 0, none⟩) 1 [numV 1] := row1 k25 (cs := [.int .i64 2, .bool false, .string (numS 1), .slice none 0 0, .slice none 0 0]) h (rds_lit W 2 false (numS 1)).isK rfl
theorem name_C {W : World} {g : Nat} {s : ByteArray} (h : NameB W g s) : Kd.C Kd.string W (some ⟨g, 0, none⟩) 1 [s] := row1 Kd.string (cs := [.string s]) h rfl rfl
theorem some_V {W : World} {g : Nat} (h : SomeB W g) : Kd.V k25 25 W W.heap.size (fun _ => True) (.slice (some ⟨g, 0, none⟩) 1 1) [numV 1] :=
 ⟨_, _, rfl, Nat.le_refl _, fun W' hk => some_C ((hk g trivial (qY_ h)).trans h)⟩
theorem name_V {W : World} {g : Nat} {s : ByteArray} (h : NameB W g s) : Kd.V Kd.string 9 W W.heap.size (fun _ => True) (.slice (some ⟨g, 0, none⟩) 1 1) [s] :=
 ⟨_, _, rfl, Nat.le_refl _, fun W' hk => name_C ((hk g trivial (qY_ h)).trans h)⟩
theorem mk1 {W : World} {An : Option Addr} {cn gs : Nat} {q : Int} (hn : Kd.C Kd.string W An 1 [⟨#[97]⟩]) (hcn : 1 ≤ cn) (hs : SomeB W gs) (hq : (Lit.int .i64 q).wf = true) (hT : TAB W) : Calls Tryd.prog 10 #[.slice An 1 cn, .slice (some ⟨gs, 0, none⟩) 1 1, .int .i64 q] W fun e w' => e = .returned (.bool true) ∧ Below W.heap.size W w' :=
 makes_eq [⟨#[97]⟩] [numV 1] q An (some ⟨gs, 0, none⟩) cn 1 W hn hcn fn_a (some_C hs) (Nat.le_refl _) fl_s hq hT (by decide +kernel) rfl (by decide)
theorem mk2 {W : World} {q : Int} (hq : (Lit.int .i64 q).wf = true) (hT : TAB W) : Calls Tryd.prog 10 #[.slice none 0 0, .slice none 0 0, .int .i64 q] W fun e w' => e = .returned (.bool true) ∧ Below W.heap.size W w' :=
 makes_eq0 [] [] q none none 0 0 W (Kd.C_nil _ _) (Nat.le_refl _) fn_0 (Kd.C_nil _ _) (Nat.le_refl _) fl_0 hq hT (by decide +kernel) rfl rfl
theorem mk3 {W : World} {gs : Nat} {q : Int} (hs : SomeB W gs) (hq : (Lit.int .i64 q).wf = true) (hT : TAB W) : Calls Tryd.prog 10 #[.slice none 0 0, .slice (some ⟨gs, 0, none⟩) 1 1, .int .i64 q] W fun e w' => e = .returned (.bool true) ∧ Below W.heap.size W w' :=
 makes_no0 [] [numV 1] q none (some ⟨gs, 0, none⟩) 0 1 W (Kd.C_nil _ _) (Nat.le_refl _) fn_0 (some_C hs) (Nat.le_refl _) fl_s hq hT (by decide +kernel) (by decide) rfl
def BX (Wb W : World) (gv : Nat) (k : Int) (i : Bool) : Prop := ∃ (t : ByteArray) (A3 : Option Addr) (L : List S25) (c3 : Nat) (A4 : Option Addr) (N : List ByteArray) (c4 : Nat),
 W.heap[gv]? = some (.cells #[.int .i64 k, .bool i, .string t, .slice A3 L.length c3, .slice A4 N.length c4] 25 (0, 0)) ∧ Vds W ⟨k, i, t, L, N⟩ (.agg #[.int .i64 k, .bool i, .string t, .slice A3 L.length c3, .slice A4 N.length c4]) ∧ fitV ⟨k, i, t, L, N⟩ = true ∧ Below Wb.heap.size Wb W
def BX1 (Wb W : World) (gv : Nat) (k : Int) (i : Bool) : Prop := ∃ (t : ByteArray), t.size ≤ 10 ∧ W.heap[gv]? = some (.cells #[.int .i64 k, .bool i, .string t, .slice none 0 0, .slice none 0 0] 25 (0, 0)) ∧ Below Wb.heap.size Wb W
def BX2 (Wb W : World) (gv gs : Nat) (k : Int) (i : Bool) : Prop := ∃ (t : ByteArray) (L : List S25) (v3 : Value), t.size ≤ 10 ∧ (L = [] ∧ v3 = .slice none 0 0 ∨ L = [numV 1] ∧ v3 = .slice (some ⟨gs, 0, none⟩) 1 1) ∧ W.heap[gv]? = some (.cells #[.int .i64 k, .bool i, .string t, v3, .slice none 0 0] 25 (0, 0)) ∧ Below Wb.heap.size Wb W
theorem fit_some : fitL [numV 1] = true := by decide +kernel
theorem bx_any {Wb W : World} {gv : Nat} {k : Int} {i : Bool} {t : ByteArray} {L : List S25} {A3 : Option Addr} {c3 : Nat} {A4 : Option Addr} {N : List ByteArray} {c4 : Nat} (ht : t.size ≤ 10) (hl : L = [] ∨ L = [numV 1]) (hV : Kd.V k25 25 W W.heap.size (fun _ => True) (.slice A3 L.length c3) L) (hN : Kd.V Kd.string 9 W W.heap.size (fun _ => True) (.slice A4 N.length c4) N) (hn : N = [] ∨ N = [⟨#[110]⟩])
  (hb : W.heap[gv]? = some (.cells #[.int .i64 k, .bool i, .string t, .slice A3 L.length c3, .slice A4 N.length c4] 25 (0, 0))) (hB : Below Wb.heap.size Wb W) : q0_ (BX Wb W gv k i) :=
 ⟨⟨t, A3, L, c3, A4, N, c4, hb, ⟨A3, c3, A4, c4, rfl, hV, hN⟩, fit_mk (by omega) (by rcases hl with rfl | rfl <;> decide) (by rcases hn with rfl | rfl <;> decide) (fun s hs => by rcases hn with rfl | rfl <;> simp at hs; subst hs; decide) (by rcases hl with rfl | rfl; exact rfl; exact fit_some), hB⟩⟩
theorem bx_no {Wb W w2 : World} {gv gs : Nat} {k : Int} {i : Bool} {t : ByteArray} {L : List S25} {v3 : Value} (ht : t.size ≤ 10) (hL : L = [] ∧ v3 = .slice none 0 0 ∨ L = [numV 1] ∧ v3 = .slice (some ⟨gs, 0, none⟩) 1 1) (hb : W.heap[gv]? = some (.cells #[.int .i64 k, .bool i, .string t, v3, .slice none 0 0] 25 (0, 0))) (hs : SomeB w2 gs) (h2 : Below w2.heap.size w2 W) (hB : Below Wb.heap.size Wb W) : q0_ (BX Wb W gv k i) := by
 rcases hL with ⟨rfl, rfl⟩ | ⟨rfl, rfl⟩
 · exact bx_any (L := []) (N := []) ht (.inl rfl) (Kd.V_nil _ _ _ _ _) (Kd.V_nil _ _ _ _ _) (.inl rfl) hb hB
 · exact bx_any (L := [numV 1]) (N := []) ht (.inr rfl) (some_V (q2_ hs h2)) (Kd.V_nil _ _ _ _ _) (.inl rfl) hb hB
theorem bx_yes {Wb W w2 : World} {gv gs : Nat} {k : Int} {i : Bool} {t : ByteArray} {L : List S25} {v3 : Value} (ht : t.size ≤ 10) (hL : L = [] ∧ v3 = .slice none 0 0 ∨ L = [numV 1] ∧ v3 = .slice (some ⟨gs, 0, none⟩) 1 1) (hb : W.heap[gv]? = some (.cells #[.int .i64 k, .bool i, .string t, v3, .slice none 0 0] 25 (0, 0))) (hs : SomeB w2 gs) (h2 : Below w2.heap.size w2 W) (hB : Below Wb.heap.size Wb W) (hg : Wb.heap.size ≤ gv) (h22 : w2.heap.size ≤ Wb.heap.size) :
  q0_ (BX Wb ((W.alloc (.cells #[.string (⟨#[110]⟩ : ByteArray)] 9)).setCell ⟨gv, 4, none⟩ (.slice (some ⟨W.heap.size, 0, none⟩) 1 1)) gv k i) := by
 have hgl := qY_ hb
 have hn : NameB ((W.alloc (.cells #[.string (⟨#[110]⟩ : ByteArray)] 9)).setCell ⟨gv, 4, none⟩ (.slice (some ⟨W.heap.size, 0, none⟩) 1 1)) W.heap.size ⟨#[110]⟩ := (Below.heap_setCell _ ⟨gv, 4, none⟩ _ W.heap.size (by show W.heap.size ≠ gv; omega)).trans (blk_new W _)
 have hbl := q6_ (Below.refl W.heap.size W) (.cells #[.string (⟨#[110]⟩ : ByteArray)] 9)
 have hb' := qv_ (q2_ hb hbl) 4 (.slice (some ⟨W.heap.size, 0, none⟩) 1 1) rfl
 have hB' : Below Wb.heap.size Wb ((W.alloc (.cells #[.string (⟨#[110]⟩ : ByteArray)] 9)).setCell ⟨gv, 4, none⟩ (.slice (some ⟨W.heap.size, 0, none⟩) 1 1)) := qq_ (q4_ hB hbl) hg
 have h2' : Below w2.heap.size w2 ((W.alloc (.cells #[.string (⟨#[110]⟩ : ByteArray)] 9)).setCell ⟨gv, 4, none⟩ (.slice (some ⟨W.heap.size, 0, none⟩) 1 1)) := qq_ (q4_ h2 hbl) (Nat.le_trans h22 hg)
 rcases hL with ⟨rfl, rfl⟩ | ⟨rfl, rfl⟩
 · exact bx_any (L := []) (N := [⟨#[110]⟩]) ht (.inl rfl) (Kd.V_nil _ _ _ _ _) (name_V hn) (.inr rfl) hb' hB'
 · exact bx_any (L := [numV 1]) (N := [⟨#[110]⟩]) ht (.inr rfl) (some_V (q2_ hs h2')) (name_V hn) (.inr rfl) hb' hB'
set_option maxHeartbeats 4000000 in
set_option maxRecDepth 100000 in
theorem names_walk (w : World) (hT : TAB w) : Calls Tryd.prog 12 #[] w fun e w' => e = .returned (.bool true) ∧ Below w.heap.size w w' := by
 have kP_ := Tryd.underlying25
 have HT := q0_.mk hT
 clear hT
 go_enter Tryd.func12, Tryd.ntmps12
 go_upto_region 2 with (go_at_call 26; (with_reducible refine (sem_number_lit 1 _ (by omega) (by omega) HT.out).mono ?_); rintro e w1 ⟨rfl, hb⟩; have S1 := q0_.mk hb; clear hb)
 have SS : q0_ (SomeB (w1.alloc (Obj.cells #[.int .i64 2, .bool false, .string (numS 1), .slice none 0 0, .slice none 0 0] 25)) w1.heap.size) := ⟨blk_new w1 _⟩
 have S2 := q0_.mk (q6_ S1.out (Obj.cells #[.int .i64 2, .bool false, .string (numS 1), .slice none 0 0, .slice none 0 0] 25))
 obtain ⟨gs, hgs⟩ : ∃ g, g = w1.heap.size := ⟨_, rfl⟩
 rw [← hgs] at SS ⊢
 generalize w1.alloc (Obj.cells #[.int .i64 2, .bool false, .string (numS 1), .slice none 0 0, .slice none 0 0] 25) = w2 at *
 clear hgs
 go_wp2_with (fail)
 go_loopg [2] 10 (fun kq s2 wr => ∃ k : Int, s2 = .int .i64 k ∧ q0_ (-1 ≤ k ∧ k ≤ 8 ∧ 8 - k < (kq : Int)) ∧ q0_ (Below w2.heap.size w2 wr))
 case atStart => exact ⟨-1, rfl, ⟨by omega⟩, ⟨Below.refl _ _⟩⟩
 case round =>
  obtain ⟨k, rfl, hk, SK⟩ := hrel
  cases gk with
  | zero => exact absurd hk.out (by omega)
  | succ kk =>
   obtain ⟨wk, hwk⟩ : ∃ wk, wk = wr := ⟨_, rfl⟩
   rw [← hwk] at SK
   by_cases hlt : k < 8
   ·
    have t1 : decide (k < 8) = true := decide_eq_true hlt
    have HLT := q0_.mk hlt
    have HWK := q0_.mk hwk
    clear hlt hwk
    go_wp2_with (fail)
    go_loopg [3] 17 (fun kq s3 wr => ∃ b : Nat, s3 = .int .i64 (b : Int) ∧ q0_ (b ≤ 16 ∧ 16 < kq + b) ∧ q0_ (Below w2.heap.size w2 wr))
    case atStart => exact ⟨0, rfl, ⟨by omega⟩, ⟨HWK.out ▸ SK.out⟩⟩
    case round =>
     clear HWK SK
     obtain ⟨b, rfl, hb, SB⟩ := hrel
     cases gk with
     | zero => exact absurd hb.out (by omega)
     | succ k2 =>
      by_cases hlt : b < 16
      ·
       have t2 : decide ((b : Int) < 16) = true := decide_eq_true (by omega)
       have HLB := q0_.mk hlt
       obtain ⟨i1, h1⟩ : ∃ i : Bool, (bits BinOp.and IntKind.i64 (b : Int) 1 == 1) = i := ⟨_, rfl⟩
       have j1 : wrap64 ((b : Int) + 1) = (b : Int) + 1 := v_wrap (by omega) (by omega)
       clear hlt
       go_upto_if 25 with (first
        | ((with_reducible refine qZ_ (N := 4) rfl ?_); refine qJ_ ?hg (N := 4) ?hd (cs := #[.int .i64 0, .bool false, .string (⟨#[]⟩ : ByteArray), .slice none 0 0, .slice none 0 0]) (t := 25) ?hr ?_; (case hd => rfl); (case hg => rfl); (case hr => first | (go_simp; done) | (go_simp; rfl)); intro gv hg wav hbox hb; have SAv := q0_.mk hb; have BAv := q0_.mk hbox; have GAv := q0_.mk hg; clear hg hb hbox; obtain ⟨Ph_, PG_, Pg_, PW_, PV_, PB_, Pb_, PF_, Pf_, PH_⟩ := blk5z BAv.out)
        | ((with_reducible refine qH_ (p := 4) rfl ?_); refine qW_ (w1 := wav.setCells gv 0 [.int .i64 k, .bool i1, .string (⟨#[]⟩ : ByteArray), .slice none 0 0, .slice none 0 0]) rfl rfl rfl ?hr ?_; (case hr => first | (go_simp; done) | (go_simp; rfl)); intro w7 hw_; have BK : q0_ (BX1 wr w7 gv k i1) := ⟨⟨⟨#[]⟩, by decide, by rw [hw_]; exact blk_put5 BAv.out, by rw [hw_]; exact qb_ SAv.out (Nat.le_of_eq GAv.out.symm)⟩⟩; have GE := q0_.mk (Nat.le_of_eq GAv.out.symm); clear hw_ SAv BAv GAv Ph_ PB_ PG_ Pb_ Pg_ PF_ PW_ Pf_ PV_ PH_))
       go_cut [] (fun wx => q0_ (BX1 wr wx gv k i1))
       case first =>
        obtain ⟨t, ht, hk1, hk2⟩ := BK.out
        obtain ⟨Ph_, PG_, Pg_, PW_, PV_, PB_, Pb_, PF_, Pf_, PH_⟩ := blk5z hk1
        have HK1 := q0_.mk hk1
        have HK2 := q0_.mk hk2
        have HTT := q0_.mk ht
        clear hk1 hk2 ht
        generalize (bits BinOp.and IntKind.i64 (b : Int) 2 == 2) = i2
        cases i2
        ·
         go_wp2_with (fail)
         go_meet
         case rel => exact BK
        ·
         go_wp2_with (fail)
         go_meet
         case rel => exact ⟨⟨#[49]⟩, by decide, qv_ HK1.out 2 _ rfl, qq_ HK2.out GE.out⟩
       case rest =>
        have BK1 := hcut
        generalize hwq : wc = w8 at *
        clear hwq hcut
        go_upto_if 29 with (fail)
        go_cut [] (fun wx => q0_ (BX2 wr wx gv gs k i1))
        case first =>
         obtain ⟨t, ht, hk1, hk2⟩ := BK1.out
         obtain ⟨Ph_, PG_, Pg_, PW_, PV_, PB_, Pb_, PF_, Pf_, PH_⟩ := blk5z hk1
         have HK1 := q0_.mk hk1
         have HK2 := q0_.mk hk2
         have HTT := q0_.mk ht
         clear hk1 hk2 ht
         generalize (bits BinOp.and IntKind.i64 (b : Int) 4 == 4) = i3
         cases i3
         ·
          go_wp2_with (fail)
          go_meet
          case rel => exact ⟨t, [], _, HTT.out, .inl ⟨rfl, rfl⟩, HK1.out, HK2.out⟩
         ·
          go_wp2_with (fail)
          go_meet
          case rel => exact ⟨t, [numV 1], _, HTT.out, .inr ⟨rfl, rfl⟩, qv_ HK1.out 3 _ rfl, qq_ HK2.out GE.out⟩
        case rest =>
         have BK2 := hcut
         generalize hwq : wc = w9 at *
         clear hwq hcut
         go_upto_if 34 with (fail)
         go_cut [] (fun wx => q0_ (BX wr wx gv k i1))
         case first =>
          obtain ⟨t, L, v3, ht, hL, hk1, hk2⟩ := BK2.out
          obtain ⟨Ph_, PG_, Pg_, PW_, PV_, PB_, Pb_, PF_, Pf_, PH_⟩ := blk5z hk1
          have HK1 := q0_.mk hk1
          have HK2 := q0_.mk hk2
          have HTT := q0_.mk ht
          have HL := q0_.mk hL
          have GL := q0_.mk (qY_ hk1)
          clear hk1 hk2 ht hL
          generalize (bits BinOp.and IntKind.i64 (b : Int) 8 == 8) = i4
          cases i4
          ·
           go_wp2_with (fail)
           go_meet
           case rel => exact bx_no HTT.out HL.out HK1.out (SS.out) (q4_ SB.out HK2.out) HK2.out
          ·
           have hq := q2_ HK1.out (q6_ (Below.refl w9.heap.size w9) (.cells #[.string (⟨#[110]⟩ : ByteArray)] 9))
           have za : (w9.alloc (.cells #[.string (⟨#[110]⟩ : ByteArray)] 9)).cell? ⟨gv, 4, none⟩ = some (.slice none 0 0) := q1_ hq 4
           have zb := q3_ hq 4
           clear hq
           go_wp2_with (fail)
           go_meet
           case rel => exact bx_yes HTT.out HL.out HK1.out (SS.out) (q4_ SB.out HK2.out) HK2.out GE.out SB.out.size
         case rest =>
          have BK3 := hcut
          generalize hwq : wc = wq at *
          clear hwq hcut BK BK1 BK2
          go_upto_region 15 with (fail)
          obtain ⟨t, A3, L, c3, A4, N, c4, hb0, hV, hF, hB0⟩ := BK3.out
          obtain ⟨kq_0, kq_1, kq_2, kq_3, kq_4⟩ := qV_ hb0
          have GLq := q0_.mk (qY_ hb0)
          have VX := q0_.mk hV
          have HF := q0_.mk hF
          have HF0 := q0_.mk (show fitV ⟨k, false, ⟨#[]⟩, [], []⟩ = true from fit_mk (by decide) (by decide) (by decide) (fun s hs => by simp at hs) rfl)
          have SQ := q0_.mk (q4_ SB.out hB0)
          have HTq := q0_.mk (TAB.below HT.out (q4_ S2.out SQ.out))
          clear hb0 hV hF hB0 BK3
          (try simp only [Act.put, List.setIfInBounds_toArray, List.set_cons_zero, List.set_cons_succ])
          have SD := q0_.mk (below_drew (Below.refl wq.heap.size wq))
          refine wp_region_held_drew (S := fun W' => Below wq.heap.size wq W') (by kernel_rfl) SD.out (fun hS0 => ?_)
          have hS0 : Below wq.heap.size wq wq.drew := hS0
          generalize wq.drew = V0 at *
          (refine wpAnyH_take (i := 0) (v := ?_) rfl (by kernel_rfl) (by kernel_rfl) (by kernel_rfl) (fun _ _ _ h => h) (Or.inl ⟨by rfl, ?_⟩) (by assumption) ?_; rotate_left; (focus (intro w_ hSw; have e0_ := (hSw.cell (p := ⟨gv, 0, none⟩) GLq.out).trans kq_0; have e1_ := (hSw.cell (p := ⟨gv, 1, none⟩) GLq.out).trans kq_1; have e2_ := (hSw.cell (p := ⟨gv, 2, none⟩) GLq.out).trans kq_2; have e3_ := (hSw.cell (p := ⟨gv, 3, none⟩) GLq.out).trans kq_3; have e4_ := (hSw.cell (p := ⟨gv, 4, none⟩) GLq.out).trans kq_4; clear hSw; go_simp; try with_reducible rfl)); (try simp only [gA_, gB_, gC_, Act.put, gD_, gE_, gF_]))
          refine wpAnyH_ready (rs := [1]) (by decide +kernel) (by simp) ?_
          refine AllReadyH.cons (i := 1) rfl (fun K_ hK => ?_) AllReadyH.nil
          refine step_want (by rfl) ?_
          (go_simp; go_at_call 3; refine (checks_walk ⟨k, i1, t, L, N⟩ _ _ (VX.out.below SD.out).reads HF.out (TAB.below HTq.out SD.out)).mono ?_; rintro e V1 ⟨rfl, hb_⟩)
          have SN := q0_.mk (q4_ SD.out hb_)
          refine hK.out _ _ SN.out (fun hS1 => ?_)
          clear hK K_; (try simp only [gA_, gB_, gC_, Act.put, gD_, gE_, gF_])
          replace SD := SN
          clear hb_ SN
          (refine wpAnyH_take (i := 2) (v := ?_) rfl (by kernel_rfl) (by kernel_rfl) (by kernel_rfl) (fun _ _ _ h => h) (Or.inl ⟨by rfl, ?_⟩) (by assumption) ?_; rotate_left; (focus (intro w_ hSw; clear hSw; go_simp; try with_reducible rfl)); (try simp only [gA_, gB_, gC_, Act.put, gD_, gE_, gF_]))
          (refine wpAnyH_take (i := 3) (v := ?_) rfl (by kernel_rfl) (by kernel_rfl) (by kernel_rfl) (fun _ _ _ h => h) (Or.inl ⟨by rfl, ?_⟩) (by assumption) ?_; rotate_left; (focus (intro w_ hSw; clear hSw; go_simp; try with_reducible rfl)); (try simp only [gA_, gB_, gC_, Act.put, gD_, gE_, gF_]))
          (refine wpAnyH_take (i := 4) (v := ?_) rfl (by kernel_rfl) (by kernel_rfl) (by kernel_rfl) (fun _ _ _ h => h) (Or.inl ⟨by rfl, ?_⟩) (by assumption) ?_; rotate_left; (focus (intro w_ hSw; have e0_ := (hSw.cell (p := ⟨gv, 0, none⟩) GLq.out).trans kq_0; have e1_ := (hSw.cell (p := ⟨gv, 1, none⟩) GLq.out).trans kq_1; have e2_ := (hSw.cell (p := ⟨gv, 2, none⟩) GLq.out).trans kq_2; have e3_ := (hSw.cell (p := ⟨gv, 3, none⟩) GLq.out).trans kq_3; have e4_ := (hSw.cell (p := ⟨gv, 4, none⟩) GLq.out).trans kq_4; clear hSw; go_simp; try with_reducible rfl)); (try simp only [gA_, gB_, gC_, Act.put, gD_, gE_, gF_]))
          (refine wpAnyH_take (i := 5) (v := ?_) rfl (by kernel_rfl) (by kernel_rfl) (by kernel_rfl) (fun _ _ _ h => h) (Or.inl ⟨by rfl, ?_⟩) (by assumption) ?_; rotate_left; (focus (intro w_ hSw; clear hSw; go_simp; try with_reducible rfl)); (try simp only [gA_, gB_, gC_, Act.put, gD_, gE_, gF_]))
          (refine wpAnyH_take (i := 6) (v := ?_) rfl (by kernel_rfl) (by kernel_rfl) (by kernel_rfl) (fun _ _ _ h => h) (Or.inl ⟨by rfl, ?_⟩) (by assumption) ?_; rotate_left; (focus (intro w_ hSw; clear hSw; go_simp; try with_reducible rfl)); (try simp only [gA_, gB_, gC_, Act.put, gD_, gE_, gF_]))
          refine wpAnyH_ready (rs := [7]) (by decide +kernel) (by simp) ?_
          refine AllReadyH.cons (i := 7) rfl (fun K_ hK => ?_) AllReadyH.nil
          refine step_want (by rfl) ?_
          (go_simp; go_at_call 4; refine (equals_walk ⟨k, i1, t, L, N⟩ ⟨k, false, ⟨#[]⟩, [], []⟩ _ _ _ (VX.out.below SD.out).reads HF.out (rds_lit _ k false ⟨#[]⟩) HF0.out (TAB.below HTq.out SD.out)).mono ?_; rintro e V2 ⟨rfl, hb_⟩)
          have SN := q0_.mk (q4_ SD.out hb_)
          refine hK.out _ _ SN.out (fun hS1 => ?_)
          clear hK K_; (try simp only [gA_, gB_, gC_, Act.put, gD_, gE_, gF_])
          replace SD := SN
          clear hb_ SN
          (refine wpAnyH_take (i := 8) (v := ?_) rfl (by kernel_rfl) (by kernel_rfl) (by kernel_rfl) (fun _ _ _ h => h) (Or.inl ⟨by rfl, ?_⟩) (by assumption) ?_; rotate_left; (focus (intro w_ hSw; clear hSw; go_simp; try with_reducible rfl)); (try simp only [gA_, gB_, gC_, Act.put, gD_, gE_, gF_]))
          (refine wpAnyH_take (i := 9) (v := ?_) rfl (by kernel_rfl) (by kernel_rfl) (by kernel_rfl) (fun _ _ _ h => h) (Or.inl ⟨by rfl, ?_⟩) (by assumption) ?_; rotate_left; (focus (intro w_ hSw; clear hSw; go_simp; try with_reducible rfl)); (try simp only [gA_, gB_, gC_, Act.put, gD_, gE_, gF_]))
          (refine wpAnyH_take (i := 10) (v := ?_) rfl (by kernel_rfl) (by kernel_rfl) (by kernel_rfl) (fun _ _ _ h => h) (Or.inl ⟨by rfl, ?_⟩) (by assumption) ?_; rotate_left; (focus (intro w_ hSw; clear hSw; go_simp; try with_reducible rfl)); (try simp only [gA_, gB_, gC_, Act.put, gD_, gE_, gF_]))
          (refine wpAnyH_take (i := 11) (v := ?_) rfl (by kernel_rfl) (by kernel_rfl) (by kernel_rfl) (fun _ _ _ h => h) (Or.inl ⟨by rfl, ?_⟩) (by assumption) ?_; rotate_left; (focus (intro w_ hSw; have e0_ := (hSw.cell (p := ⟨gv, 0, none⟩) GLq.out).trans kq_0; have e1_ := (hSw.cell (p := ⟨gv, 1, none⟩) GLq.out).trans kq_1; have e2_ := (hSw.cell (p := ⟨gv, 2, none⟩) GLq.out).trans kq_2; have e3_ := (hSw.cell (p := ⟨gv, 3, none⟩) GLq.out).trans kq_3; have e4_ := (hSw.cell (p := ⟨gv, 4, none⟩) GLq.out).trans kq_4; clear hSw; go_simp; try with_reducible rfl)); (try simp only [gA_, gB_, gC_, Act.put, gD_, gE_, gF_]))
          refine wpAnyH_ready (rs := [12]) (by decide +kernel) (by simp) ?_
          refine AllReadyH.cons (i := 12) rfl (fun K_ hK => ?_) AllReadyH.nil
          refine step_want (by rfl) ?_
          (go_simp; go_at_call 5; refine (gets_walk ⟨k, i1, t, L, N⟩ ⟨#[110]⟩ _ _ (VX.out.below SD.out).reads HF.out (by decide) (TAB.below HTq.out SD.out)).mono ?_; rintro e V3 ⟨rfl, hb_⟩)
          have SN := q0_.mk (q4_ SD.out hb_)
          refine hK.out _ _ SN.out (fun hS1 => ?_)
          clear hK K_; (try simp only [gA_, gB_, gC_, Act.put, gD_, gE_, gF_])
          replace SD := SN
          clear hb_ SN
          (refine wpAnyH_take (i := 13) (v := ?_) rfl (by kernel_rfl) (by kernel_rfl) (by kernel_rfl) (fun _ _ _ h => h) (Or.inl ⟨by rfl, ?_⟩) (by assumption) ?_; rotate_left; (focus (intro w_ hSw; clear hSw; go_simp; try with_reducible rfl)); (try simp only [gA_, gB_, gC_, Act.put, gD_, gE_, gF_]))
          (refine wpAnyH_take (i := 14) (v := ?_) rfl (by kernel_rfl) (by kernel_rfl) (by kernel_rfl) (fun _ _ _ h => h) (Or.inl ⟨by rfl, ?_⟩) (by assumption) ?_; rotate_left; (focus (intro w_ hSw; clear hSw; go_simp; try with_reducible rfl)); (try simp only [gA_, gB_, gC_, Act.put, gD_, gE_, gF_]))
          (refine wpAnyH_take (i := 15) (v := ?_) rfl (by kernel_rfl) (by kernel_rfl) (by kernel_rfl) (fun _ _ _ h => h) (Or.inl ⟨by rfl, ?_⟩) (by assumption) ?_; rotate_left; (focus (intro w_ hSw; clear hSw; go_simp; try with_reducible rfl)); (try simp only [gA_, gB_, gC_, Act.put, gD_, gE_, gF_]))
          (refine wpAnyH_take (i := 16) (v := ?_) rfl (by kernel_rfl) (by kernel_rfl) (by kernel_rfl) (fun _ _ _ h => h) (Or.inl ⟨by rfl, ?_⟩) (by assumption) ?_; rotate_left; (focus (intro w_ hSw; have e0_ := (hSw.cell (p := ⟨gv, 0, none⟩) GLq.out).trans kq_0; have e1_ := (hSw.cell (p := ⟨gv, 1, none⟩) GLq.out).trans kq_1; have e2_ := (hSw.cell (p := ⟨gv, 2, none⟩) GLq.out).trans kq_2; have e3_ := (hSw.cell (p := ⟨gv, 3, none⟩) GLq.out).trans kq_3; have e4_ := (hSw.cell (p := ⟨gv, 4, none⟩) GLq.out).trans kq_4; clear hSw; go_simp; try with_reducible rfl)); (try simp only [gA_, gB_, gC_, Act.put, gD_, gE_, gF_]))
          refine wpAnyH_ready (rs := [17]) (by decide +kernel) (by simp) ?_
          refine AllReadyH.cons (i := 17) rfl (fun K_ hK => ?_) AllReadyH.nil
          refine step_want (by rfl) ?_
          (go_simp; go_at_call 35; refine (sem_nested (x := ⟨k, i1, t, L, N⟩) 2 (by decide) (VX.out.below SD.out)).mono ?_; rintro e V4 ⟨u2, rfl, ho, hb_⟩)
          have SN := q0_.mk (q4_ SD.out hb_)
          have N2 := q0_.mk ho
          clear ho
          refine hK.out _ _ SN.out (fun hS1 => ?_)
          clear hK K_; (try simp only [gA_, gB_, gC_, Act.put, gD_, gE_, gF_])
          replace SD := SN
          clear hb_ SN
          refine wpAnyH_ready (rs := [18]) (by decide +kernel) (by simp) ?_
          refine AllReadyH.cons (i := 18) rfl (fun K_ hK => ?_) AllReadyH.nil
          refine step_want (by rfl) ?_
          (go_simp; go_at_call 3; refine (checks_walk (qx_ 2 ⟨k, i1, t, L, N⟩) _ _ N2.out (by rw [fit_nest]; exact HF.out) (TAB.below HTq.out SD.out)).mono ?_; rintro e V5 ⟨rfl, hb_⟩)
          have SN := q0_.mk (q4_ SD.out hb_)
          refine hK.out _ _ SN.out (fun hS1 => ?_)
          clear hK K_; (try simp only [gA_, gB_, gC_, Act.put, gD_, gE_, gF_])
          replace SD := SN
          clear hb_ SN
          (refine wpAnyH_take (i := 19) (v := ?_) rfl (by kernel_rfl) (by kernel_rfl) (by kernel_rfl) (fun _ _ _ h => h) (Or.inl ⟨by rfl, ?_⟩) (by assumption) ?_; rotate_left; (focus (intro w_ hSw; clear hSw; go_simp; try with_reducible rfl)); (try simp only [gA_, gB_, gC_, Act.put, gD_, gE_, gF_]))
          (refine wpAnyH_take (i := 20) (v := ?_) rfl (by kernel_rfl) (by kernel_rfl) (by kernel_rfl) (fun _ _ _ h => h) (Or.inl ⟨by rfl, ?_⟩) (by assumption) ?_; rotate_left; (focus (intro w_ hSw; clear hSw; go_simp; try with_reducible rfl)); (try simp only [gA_, gB_, gC_, Act.put, gD_, gE_, gF_]))
          (refine wpAnyH_take (i := 21) (v := ?_) rfl (by kernel_rfl) (by kernel_rfl) (by kernel_rfl) (fun _ _ _ h => h) (Or.inl ⟨by rfl, ?_⟩) (by assumption) ?_; rotate_left; (focus (intro w_ hSw; clear hSw; go_simp; try with_reducible rfl)); (try simp only [gA_, gB_, gC_, Act.put, gD_, gE_, gF_]))
          (refine wpAnyH_take (i := 22) (v := ?_) rfl (by kernel_rfl) (by kernel_rfl) (by kernel_rfl) (fun _ _ _ h => h) (Or.inl ⟨by rfl, ?_⟩) (by assumption) ?_; rotate_left; (focus (intro w_ hSw; have e0_ := (hSw.cell (p := ⟨gv, 0, none⟩) GLq.out).trans kq_0; have e1_ := (hSw.cell (p := ⟨gv, 1, none⟩) GLq.out).trans kq_1; have e2_ := (hSw.cell (p := ⟨gv, 2, none⟩) GLq.out).trans kq_2; have e3_ := (hSw.cell (p := ⟨gv, 3, none⟩) GLq.out).trans kq_3; have e4_ := (hSw.cell (p := ⟨gv, 4, none⟩) GLq.out).trans kq_4; clear hSw; go_simp; try with_reducible rfl)); (try simp only [gA_, gB_, gC_, Act.put, gD_, gE_, gF_]))
          (refine wpAnyH_take (i := 24) (v := ?_) rfl (by kernel_rfl) (by kernel_rfl) (by kernel_rfl) (fun _ _ _ h => h) (Or.inl ⟨by rfl, ?_⟩) (by assumption) ?_; rotate_left; (focus (intro w_ hSw; have e0_ := (hSw.cell (p := ⟨gv, 0, none⟩) GLq.out).trans kq_0; have e1_ := (hSw.cell (p := ⟨gv, 1, none⟩) GLq.out).trans kq_1; have e2_ := (hSw.cell (p := ⟨gv, 2, none⟩) GLq.out).trans kq_2; have e3_ := (hSw.cell (p := ⟨gv, 3, none⟩) GLq.out).trans kq_3; have e4_ := (hSw.cell (p := ⟨gv, 4, none⟩) GLq.out).trans kq_4; clear hSw; go_simp; try with_reducible rfl)); (try simp only [gA_, gB_, gC_, Act.put, gD_, gE_, gF_]))
          refine wpAnyH_ready (rs := [23]) (by decide +kernel) (by simp) ?_
          refine AllReadyH.cons (i := 23) rfl (fun K_ hK => ?_) AllReadyH.nil
          refine step_want (by rfl) ?_
          (go_simp; go_at_call 35; refine (sem_nested (x := ⟨k, i1, t, L, N⟩) 1 (by decide) (VX.out.below SD.out)).mono ?_; rintro e V6 ⟨u3, rfl, ho, hb_⟩)
          have SN := q0_.mk (q4_ SD.out hb_)
          have N3 := q0_.mk ho
          clear ho
          refine hK.out _ _ SN.out (fun hS1 => ?_)
          clear hK K_; (try simp only [gA_, gB_, gC_, Act.put, gD_, gE_, gF_])
          replace SD := SN
          clear hb_ SN
          refine wpAnyH_ready (rs := [25]) (by decide +kernel) (by simp) ?_
          refine AllReadyH.cons (i := 25) rfl (fun K_ hK => ?_) AllReadyH.nil
          refine step_want (by rfl) ?_
          (go_simp; go_at_call 35; refine (sem_nested (x := ⟨k, i1, t, L, N⟩) 2 (by decide) (VX.out.below SD.out)).mono ?_; rintro e V7 ⟨u4, rfl, ho, hb_⟩)
          have SN := q0_.mk (q4_ SD.out hb_)
          have N4 := q0_.mk ho
          replace N3 := q0_.mk (N3.out.below hb_)
          clear ho
          refine hK.out _ _ SN.out (fun hS1 => ?_)
          clear hK K_; (try simp only [gA_, gB_, gC_, Act.put, gD_, gE_, gF_])
          replace SD := SN
          clear hb_ SN
          refine wpAnyH_ready (rs := [26]) (by decide +kernel) (by simp) ?_
          refine AllReadyH.cons (i := 26) rfl (fun K_ hK => ?_) AllReadyH.nil
          refine step_want (by rfl) ?_
          (go_simp; go_at_call 4; refine (equals_walk (qx_ 1 ⟨k, i1, t, L, N⟩) (qx_ 2 ⟨k, i1, t, L, N⟩) _ _ _ N3.out (by rw [fit_nest]; exact HF.out) N4.out (by rw [fit_nest]; exact HF.out) (TAB.below HTq.out SD.out)).mono ?_; rintro e V8 ⟨rfl, hb_⟩)
          have SN := q0_.mk (q4_ SD.out hb_)
          refine hK.out _ _ SN.out (fun hS1 => ?_)
          clear hK K_; (try simp only [gA_, gB_, gC_, Act.put, gD_, gE_, gF_])
          replace SD := SN
          clear hb_ SN
          (refine wpAnyH_take (i := 27) (v := ?_) rfl (by kernel_rfl) (by kernel_rfl) (by kernel_rfl) (fun _ _ _ h => h) (Or.inl ⟨by rfl, ?_⟩) (by assumption) ?_; rotate_left; (focus (intro w_ hSw; clear hSw; go_simp; try with_reducible rfl)); (try simp only [gA_, gB_, gC_, Act.put, gD_, gE_, gF_]))
          (refine wpAnyH_take (i := 28) (v := ?_) rfl (by kernel_rfl) (by kernel_rfl) (by kernel_rfl) (fun _ _ _ h => h) (Or.inl ⟨by rfl, ?_⟩) (by assumption) ?_; rotate_left; (focus (intro w_ hSw; clear hSw; go_simp; try with_reducible rfl)); (try simp only [gA_, gB_, gC_, Act.put, gD_, gE_, gF_]))
          refine wpAnyH_done (by decide +kernel) ?_ _
          go_wp2_with (fail)
          go_roundg k2
          case measure => omega
          case rel => exact ⟨b + 1, by go_num, ⟨by have := hb.out; have := HLB.out; omega⟩, ⟨q4_ SQ.out SD.out⟩⟩
      ·
       have t2 : decide ((b : Int) < 16) = false := decide_eq_false (by omega)
       have k1_ : wrap64 (k + 1) = k + 1 := v_wrap (by have := hk.out; omega) (by have := hk.out; omega)
       clear hlt
       go_wp2_with (fail)
       go_roundg kk
       case measure => omega
       case rel => exact ⟨k + 1, by first | rfl | rw [k1_], ⟨by have := hk.out; have := HLT.out; omega⟩, SB⟩
   ·
    have t1 : decide (k < 8) = false := decide_eq_false hlt
    have SB : q0_ (Below w2.heap.size w2 wr) := ⟨hwk ▸ SK.out⟩
    clear hlt hwk SK
    go_upto_region 18 with (fail)
    have NB : q0_ ((wr.alloc (Obj.cells NAI 3)).heap[wr.heap.size]? = some (.cells NAI 3 (0, 0))) := ⟨blk_new wr _⟩
    have S3 := q0_.mk (q6_ SB.out (Obj.cells NAI 3))
    obtain ⟨gi, hgi⟩ : ∃ g, g = wr.heap.size := ⟨_, rfl⟩
    show Code.wp _ _ _ _ (wr.alloc (Obj.cells NAI 3))
    rw [← hgi] at NB ⊢
    generalize wr.alloc (Obj.cells NAI 3) = w3 at *
    clear hgi
    go_wp2_with (fail)
    go_loopg [6] 9 (fun kq s6 wr => ∃ i : Nat, s6 = .int .i64 (i : Int) ∧ q0_ (i ≤ 8 ∧ 8 < kq + i) ∧ q0_ (Below w3.heap.size w3 wr))
    case atStart => exact ⟨0, rfl, ⟨by omega⟩, ⟨Below.refl _ _⟩⟩
    case round =>
     clear SB
     obtain ⟨i, rfl, hi, SB⟩ := hrel
     cases gk with
     | zero => exact absurd hi.out (by omega)
     | succ k2 =>
      have HTr := q0_.mk (TAB.below HT.out (q4_ S2.out (q4_ S3.out SB.out)))
      have SSr := q0_.mk (show SomeB wr gs from q2_ SS.out (q4_ S3.out SB.out))
      by_cases hlt : i < 8
      ·
       have t2 : decide ((i : Int) < 8) = true := decide_eq_true (by omega)
       have HLI := q0_.mk hlt
       have NBr := q0_.mk (q2_ NB.out SB.out)
       have x0 := (q1_ NBr.out i).trans (NI_at i hlt)
       have HWF := q0_.mk (NI_wf i hlt)
       obtain ⟨q, hq⟩ : ∃ q, nI i = q := ⟨_, rfl⟩
       rw [hq] at x0 HWF
       have X0 := q0_.mk x0
       have p1 : (0 : Int) ≤ (i : Int) := by omega
       have p2 : (i : Int) < 8 := by omega
       have j1 : wrap64 ((i : Int) + 1) = (i : Int) + 1 := v_wrap (by omega) (by omega)
       clear hlt hq
       go_wp2_with (first
        | ((with_reducible refine qZ_ (N := 73) rfl ?_); (try (refine gate_guard (by rfl) ?_; dsimp only)); refine lit_read Kd.string 9 ?hg (N := 73) ?hd (xs := [(⟨#[97]⟩ : ByteArray)]) (inner := [.string (⟨#[97]⟩ : ByteArray)]) ?hr (Reps.one rfl (Reps.none _ _)) (by simp) ?_; (case hd => rfl); (case hg => rfl); (case hr => first | (go_simp; done) | (go_simp; rfl)); intro An cn wa hc hl hb; have HNa : q0_ (Kd.C Kd.string wa An 1 [⟨#[97]⟩] ∧ 1 ≤ cn) := ⟨hc, hl⟩; have Sa := q0_.mk hb; replace x0 := (hb.cell (World.block_lt_of_cell? _ _ X0.out)).trans X0.out; clear hc hl hb)
        | (go_at_call 10; (with_reducible refine (mk1 HNa.out.1 HNa.out.2 (SSr.out.below Sa.out) HWF.out (TAB.below HTr.out Sa.out)).mono ?_); rintro e wb ⟨rfl, hb⟩; have Sb := q0_.mk (q4_ Sa.out hb); replace x0 := (Sb.out.cell (World.block_lt_of_cell? _ _ X0.out)).trans X0.out; clear hb)
        | (go_at_call 10; (with_reducible refine (mk2 HWF.out (TAB.below HTr.out Sb.out)).mono ?_); rintro e wc' ⟨rfl, hb⟩; have Sc := q0_.mk (q4_ Sb.out hb); replace x0 := (Sc.out.cell (World.block_lt_of_cell? _ _ X0.out)).trans X0.out; clear hb)
        | (go_at_call 10; (with_reducible refine (mk3 (SSr.out.below Sc.out) HWF.out (TAB.below HTr.out Sc.out)).mono ?_); rintro e wd ⟨rfl, hb⟩; have Sd := q0_.mk (q4_ Sc.out hb); clear hb))
       go_roundg k2
       case measure => omega
       case rel => exact ⟨i + 1, by go_num, ⟨by have := hi.out; have := HLI.out; omega⟩, ⟨q4_ SB.out Sd.out⟩⟩
      ·
       have t2 : decide ((i : Int) < 8) = false := decide_eq_false (by omega)
       clear hlt
       go_wp2_with (first
        | ((with_reducible refine qZ_ (N := 98) rfl ?_); (try (refine gate_guard (by rfl) ?_; dsimp only)); refine lit_read Kd.string 9 ?hg (N := 98) ?hd (xs := [(⟨#[97]⟩ : ByteArray), (⟨#[98]⟩ : ByteArray)]) (inner := [.string (⟨#[97]⟩ : ByteArray), .string (⟨#[98]⟩ : ByteArray)]) ?hr (Reps.one rfl (Reps.one rfl (Reps.none _ _))) (by simp) ?_; (case hd => rfl); (case hg => rfl); (case hr => first | (go_simp; done) | (go_simp; rfl)); intro An cn wa hc hl hb; have HCn := q0_.mk hc; have HLn := q0_.mk hl; have Sa := q0_.mk hb; clear hc hl hb)
        | ((with_reducible refine qZ_ (N := 7) rfl ?_); refine qJ_ ?hg (N := 7) ?hd (cs := #[.int .i64 0, .bool false, .string (⟨#[]⟩ : ByteArray), .slice none 0 0, .slice none 0 0]) (t := 25) ?hr ?_; (case hd => rfl); (case hg => rfl); (case hr => first | (go_simp; done) | (go_simp; rfl)); intro go hg wao hbox hb; have SAo := q0_.mk hb; have BAo := q0_.mk hbox; have GAo := q0_.mk hg; clear hg hb hbox; obtain ⟨Ph_, PG_, Pg_, PW_, PV_, PB_, Pb_, PF_, Pf_, PH_⟩ := blk5z BAo.out)
        | ((with_reducible refine qH_ (p := 7) rfl ?_); refine qW_ (w1 := wao.setCells go 0 [.int .i64 5, .bool false, .string (⟨#[]⟩ : ByteArray), .slice (some ⟨gs, 0, none⟩) 1 1, .slice An 2 cn]) rfl rfl rfl ?hr ?_; (case hr => first | (go_simp; done) | (go_simp; rfl)); intro w7 hw_; have BKo : q0_ (w7.heap[go]? = some (.cells #[.int .i64 5, .bool false, .string (⟨#[]⟩ : ByteArray), .slice (some ⟨gs, 0, none⟩) 1 1, .slice An 2 cn] 25 (0, 0))) := ⟨by rw [hw_]; exact (blk_put5 BAo.out)⟩; have S7 : q0_ (Below wr.heap.size wr w7) := ⟨q4_ Sa.out (by rw [hw_]; exact (qb_ SAo.out (Nat.le_of_eq GAo.out.symm)))⟩; have RO : q0_ (Rds w7 ⟨5, false, ⟨#[]⟩, [numV 1], [⟨#[97]⟩, ⟨#[98]⟩]⟩ (.agg #[.int .i64 5, .bool false, .string (⟨#[]⟩ : ByteArray), .slice (some ⟨gs, 0, none⟩) 1 1, .slice An 2 cn])) := ⟨⟨_, _, _, _, rfl, some_C (q2_ SSr.out S7.out), Nat.le_refl _, Kd.qD_ HCn.out (by rw [hw_]; exact (qb_ SAo.out (Nat.le_of_eq GAo.out.symm))), HLn.out⟩⟩; clear hw_ SAo BAo Ph_ PB_ PG_ Pb_ Pg_ PF_ PW_ Pf_ PV_ PH_)
        | (go_at_call 14; (with_reducible refine (colophonlaw10_awake.calls true _ (TAB.below HTr.out S7.out) rfl).mono ?_); rintro e wb ⟨rfl, hb⟩; have Sb := q0_.mk hb; clear hb)
        | (go_at_call 11; (with_reducible refine (deep_walk 127 0 _ (TAB.below HTr.out (q4_ S7.out Sb.out))).mono ?_); rintro e wc' ⟨rfl, hb⟩; have Sc := q0_.mk (q4_ Sb.out hb); clear hb)
        | (go_at_call 11; (with_reducible refine (deep_walk 128 0 _ (TAB.below HTr.out (q4_ S7.out Sc.out))).mono ?_); rintro e wd ⟨rfl, hb⟩; have Sd := q0_.mk (q4_ Sc.out hb); clear hb)
        | (go_at_call 11; (with_reducible refine (deep_walk 126 0 _ (TAB.below HTr.out (q4_ S7.out Sd.out))).mono ?_); rintro e we ⟨rfl, hb⟩; have Se := q0_.mk (q4_ Sd.out hb); clear hb; obtain ⟨vw_, vv_, vy_, vk_, vx_⟩ := qV_ (q2_ BKo.out Se.out))
        | (go_at_call 5; (with_reducible refine (gets_walk ⟨5, false, ⟨#[]⟩, [numV 1], [⟨#[97]⟩, ⟨#[98]⟩]⟩ ⟨#[98]⟩ _ _ (RO.out.below Se.out) fit_odd (by decide) (TAB.below HTr.out (q4_ S7.out Se.out))).mono ?_); rintro e wf ⟨rfl, hb⟩; have Sf := q0_.mk (q4_ Se.out hb); clear hb)
        | (go_at_call 21; refine (sem_copy (x := ⟨0, false, ⟨#[]⟩, [], []⟩) (rds_lit _ 0 false ⟨#[]⟩) (by decide +kernel)).mono ?_; rintro e wg ⟨u, rfl, ho, hb⟩; obtain ⟨uo3, uo4, rfl, hu3, hu4⟩ := ho; obtain ⟨Ao3, co3, rfl⟩ := Kd.qp_ hu3; obtain ⟨Ao4, co4, rfl⟩ := Kd.qp_ hu4; have OWo := q0_.mk (show Own wf.heap.size wg.heap.size wg ⟨0, false, ⟨#[]⟩, [], []⟩ (.agg #[.int .i64 0, .bool false, .string (⟨#[]⟩ : ByteArray), .slice Ao3 0 co3, .slice Ao4 0 co4]) from ⟨_, _, rfl, hu3, hu4⟩); have Sg := q0_.mk (q4_ Sf.out hb); clear hb hu3 hu4)
        | (go_at_call 20; refine (qg_ (x := ⟨0, false, ⟨#[]⟩, [], []⟩) (rds_lit _ 0 false ⟨#[]⟩) OWo.out.reads (by decide +kernel)).mono ?_; rintro e wh ⟨rfl, hb⟩; have Sh := q0_.mk (q4_ Sg.out hb); clear hb))
       go_ret
       exact ⟨rfl, q4_ S2.out (q4_ S3.out (q4_ SB.out (q4_ S7.out Sh.out)))⟩
end Go.Proofs.YtfpmompdgmklmaaDoor.P
