/- The document's reader: New, Left, Write. -/
import Derived.Test.YthkmacgjekienaaDoorG14
import Derived.Test.YthkmacgjekienaaDoorGB
import Derived.BigQuiet
import Derived.Deep.QuietTactic
import Derived.BigRegionIn
import Derived.Sort.CutIn
import Derived.Stop.RegionWithIn
import Derived.Test.YthkmacgjekienaaDoorG1
import Derived.BigRegion
namespace Go.Proofs.YthkmacgjekienaaDoor.P
attribute [-simp] List.length_drop List.length_take ByteArray.size_append
open Go.RowKit Go.Shelf Go.Proofs.YthkmacgjekienaaDoor.Pure Go.Proofs.YthkmacgjekienaaDoorW.PrintWords Go.Proofs.YthkmacgjekienaaDoorW.PrintLast Go.Proofs.YthkmacgjekienaaDoorW.PrintMore
set_option linter.unusedVariables false
set_option linter.unusedSimpArgs false
/-- the document's reader: block g; its bytes lie in a row of its own -/
structure Rm (lo : Nat) (w : World) (g : Nat) (v : Value) (B : List Int) (cl : Bool) : Prop where
  blk : w.heap[g]? = some (.cells #[v, .bool cl] 36 (0, 0))
  row : Kd.R (Kd.int .u8) 5 w lo (fun _ => True) v B
  lo : lo ≤ g
theorem Rm.c1 {lo : Nat} {w : World} {g : Nat} {v : Value} {B : List Int} {cl : Bool} (h : Rm lo w g v B cl) : w.cell? ⟨g, 1, none⟩ = some (.bool cl) := (blk_cell h.blk 1).trans rfl
theorem Rm.c0 {lo : Nat} {w : World} {g : Nat} {v : Value} {B : List Int} {cl : Bool} (h : Rm lo w g v B cl) : w.cell? ⟨g, 0, none⟩ = some v := (blk_cell h.blk 0).trans rfl
theorem Rm.lt {lo : Nat} {w : World} {g : Nat} {v : Value} {B : List Int} {cl : Bool} (h : Rm lo w g v B cl) : g < w.heap.size := blk_lt h.blk
theorem Rm.below {lo : Nat} {w w' : World} {g : Nat} {v : Value} {B : List Int} {cl : Bool} (h : Rm lo w g v B cl) (hb : Below w.heap.size w w') : Rm lo w' g v B cl :=
  ⟨(hb.block g h.lt).trans h.blk, Kd.R_below h.row hb, h.lo⟩
theorem new2_calls (w : World) : Calls Tryd.prog 12 #[] w fun e w' => e = .returned (.pointer (some ⟨w.heap.size, 0, none⟩)) ∧ w' = w.alloc (.cells #[.slice none 0 0, .bool false] 36) := by
  go_enter Tryd.func12, Tryd.ntmps12
  go_wp2
  go_ret
  exact ⟨rfl, rfl⟩
theorem left2_calls {lo : Nat} {w : World} {g : Nat} {v : Value} {B : List Int} {cl : Bool} (h : Rm lo w g v B cl) : Calls Tryd.prog 18 #[.pointer (some ⟨g, 0, none⟩)] w fun e w' => e = .returned (.int .i64 B.length) ∧ w = w' := by
  have h0 := h.c0
  obtain ⟨A, c, rfl⟩ := Kd.R_slice h.row
  clear h
  go_enter Tryd.func18, Tryd.ntmps18
  go_wp2
  go_ret
  exact ⟨rfl, rfl⟩
theorem bodies2 {w : World} {A : Option Addr} {n c : Nat} {l : List Int} (hn : l.length = n) (h1 : Kd.C (Kd.int .u8) w A n l) (hc : n ≤ c) (hb : Byt l) (hl : n ≤ 5000000000000) (bs : List (List Int)) (left : List Int) (er : Int) (hbod : bodT l = (bs, left, er)) :
    Calls Tryd.prog 22 #[.slice A n c] w fun e w' => ∃ v0 A1 c1, e = .returned (.tuple #[v0, .slice A1 left.length c1, .int .i64 er]) ∧ Kd.R (Kd.slice 5 (Kd.int .u8)) 27 w' w.heap.size (fun _ => True) v0 bs ∧ Kd.R (Kd.int .u8) 5 w' w.heap.size (fun _ => True) (.slice A1 left.length c1) left ∧ Below w.heap.size w w' := by
  subst hn
  obtain ⟨k, hk⟩ := (bodies_loop l [] hb (by simpa using hl)).rounds
  have e1 : (bodT l).1 = bs := by rw [hbod]
  have e2 : (bodT l).2.1 = left := by rw [hbod]
  have e3 : (bodT l).2.2 = er := by rw [hbod]
  rw [e1, e2, e3] at hk
  refine (colophonref07_Bodies.calls k (fun k_ => k_ < w.heap.size) A c l bs left er w (Kd.V_mk hc (Kd.C_F ⟨fun _ h => h⟩ h1)) (by unfold colophonref07_Bodies.f; rw [hk]; rfl)).mono ?_
  rintro e w' ⟨v0, v1, rfl, h2, h3, h4⟩
  obtain ⟨A1, c1, rfl⟩ := Kd.R_slice h3
  exact ⟨v0, A1, c1, rfl, Kd.R_mono (Kd.S_R h2) (fun _ _ => trivial), Kd.R_mono h3 (fun _ _ => trivial), h4⟩
theorem write2_closed {lo : Nat} {w : World} {g : Nat} {v : Value} {B : List Int} (hR : Rm lo w g v B true) (A : Value) :
    Calls Tryd.prog 15 #[.pointer (some ⟨g, 0, none⟩), A] w fun e w' => e = .returned (.tuple #[.slice none 0 0, .int .i64 70]) ∧ w = w' := by
  have h1 := hR.c1
  clear hR
  go_enter Tryd.func15, Tryd.ntmps15
  go_wp2
  go_ret2
  exact ⟨rfl, rfl⟩
set_option maxRecDepth 100000 in
set_option maxHeartbeats 4000000 in
theorem write2_walk {lo : Nat} {w : World} {g : Nat} {v : Value} {B : List Int} (hR : Rm lo w g v B false) (A : Option Addr) (n c : Nat) (l : List Int) (hn : l.length = n) (hl : Kd.C (Kd.int .u8) w A n l) (hc : n ≤ c) (hlo : lo ≤ w.heap.size)
    (hby : Byt (B ++ l)) (hsz : (B ++ l).length ≤ 5000000000000) (bs : List (List Int)) (left : List Int) (er : Int) (hbod : bodT (B ++ l) = (bs, left, er)) :
    Calls Tryd.prog 15 #[.pointer (some ⟨g, 0, none⟩), .slice A n c] w fun e w' => ∃ vo v', e = .returned (.tuple #[vo, .int .i64 (if er = 3 then 0 else er)]) ∧
      Kd.R (Kd.slice 5 (Kd.int .u8)) 27 w' w.heap.size (fun _ => True) vo bs ∧
      Rm lo w' g v' (if er = 3 then left else []) (decide (er ≠ 3)) ∧ (∀ k, v'.ownBlock = some k → w.heap.size ≤ k) ∧ Below lo w w' ∧ (∀ k, k < w.heap.size → k ≠ g → w'.heap[k]? = w.heap[k]?) := by
  obtain ⟨X, hX⟩ : ∃ X, B ++ l = X := ⟨_, rfl⟩
  have HSa := Aside0.mk (show B.length + n ≤ 5000000000000 by rw [List.length_append] at hsz; omega)
  rw [hX] at hby hsz hbod
  have HX := Aside0.mk hX
  have HBOD := Aside0.mk hbod
  have HL := Aside0.mk hl
  have HBy := Aside0.mk hby
  have HSZ := Aside0.mk hsz
  obtain ⟨Av, cv, rfl⟩ := Kd.R_slice hR.row
  have h0 := hR.c0
  have h1 := hR.c1
  have HR := Aside0.mk hR
  have HRR := Aside0.mk (Kd.R_reads' hR.row)
  have HLO := Aside0.mk hlo
  have HNC := Aside0.mk hc
  clear hX hbod hl hby hsz hR hlo hc
  go_enter Tryd.func15, Tryd.ntmps15
  go_upto_region 4 with (first
    | (go_at_call 13; (with_reducible refine (copy_calls rfl HRR.out.2.2 HRR.out.2.1 (by have := HSa.out; omega)).mono ?_); rintro e w1 ⟨A1, c1, rfl, r_, b_⟩; have R1 := Aside0.mk r_; have B1 := Aside0.mk b_; clear r_ b_)
    | (at_builtin; refine Kd.R_append_row (Value.int .u8) 0 (w0 := w) w.heap.size rfl _ _ 27 5 (.int .u8 0) 1 rfl Tryd.underlying27 info5 rfl (by decide) _ _ l _ _ _ (fun _ => True) rfl rfl (fun _ _ => trivial) R1.out (Kd.C_below HL.out B1.out) B1.out (by have := B1.out.size; simp; omega) (by have := HSa.out; omega) ?_; intro v2 w2 o_ b_ g_ a_; rw [HX.out] at o_; obtain ⟨A2, c2, rfl⟩ := Kd.R_slice o_; have R2 := Aside0.mk o_; have B2 := Aside0.mk b_; clear o_ b_ g_ a_)
    | (go_at_call 22; (refine (bodies2 rfl (Kd.R_reads' R2.out).2.2 (Kd.R_reads' R2.out).2.1 HBy.out HSZ.out bs left er HBOD.out).mono ?_); rintro e w3 ⟨v3, A3, c3, rfl, r_, q_, b_⟩; have R3 := Aside0.mk r_; have L3 := Aside0.mk q_; have B3 := Aside0.mk b_; clear r_ q_ b_))
  have hb3 : Below w.heap.size w w3 := B2.out.trans (B3.out.mono B2.out.size)
  have HB3 := Aside0.mk hb3
  have hgl := HR.out.lt
  have kg := (hb3.block g hgl).trans HR.out.blk
  have kf := blk_frozen kg 0
  have kc0 := blk_cell kg 0
  simp at kc0
  have kg1 := blk_set kg 0 (.slice A3 left.length c3)
  have hg2 : g < w2.heap.size := Nat.lt_of_lt_of_le hgl B2.out.size
  have hrow : ∀ (W : World), (∀ k, w2.heap.size ≤ k → W.heap[k]? = w3.heap[k]?) → Kd.R (Kd.slice 5 (Kd.int .u8)) 27 W w.heap.size (fun _ => True) v3 bs ∧ Kd.R (Kd.int .u8) 5 W lo (fun _ => True) (.slice A3 left.length c3) left := fun W hW =>
    ⟨Kd.R_mono (Kd.R_lower (Kd.R_step (Kd.R_bound R3.out) fun k hk _ => hW k hk.2.1) B2.out.size) fun _ _ => trivial, Kd.R_mono (Kd.R_lower (Kd.R_step (Kd.R_bound L3.out) fun k hk _ => hW k hk.2.1) (Nat.le_trans HLO.out B2.out.size)) fun _ _ => trivial⟩
  have HROW := Aside0.mk hrow
  have hnew : ∀ k, (Value.slice A3 left.length c3).ownBlock = some k → w.heap.size ≤ k := fun k hk => Nat.le_trans B2.out.size (Kd.R_base L3.out k hk)
  have HNEW := Aside0.mk hnew
  have HG2 := Aside0.mk hg2
  have HGL := Aside0.mk hgl
  have hk0 : ∀ k, k < w.heap.size → w3.heap[k]? = w.heap[k]? := hb3.block
  have HK0 := Aside0.mk hk0
  by_cases he : er = 3
  · subst he
    have t2 : ((3 : Int) == 3) = true := rfl
    have KG := Aside0.mk kg1
    clear hb3 hrow hnew kg1 hg2 hk0 hgl kg
    go_wp2
    go_ret2
    obtain ⟨r1, r2⟩ := HROW.out (w3.setCell ⟨g, 0, none⟩ (.slice A3 left.length c3)) fun k hk => Below.heap_setCell w3 ⟨g, 0, none⟩ _ k (by have := HG2.out; show k ≠ g; omega)
    exact ⟨v3, rfl, r1, .slice A3 left.length c3, ⟨by have := KG.out; simpa using this, r2, HR.out.lo⟩, HNEW.out, (HB3.out.mono HLO.out).setCell (p := ⟨g, 0, none⟩) HR.out.lo _, fun k hk hne => (Below.heap_setCell w3 ⟨g, 0, none⟩ _ k hne).trans (HK0.out k hk)⟩
  · have t2 : (er == 3) = false := by simpa using he
    have kf1 := blk_frozen kg1 0
    have kg2 := blk_set kg1 0 (.slice none 0 0)
    have kf2 := blk_frozen kg2 1
    have kg3 := blk_set kg2 1 (.bool true)
    have KG := Aside0.mk kg3
    have kc1 := blk_cell kg1 0
    have kc2 := blk_cell kg2 1
    simp at kc1 kc2
    clear hb3 hrow hnew kg1 kg2 kg3 hg2 hk0 hgl
    go_wp2
    go_ret2
    obtain ⟨r1, _⟩ := HROW.out (((w3.setCell ⟨g, 0, none⟩ (.slice A3 left.length c3)).setCell ⟨g, 0, none⟩ (.slice none 0 0)).setCell ⟨g, 1, none⟩ (.bool true)) fun k hk => by
      have hne : k ≠ g := by have := HG2.out; omega
      exact (Below.heap_setCell _ ⟨g, 1, none⟩ _ k hne).trans ((Below.heap_setCell _ ⟨g, 0, none⟩ _ k hne).trans (Below.heap_setCell w3 ⟨g, 0, none⟩ _ k hne))
    refine ⟨v3, by first | rfl | (rw [if_neg he]; rfl), r1, .slice none 0 0, ⟨by have := KG.out; simpa [he] using this, by first | exact Kd.R_nil _ _ _ _ _ | (rw [if_neg he]; exact Kd.R_nil _ _ _ _ _), HR.out.lo⟩, (fun k hk => by cases hk), (((HB3.out.mono HLO.out).setCell (p := ⟨g, 0, none⟩) HR.out.lo _).setCell (p := ⟨g, 0, none⟩) HR.out.lo _).setCell (p := ⟨g, 1, none⟩) HR.out.lo _, fun k hk hne => ?_⟩
    exact (Below.heap_setCell _ ⟨g, 1, none⟩ _ k hne).trans ((Below.heap_setCell _ ⟨g, 0, none⟩ _ k hne).trans ((Below.heap_setCell w3 ⟨g, 0, none⟩ _ k hne).trans (HK0.out k hk)))
end Go.Proofs.YthkmacgjekienaaDoor.P
/- FrameReads: what both readers answer to a piece; memory that is spoilt byte by byte. -/
namespace Go.Proofs.YthkmacgjekienaaDoor.P
attribute [-simp] List.length_drop List.length_take ByteArray.size_append
open Go.RowKit Go.Shelf Go.Proofs.YthkmacgjekienaaDoor.Pure Go.Proofs.YthkmacgjekienaaDoorW.PrintWords Go.Proofs.YthkmacgjekienaaDoorW.PrintLast Go.Proofs.YthkmacgjekienaaDoorW.PrintMore
set_option linter.unusedVariables false
set_option linter.unusedSimpArgs false
/-- a piece, to a reader: bodies, error, what is left, whether it is closed -/
noncomputable def wrF (cl : Bool) (B l : List Int) : List (List Int) × Int × List Int × Bool :=
  if cl then ([], 70, [], true) else ((bodT (B ++ l)).1, if (bodT (B ++ l)).2.2 = 3 then 0 else (bodT (B ++ l)).2.2, if (bodT (B ++ l)).2.2 = 3 then (bodT (B ++ l)).2.1 else [], decide ((bodT (B ++ l)).2.2 ≠ 3))
theorem wrF_facts {cl c2 : Bool} {B l B2 : List Int} {bs : List (List Int)} {E : Int} (h : wrF cl B l = (bs, E, B2, c2)) (hby : Byt (B ++ l)) :
    Byt B2 ∧ B2.length ≤ (B ++ l).length ∧ (c2 = true → B2 = []) ∧ bs.length ≤ (B ++ l).length ∧ ∀ x ∈ bs, x.length ≤ (B ++ l).length := by
  unfold wrF at h
  cases cl with
  | true =>
    simp at h
    obtain ⟨rfl, rfl, rfl, rfl⟩ := h
    exact ⟨(fun x hx => by cases hx), by simp, (fun _ => rfl), by simp, fun x hx => by cases hx⟩
  | false =>
    simp only [Bool.false_eq_true, if_false, Prod.mk.injEq] at h
    obtain ⟨rfl, rfl, rfl, rfl⟩ := h
    refine ⟨?_, ?_, ?_, bod_count _, bod_mem _⟩
    · split
      · exact (bod_left _ hby).1
      · exact fun x hx => by cases hx
    · split
      · exact (bod_left _ hby).2
      · simp
    · intro hc
      rw [if_neg (by simpa using hc)]
theorem rdw {w0 w : World} {g : Nat} {v : Value} {B : List Int} {cl : Bool} (hR : Rd w0.heap.size w g v B cl) (hcl : cl = true → B = []) (A : Option Addr) (n c : Nat) (x : List Int) (hn : x.length = n) (hl : Kd.C (Kd.int .u8) w A n x) (hc : n ≤ c) (hT : TAB w0) (hB : Below w0.heap.size w0 w)
    (hby : Byt (B ++ x)) (hsz : (B ++ x).length ≤ 5000000000000) (bs : List (List Int)) (E : Int) (B2 : List Int) (c2 : Bool) (k : Nat) (h : wrF cl B x = (bs, E, B2, c2)) (hk : bs.length = k) :
    Calls Tryd.prog 14 #[.pointer (some ⟨g, 0, none⟩), .slice A n c] w fun e w' => ∃ Ao co v', e = .returned (.tuple #[.slice Ao k co, .int .i64 E]) ∧
      Kd.R (Kd.slice 5 (Kd.int .u8)) 27 w' w.heap.size (fun q => w.heap.size ≤ q ∧ some q ≠ v'.ownBlock) (.slice Ao k co) bs ∧
      Rd w0.heap.size w' g v' B2 c2 ∧ (∀ q, v'.ownBlock = some q → w.heap.size ≤ q ∨ v.ownBlock = some q) ∧ Below w0.heap.size w0 w' ∧ (∀ q, q < w.heap.size → q ≠ g → some q ≠ v.ownBlock → w'.heap[q]? = w.heap[q]?) := by
  subst hk
  unfold wrF at h
  cases cl with
  | true =>
    simp at h
    obtain ⟨rfl, rfl, rfl, rfl⟩ := h
    obtain rfl := hcl rfl
    refine (write_closed hR _).mono ?_
    rintro e w' ⟨rfl, b⟩
    exact ⟨none, 0, v, rfl, Kd.R_nil _ _ _ _ _, hR.below b, fun q hq => .inr hq, hB.trans (b.mono hB.size), fun q hq _ _ => b.block q hq⟩
  | false =>
    obtain ⟨b0, l0, e0, h0⟩ : ∃ b l e, bodT (B ++ x) = (b, l, e) := ⟨_, _, _, rfl⟩
    have hct := bod_count (B ++ x)
    rw [h0] at h hct
    simp only [Bool.false_eq_true, if_false, Prod.mk.injEq] at h hct
    obtain ⟨rfl, rfl, rfl, rfl⟩ := h
    refine (write_walk hR A n c x hn hl hc hT hB hby (by omega) b0 l0 e0 h0 (by omega)).mono ?_
    rintro e w' ⟨vo, v', rfl, r1, r2, r3, r4, r5⟩
    obtain ⟨Ao, co, rfl⟩ := Kd.R_slice r1
    exact ⟨Ao, co, v', rfl, r1, r2, fun q hq => .inl (r3 q hq), r4, r5⟩
theorem rmw {lo : Nat} {w : World} {g : Nat} {v : Value} {B : List Int} {cl : Bool} (hR : Rm lo w g v B cl) (hcl : cl = true → B = []) (A : Option Addr) (n c : Nat) (x : List Int) (hn : x.length = n) (hl : Kd.C (Kd.int .u8) w A n x) (hc : n ≤ c) (hlo : lo ≤ w.heap.size)
    (hby : Byt (B ++ x)) (hsz : (B ++ x).length ≤ 5000000000000) (bs : List (List Int)) (E : Int) (B2 : List Int) (c2 : Bool) (k : Nat) (h : wrF cl B x = (bs, E, B2, c2)) (hk : bs.length = k) :
    Calls Tryd.prog 15 #[.pointer (some ⟨g, 0, none⟩), .slice A n c] w fun e w' => ∃ Ao co v', e = .returned (.tuple #[.slice Ao k co, .int .i64 E]) ∧
      (k ≤ co ∧ Kd.C (Kd.slice 5 (Kd.int .u8)) w' Ao k bs) ∧
      Rm lo w' g v' B2 c2 ∧ (∀ q, v'.ownBlock = some q → w.heap.size ≤ q ∨ v.ownBlock = some q) ∧ Below lo w w' ∧ (∀ q, q < w.heap.size → q ≠ g → w'.heap[q]? = w.heap[q]?) := by
  subst hk
  unfold wrF at h
  cases cl with
  | true =>
    simp at h
    obtain ⟨rfl, rfl, rfl, rfl⟩ := h
    obtain rfl := hcl rfl
    refine (write2_closed hR _).mono ?_
    rintro e w' ⟨rfl, rfl⟩
    exact ⟨none, 0, v, rfl, ⟨Nat.le_refl _, (Kd.R_reads' (Kd.R_nil (Kd.slice 5 (Kd.int .u8)) 27 w 0 (fun _ => True))).2.2⟩, hR, fun q hq => .inr hq, Below.refl _ _, fun q hq _ => rfl⟩
  | false =>
    obtain ⟨b0, l0, e0, h0⟩ : ∃ b l e, bodT (B ++ x) = (b, l, e) := ⟨_, _, _, rfl⟩
    rw [h0] at h
    simp only [Bool.false_eq_true, if_false, Prod.mk.injEq] at h
    obtain ⟨rfl, rfl, rfl, rfl⟩ := h
    refine (write2_walk hR A n c x hn hl hc hlo hby hsz b0 l0 e0 h0).mono ?_
    rintro e w' ⟨vo, v', rfl, r1, r2, r3, r4, r5⟩
    obtain ⟨Ao, co, rfl⟩ := Kd.R_slice r1
    exact ⟨Ao, co, v', rfl, (Kd.R_reads' r1).2, r2, fun q hq => .inl (r3 q hq), r4, r5⟩
/-- block g begins with n bytes -/
def El (W : World) (g n : Nat) : Prop := ∃ cells, W.heap[g]? = some (.cells cells 5 (0, 0)) ∧ ∀ j, j < n → ∃ y, cells[j]? = some (.int .u8 y)
theorem El.cell {W : World} {g n : Nat} (h : El W g n) (j : Nat) (hj : j < n) : (∃ y, W.cell? ⟨g, j, none⟩ = some (.int .u8 y)) ∧ W.frozen? ⟨g, j, none⟩ = false := by
  obtain ⟨cells, h1, h2⟩ := h
  obtain ⟨y, hy⟩ := h2 j hj
  exact ⟨⟨y, (blk_cell h1 j).trans hy⟩, blk_frozen h1 j⟩
theorem El.of_R {W : World} {base g n c : Nat} {ok : Nat → Prop} {xs : List Int} (h : Kd.R (Kd.int .u8) 5 W base ok (.slice (some ⟨g, 0, none⟩) n c) xs) : El W g n := by
  obtain ⟨rfl, h2, h3⟩ := Kd.R_reads' h
  obtain ⟨cells, hc⟩ := Kd.R_typed h g rfl
  refine ⟨cells, hc, fun j hj => ?_⟩
  obtain ⟨h4, _⟩ := Kd.R_cell (0 : Int) h (j : Int) (by omega) (by omega)
  have e : ((j : Int)).toNat = j := rfl
  rw [e] at h4
  have h5 := blk_cell hc j
  rw [h4] at h5
  exact ⟨_, h5.symm⟩
/-- only blocks of S have changed, and only bytes to bytes -/
structure Spo (S : Nat → Prop) (A B : World) : Prop where
  os : B.os = A.os
  tape : B.tape = A.tape
  output : B.output = A.output
  size : B.heap.size = A.heap.size
  keep : ∀ k, ¬ S k → B.heap[k]? = A.heap[k]?
  el : ∀ (g n : Nat), El A g n → El B g n
  oth : ∀ (g : Nat) (cells : Array Value), A.heap[g]? = some (Obj.cells cells 27 (0, 0)) → B.heap[g]? = some (Obj.cells cells 27 (0, 0))
theorem Spo.refl (S : Nat → Prop) (A : World) : Spo S A A := ⟨rfl, rfl, rfl, rfl, fun _ _ => rfl, fun _ _ h => h, fun _ _ h => h⟩
theorem Spo.trans {S : Nat → Prop} {A B C : World} (h : Spo S A B) (k : Spo S B C) : Spo S A C :=
  ⟨k.os.trans h.os, k.tape.trans h.tape, k.output.trans h.output, k.size.trans h.size, fun i hi => (k.keep i hi).trans (h.keep i hi), fun g n e => k.el g n (h.el g n e), fun g c e => k.oth g c (h.oth g c e)⟩
theorem Spo.set {S : Nat → Prop} {A : World} {g n j : Nat} (hS : S g) (h : El A g n) (hj : j < n) (y : Int) : Spo S A (A.setCell ⟨g, j, none⟩ (.int .u8 y)) := by
  obtain ⟨cells, h1, h2⟩ := h
  have hs := blk_set h1 j (.int .u8 y)
  refine ⟨rfl, rfl, rfl, by simp [World.setCell], fun k hk => Below.heap_setCell _ _ _ _ (fun e => hk (by have e2 : k = g := e; rw [e2]; exact hS)), fun g' n' h' => ?_, fun g' cells' h' => ?_⟩
  · by_cases e : g' = g
    · subst e
      obtain ⟨cells', h3, h4⟩ := h'
      rw [h1] at h3
      cases h3
      refine ⟨_, hs, fun i hi => ?_⟩
      by_cases e2 : i = j
      · subst e2
        obtain ⟨z, hz⟩ := h4 i hi
        have hlt := (Array.getElem?_eq_some_iff.1 hz).1
        exact ⟨y, by simp [hlt]⟩
      · obtain ⟨z, hz⟩ := h4 i hi
        exact ⟨z, by rw [Array.getElem?_setIfInBounds_ne (by omega)]; exact hz⟩
    · obtain ⟨cells', h3, h4⟩ := h'
      exact ⟨cells', (Below.heap_setCell A ⟨g, j, none⟩ _ g' e).trans h3, h4⟩
  · refine (Below.heap_setCell A ⟨g, j, none⟩ _ g' fun e => ?_).trans h'
    have e2 : g' = g := e
    rw [e2, h1] at h'
    cases h'
end Go.Proofs.YthkmacgjekienaaDoor.P
/- FrameReads: a round's memory. -/
namespace Go.Proofs.YthkmacgjekienaaDoor.P
attribute [-simp] List.length_drop List.length_take ByteArray.size_append
open Go.RowKit Go.Shelf Go.Proofs.YthkmacgjekienaaDoor.Pure Go.Proofs.YthkmacgjekienaaDoorW.PrintWords Go.Proofs.YthkmacgjekienaaDoorW.PrintLast Go.Proofs.YthkmacgjekienaaDoorW.PrintMore
set_option linter.unusedVariables false
set_option linter.unusedSimpArgs false
theorem Rm.moved {lo : Nat} {w W : World} {g : Nat} {v : Value} {B : List Int} {cl : Bool} (h : Rm lo w g v B cl) (hg : W.heap[g]? = w.heap[g]?) (hr : ∀ k, v.ownBlock = some k → W.heap[k]? = w.heap[k]?) : Rm lo W g v B cl := by
  refine ⟨hg.trans h.blk, ?_, h.lo⟩
  have h1 := Kd.R_tight (d := Kd.int .u8) rfl h.row
  exact Kd.R_mono (Kd.R_step h1 fun k hk _ => hr k hk.symm) fun _ _ => trivial
/-- between two rounds -/
structure FI (w wr : World) (g1 g2 n : Nat) (B : List Int) (cl : Bool) (v vm : Value) : Prop where
  rd : Rd w.heap.size wr g1 v B cl
  rm : Rm w.heap.size wr g2 vm B cl
  dis : ∀ k, v.ownBlock = some k → vm.ownBlock = some k → False
  be : Below w.heap.size w wr
  byt : Byt B
  le : B.length ≤ n
  cl0 : cl = true → B = []
/-- within a round: wr is where it began; the copy (vi) and what was answered (va) are new, and neither reader's -/
structure FX (w wr W : World) (g1 g2 : Nat) (B1 : List Int) (c1 : Bool) (v : Value) (B2 : List Int) (c2 : Bool) (vm vi : Value) (x : List Int) (va : Value) (bs : List (List Int)) : Prop where
  rd : Rd w.heap.size W g1 v B1 c1
  rm : Rm w.heap.size W g2 vm B2 c2
  dis : ∀ k, v.ownBlock = some k → vm.ownBlock = some k → False
  be : Below w.heap.size w W
  rin : Kd.R (Kd.int .u8) 5 W wr.heap.size (fun k => some k ≠ v.ownBlock ∧ some k ≠ vm.ownBlock) vi x
  ra : Kd.R (Kd.slice 5 (Kd.int .u8)) 27 W wr.heap.size (fun k => some k ≠ v.ownBlock ∧ some k ≠ vm.ownBlock) va bs
theorem FX.below {w wr W W' : World} {g1 g2 : Nat} {B1 : List Int} {c1 : Bool} {v : Value} {B2 : List Int} {c2 : Bool} {vm vi : Value} {x : List Int} {va : Value} {bs : List (List Int)} (h : FX w wr W g1 g2 B1 c1 v B2 c2 vm vi x va bs) (hb : Below W.heap.size W W') : FX w wr W' g1 g2 B1 c1 v B2 c2 vm vi x va bs :=
  ⟨h.rd.below hb, h.rm.below hb, h.dis, h.be.trans (hb.mono h.be.size), Kd.R_below h.rin hb, Kd.R_below h.ra hb⟩
theorem FI.ne {w wr : World} {g1 g2 n : Nat} {B : List Int} {cl : Bool} {v vm : Value} (h : FI w wr g1 g2 n B cl v vm) : g1 ≠ g2 := by
  rintro rfl
  have h1 := h.rd.blk
  rw [h.rm.blk] at h1
  cases h1
/-- r.Write -/
theorem step14 {w wr w2 : World} {g1 g2 n : Nat} {B : List Int} {cl : Bool} {v vm : Value} (h : FI w wr g1 g2 n B cl v vm) (hb : Below wr.heap.size wr w2) {A : Option Addr} {xn c : Nat} {x : List Int} (hn : x.length = xn) (hi : Kd.R (Kd.int .u8) 5 w2 wr.heap.size (fun _ => True) (.slice A xn c) x) (hT : TAB w)
    (hby : Byt (B ++ x)) (hsz : (B ++ x).length ≤ 5000000000000) (bs : List (List Int)) (E : Int) (B2 : List Int) (c2 : Bool) (k : Nat) (hw : wrF cl B x = (bs, E, B2, c2)) (hk : bs.length = k) :
    Calls Tryd.prog 14 #[.pointer (some ⟨g1, 0, none⟩), .slice A xn c] w2 fun e W1 => ∃ Ao co v1, e = .returned (.tuple #[.slice Ao k co, .int .i64 E]) ∧ FX w wr W1 g1 g2 B2 c2 v1 B cl vm (.slice A xn c) x (.slice Ao k co) bs := by
  obtain ⟨_, z1, z2⟩ := Kd.R_reads' hi
  rw [hn] at z2
  have hww : w.heap.size ≤ wr.heap.size := h.be.size
  have hne := h.ne
  have hg1 := h.rd.lt
  have hg2 := h.rm.lt
  have hvl : ∀ k, v.ownBlock = some k → k < wr.heap.size := Kd.R_lt h.rd.row
  have hml : ∀ k, vm.ownBlock = some k → k < wr.heap.size := Kd.R_lt h.rm.row
  have hs2 := hb.size
  have hm2 := h.rm.below hb
  refine (rdw (h.rd.below hb) h.cl0 A xn c x hn z2 z1 hT (h.be.trans (hb.mono hww)) hby hsz bs E B2 c2 k hw hk).mono ?_
  rintro e W1 ⟨Ao, co, v1, rfl, r1, r2, r3, r4, r5⟩
  refine ⟨Ao, co, v1, rfl, r2, ?_, ?_, r4, ?_, ?_⟩
  · refine hm2.moved (r5 g2 (by omega) (fun e => hne e.symm) ?_) fun q hq => r5 q (by have := hml q hq; omega) ?_ ?_
    · exact Kd.R_ne h.rd.row h.rm.blk (by decide)
    · rintro rfl
      exact Kd.R_ne h.rm.row h.rd.blk (by decide) hq.symm
    · exact fun e => h.dis q e.symm hq
  · intro q hq hq2
    rcases r3 q hq with h1 | h1
    · have := hml q hq2; omega
    · exact h.dis q h1 hq2
  · refine Kd.R_mono (Kd.R_step (Kd.R_bound hi) fun q hq hlt => r5 q hlt ?_ ?_) fun q hq => ⟨?_, ?_⟩
    · have := hq.2.1; omega
    · intro e; have := hvl q e.symm; have := hq.2.1; omega
    · intro e
      rcases r3 q e.symm with h1 | h1
      · have := hq.2.2.1; omega
      · have := hvl q h1; have := hq.2.1; omega
    · intro e; have := hml q e.symm; have := hq.2.1; omega
  · refine Kd.R_mono (Kd.R_lower r1 hs2) fun q hq => ⟨hq.2, fun e => ?_⟩
    have := hml q e.symm; have := hq.1; omega
/-- m.Write -/
theorem step15 {w wr W1 : World} {g1 g2 n : Nat} {B : List Int} {cl : Bool} {v vm : Value} (h : FI w wr g1 g2 n B cl v vm) {B2 : List Int} {c2 : Bool} {v1 vi va : Value} {x : List Int} {bs : List (List Int)} (hx : FX w wr W1 g1 g2 B2 c2 v1 B cl vm vi x va bs) {A : Option Addr} {xn c : Nat} (hn : x.length = xn) (hl : Kd.C (Kd.int .u8) W1 A xn x) (hc : xn ≤ c)
    (hby : Byt (B ++ x)) (hsz : (B ++ x).length ≤ 5000000000000) (E : Int) (k : Nat) (hw : wrF cl B x = (bs, E, B2, c2)) (hk : bs.length = k) :
    Calls Tryd.prog 15 #[.pointer (some ⟨g2, 0, none⟩), .slice A xn c] W1 fun e W2 => ∃ Ab cb vm1, e = .returned (.tuple #[.slice Ab k cb, .int .i64 E]) ∧ FX w wr W2 g1 g2 B2 c2 v1 B2 c2 vm1 vi x va bs ∧ k ≤ cb ∧ Kd.C (Kd.slice 5 (Kd.int .u8)) W2 Ab k bs := by
  have hww : w.heap.size ≤ wr.heap.size := h.be.size
  have hne := h.ne
  have hg1 := h.rd.lt
  have hg2 := h.rm.lt
  have hml : ∀ k, vm.ownBlock = some k → k < wr.heap.size := Kd.R_lt h.rm.row
  have hv1 : ∀ k, v1.ownBlock = some k → k < W1.heap.size := Kd.R_lt hx.rd.row
  refine (rmw hx.rm h.cl0 A xn c x hn hl hc hx.be.size hby hsz bs E B2 c2 k hw hk).mono ?_
  rintro e W2 ⟨Ab, cb, vm1, rfl, ⟨r0, r1⟩, r2, r3, r4, r5⟩
  have hs2 : W1.heap.size ≤ W2.heap.size := r4.size
  refine ⟨Ab, cb, vm1, rfl, ⟨?_, r2, ?_, hx.be.trans r4, ?_, ?_⟩, r0, r1⟩
  · refine hx.rd.moved (r5 g1 hx.rd.lt hne) fun q hq => r5 q (hv1 q hq) ?_
    rintro rfl
    exact Kd.R_ne hx.rd.row hx.rm.blk (by decide) hq.symm
  · intro q hq hq2
    rcases r3 q hq2 with h1 | h1
    · have := hv1 q hq; omega
    · exact hx.dis q hq h1
  · refine Kd.R_mono (Kd.R_step (Kd.R_bound hx.rin) fun q hq hlt => r5 q hlt ?_) fun q hq => ⟨hq.1.1, fun e => ?_⟩
    · have := hq.2.1; omega
    · rcases r3 q e.symm with h1 | h1
      · have := hq.2.2.1; omega
      · exact hq.1.2 h1.symm
  · refine Kd.R_mono (Kd.R_step (Kd.R_bound hx.ra) fun q hq hlt => r5 q hlt ?_) fun q hq => ⟨hq.1.1, fun e => ?_⟩
    · have := hq.2.1; omega
    · rcases r3 q e.symm with h1 | h1
      · have := hq.2.2.1; omega
      · exact hq.1.2 h1.symm
/-- what a round may spoil -/
def Sx (wr : World) (v vm : Value) (k : Nat) : Prop := wr.heap.size ≤ k ∧ some k ≠ v.ownBlock ∧ some k ≠ vm.ownBlock
theorem FI.next {w wr W wz : World} {g1 g2 n n2 : Nat} {B : List Int} {cl : Bool} {v vm : Value} (h : FI w wr g1 g2 n B cl v vm) {B2 : List Int} {c2 : Bool} {v1 vm1 vi va : Value} {x : List Int} {bs : List (List Int)} (hx : FX w wr W g1 g2 B2 c2 v1 B2 c2 vm1 vi x va bs) (hz : Spo (Sx wr v1 vm1) W wz) (hby : Byt B2) (hle : B2.length ≤ n2) (hc : c2 = true → B2 = []) :
    FI w wz g1 g2 n2 B2 c2 v1 vm1 := by
  have hww : w.heap.size ≤ wr.heap.size := h.be.size
  have hg1 := h.rd.lt
  have hg2 := h.rm.lt
  refine ⟨hx.rd.moved (hz.keep g1 fun e => ?_) fun q hq => hz.keep q fun e => e.2.1 hq.symm, hx.rm.moved (hz.keep g2 fun e => ?_) fun q hq => hz.keep q fun e => e.2.2 hq.symm, hx.dis, hx.be.trans ⟨hz.os, hz.tape, hz.output, Nat.le_of_eq hz.size.symm, fun q hq => hz.keep q fun e => ?_⟩, hby, hle, hc⟩
  · have := e.1; omega
  · have := e.1; omega
  · have := e.1; omega
/-- the copy, to be spoilt -/
theorem FX.el {w wr W : World} {g1 g2 : Nat} {B1 : List Int} {c1 : Bool} {v : Value} {B2 : List Int} {c2 : Bool} {vm va : Value} {x : List Int} {bs : List (List Int)} {A : Option Addr} {xn c : Nat} (h : FX w wr W g1 g2 B1 c1 v B2 c2 vm (.slice A xn c) x va bs) (h0 : 0 < xn) : ∃ g, A = some ⟨g, 0, none⟩ ∧ Sx wr v vm g ∧ El W g xn := by
  obtain ⟨z1, z2, z3⟩ := Kd.R_reads' h.rin
  obtain ⟨ad, rfl, _⟩ := z3.2.2 (by omega)
  obtain ⟨g, rfl⟩ := Kd.R_head h.rin
  exact ⟨g, rfl, ⟨Kd.R_base h.rin g rfl, h.rin.1 g rfl⟩, El.of_R h.rin⟩
/-- an element of what was answered, to be spoilt -/
theorem FX.ela {w wr W : World} {g1 g2 : Nat} {B1 : List Int} {c1 : Bool} {v : Value} {B2 : List Int} {c2 : Bool} {vm vi : Value} {x : List Int} {bs : List (List Int)} {A : Option Addr} {k c : Nat} (h : FX w wr W g1 g2 B1 c1 v B2 c2 vm vi x (.slice A k c) bs) (p : Nat) (hp : p < k) :
    ∃ ga Ai ni ci, A = some ⟨ga, 0, none⟩ ∧ (∃ cells, W.heap[ga]? = some (.cells cells 27 (0, 0))) ∧ W.cell? ⟨ga, p, none⟩ = some (.slice Ai ni ci) ∧ ni ≤ ci ∧ ni ≤ 9223372036854775807 ∧ (0 < ni → ∃ g, Ai = some ⟨g, 0, none⟩ ∧ Sx wr v vm g ∧ El W g ni) := by
  obtain ⟨z1, z2, z3⟩ := Kd.R_reads' h.ra
  obtain ⟨ad, rfl, _⟩ := z3.2.2 (by omega)
  obtain ⟨ga, rfl⟩ := Kd.R_head h.ra
  obtain ⟨cs, h1, ⟨vi', rfl, hR⟩, h3, h4⟩ := Kd.R_elem h.ra ([] : List Int) (p : Int) (by omega) (by omega)
  have e : ((p : Int)).toNat = p := rfl
  rw [e] at hR h3 h4
  have hcell := h3 0 vi' rfl
  rw [show p * (Kd.slice 5 (Kd.int .u8)).sz + 0 = p from by show p * 1 + 0 = p; omega] at hcell
  obtain ⟨Ai, ci, rfl⟩ := Kd.R_slice hR
  obtain ⟨_, y2, y3⟩ := Kd.R_reads' hR
  refine ⟨ga, Ai, _, ci, rfl, Kd.R_typed h.ra ga rfl, hcell, y2, ?_, fun h0 => ?_⟩
  · obtain ⟨inner, ho⟩ := Kd.R_own hR
    rcases ho.2 with ⟨e1, e2⟩ | ⟨g, cap, cur, e1, _, _, hnc, hmx, _⟩
    · omega
    · injection e1 with _ e3 e4
      simp only [maxLen] at hmx
      omega
  · obtain ⟨ad, rfl, _⟩ := y3.2.2 h0
    obtain ⟨g, rfl⟩ := Kd.R_head hR
    exact ⟨g, rfl, ⟨Kd.R_base hR g rfl, (hR.1 g rfl).1⟩, El.of_R hR⟩
end Go.Proofs.YthkmacgjekienaaDoor.P
/- FrameReads: the walk. -/
namespace Go.Proofs.YthkmacgjekienaaDoor.P
attribute [-simp] List.length_drop List.length_take ByteArray.size_append
open Go.RowKit Go.Shelf Go.Proofs.YthkmacgjekienaaDoor.Pure Go.Proofs.YthkmacgjekienaaDoorW.PrintWords Go.Proofs.YthkmacgjekienaaDoorW.PrintLast Go.Proofs.YthkmacgjekienaaDoorW.PrintMore
set_option linter.unusedVariables false
set_option linter.unusedSimpArgs false
theorem Spo.cell27 {S : Nat → Prop} {A B : World} {g p : Nat} {v : Value} (hz : Spo S A B) (h : ∃ cells, A.heap[g]? = some (.cells cells 27 (0, 0))) (hc : A.cell? ⟨g, p, none⟩ = some v) : B.cell? ⟨g, p, none⟩ = some v := by
  obtain ⟨cells, h⟩ := h
  rw [blk_cell (hz.oth g cells h) p, ← blk_cell h p]
  exact hc
theorem Spo.drew {S : Nat → Prop} {A B : World} (h : Spo S A B) : Spo S A B.drew := ⟨h.os, h.tape, h.output, h.size, h.keep, h.el, h.oth⟩
theorem take_rd (l : List (List Int)) (q : Nat) (h : q < l.length) : l.take (q + 1) = l.take q ++ [rd_L1 l (q : Int)] := by
  rw [List.take_add_one]
  congr 1
  unfold rd_L1
  rw [Int.toNat_natCast]
  simp [List.getD, h]
theorem FI.start {w : World} (n g1 g2 : Nat) (h1 : w.heap.size = g1) (h2 : (w.alloc (.cells #[.slice none 0 0, .bool true, .bool false] 57)).heap.size = g2) : FI w ((w.alloc (.cells #[.slice none 0 0, .bool true, .bool false] 57)).alloc (.cells #[.slice none 0 0, .bool false] 36)) g1 g2 n [] false (.slice none 0 0) (.slice none 0 0) := by
  have k1 := heap_alloc_new w (.cells #[.slice none 0 0, .bool true, .bool false] 57)
  have k2 := heap_alloc_new (w.alloc (.cells #[.slice none 0 0, .bool true, .bool false] 57)) (.cells #[.slice none 0 0, .bool false] 36)
  have hs : w.heap.size < g2 := by rw [← h2, World.size_alloc]; omega
  rw [h2] at k2
  rw [h1] at k1
  refine ⟨⟨(Below.heap_alloc _ _ _ (by rw [h2]; omega)).trans k1, Kd.R_nil _ _ _ _ _, by omega⟩, ⟨k2, Kd.R_nil _ _ _ _ _, by omega⟩, (fun k hk => by cases hk), below_alloc (below_alloc (Below.refl _ w) _) _, (fun x hx => by cases hx), Nat.zero_le _, fun h => by cases h⟩
set_option maxRecDepth 100000 in
set_option maxHeartbeats 4000000 in
theorem law_walk (ps : List (List Int)) (A : Option Addr) (n c : Nat) (w : World) (hn : ps.length = n) (hr : Kd.C (Kd.slice 5 (Kd.int .u8)) w A n ps) (hby : Byt ps.flatten) (hsz : ps.flatten.length ≤ 2000000) (hnb : n ≤ 9000000000000000000) (hT : TAB w) :
    Calls Tryd.prog 3 #[.slice A n c] w fun e w' => e = .returned (.bool true) ∧ Below w.heap.size w w' := by
  have HN := Aside0.mk hn
  have HR := Aside0.mk hr
  have HBy := Aside0.mk hby
  have HSZ := Aside0.mk hsz
  have HT := Aside0.mk hT
  clear hn hr hby hsz hT
  go_enter Tryd.func3, Tryd.ntmps3
  go_wp2_with (first
    | (go_at_call 11; (with_reducible refine (new_calls w).mono ?_); rintro e wn ⟨rfl, rfl⟩)
    | (go_at_call 12; (with_reducible refine (new2_calls _).mono ?_); rintro e wm ⟨rfl, rfl⟩))
  obtain ⟨g1, hg1⟩ : ∃ g, w.heap.size = g := ⟨_, rfl⟩
  obtain ⟨g2, hg2⟩ : ∃ g, (w.alloc (.cells #[.slice none 0 0, .bool true, .bool false] 57)).heap.size = g := ⟨_, rfl⟩
  have HF0 := Aside0.mk (FI.start (w := w) 0 g1 g2 hg1 hg2)
  rw [show w.heap.size + 1 = g2 from by rw [← hg2, World.size_alloc], hg1]
  clear hg1 hg2
  generalize (w.alloc (.cells #[.slice none 0 0, .bool true, .bool false] 57)).alloc (.cells #[.slice none 0 0, .bool false] 36) = wn at HF0 ⊢
  go_loopw [5, 6, 7, 8, 9, 10, 11, 12, 13] (fun i s6 s7 s8 s9 s10 s11 s12 s13 wr => ∃ (q : Nat) (B : List Int) (cl : Bool) (v vm : Value), q ≤ n ∧ q ≤ 40 ∧ i = .int .i64 q ∧ Aside0 (FI w wr g1 g2 (ps.take q).flatten.length B cl v vm)) (fun i s6 s7 s8 s9 s10 s11 s12 s13 _ => n - (intOf i).toNat)
  case atStart => exact ⟨0, [], false, _, _, Nat.zero_le _, Nat.zero_le _, rfl, ⟨by simpa using HF0.out⟩⟩
  case round =>
    obtain ⟨q, B, cl, v, vm, hq, hq4, rfl, HF⟩ := hrel
    clear HF0
    by_cases hlt : q < n ∧ q < 40
    · obtain ⟨h1, h2⟩ := hlt
      obtain ⟨ad, A0, c0, hA, hcell, hc0, hC⟩ := at_L1 HR.out (q : Int) (by omega) (by omega)
      subst hA
      have htk := take_rd ps q (by rw [HN.out]; omega)
      obtain ⟨x, hx⟩ : ∃ x, rd_L1 ps (q : Int) = x := ⟨_, rfl⟩
      rw [hx] at hcell hc0 hC htk
      obtain ⟨xn, hxn⟩ : ∃ n, x.length = n := ⟨_, rfl⟩
      rw [hxn] at hcell hc0 hC
      simp only [Int.toNat_natCast] at hcell
      have hfl : (ps.take (q + 1)).flatten = (ps.take q).flatten ++ x := by rw [htk]; simp
      have hpre : (ps.take (q + 1)).flatten ++ (ps.drop (q + 1)).flatten = ps.flatten := by rw [← List.flatten_append, List.take_append_drop]
      have hbx : Byt x := fun y hy => HBy.out y (by rw [← hpre, hfl]; exact List.mem_append_left _ (List.mem_append_right _ hy))
      have hlx : (ps.take q).flatten.length + xn ≤ 2000000 := by
        have h3 := HSZ.out
        rw [← hpre, List.length_append, hfl, List.length_append, hxn] at h3
        omega
      obtain ⟨bs, E, B2, c2, hw⟩ : ∃ bs E B2 c2, wrF cl B x = (bs, E, B2, c2) := ⟨_, _, _, _, rfl⟩
      obtain ⟨k, hk⟩ : ∃ k, bs.length = k := ⟨_, rfl⟩
      have hby2 : Byt (B ++ x) := Byt.app HF.out.byt hbx
      have hl2 : (B ++ x).length ≤ (ps.take q).flatten.length + xn := by rw [List.length_append, hxn]; have := HF.out.le; omega
      obtain ⟨f1, f2, f3, f4, f5⟩ := wrF_facts hw hby2
      obtain ⟨m2, hm2⟩ : ∃ m, B2.length = m := ⟨_, rfl⟩
      have CW := Aside0.mk (fun (W : World) (hb : Below w.heap.size w W) => (hb.cell (p := ad.add q) (World.block_lt_of_cell? _ _ hcell)).trans hcell)
      have CX := Aside0.mk (fun (W : World) (hb : Below w.heap.size w W) => Kd.C_below hC hb)
      have HC0 := Aside0.mk hc0
      have HXN := Aside0.mk hxn
      have HFL := Aside0.mk hfl
      have HLX := Aside0.mk hlx
      have HW := Aside0.mk hw
      have HK := Aside0.mk hk
      have HBY := Aside0.mk hby2
      have HL2 := Aside0.mk hl2
      have HM2 := Aside0.mk hm2
      have HB2 := Aside0.mk (show Byt B2 ∧ B2.length ≤ (ps.take (q + 1)).flatten.length ∧ (c2 = true → B2 = []) from ⟨f1, by rw [hfl, List.length_append, hxn]; omega, f3⟩)
      have HKL := Aside0.mk (show k ≤ 2000000 by omega)
      have HMEM := Aside0.mk (fun y (hy : y ∈ bs) => (show y.length ≤ 140737488353792 by have := f5 y hy; omega))
      have hcr := CW.out wr HF.out.be
      have t1 : decide (q < n) = true := decide_eq_true h1
      have t2 : decide ((q : Int) < 40) = true := decide_eq_true (by omega)
      have i1 : (q : Int) < (n : Int) := by omega
      have i0 : (0 : Int) ≤ (q : Int) := by omega
      have H1 := Aside0.mk h1
      have H4 := Aside0.mk h2
      have b1 : (E != E) = false := by simp
      have b2 : ((m2 : Int) != (m2 : Int)) = false := by simp
      have b3 : (c2 != c2) = false := by simp
      clear hC hc0 hx hxn htk hfl hpre hbx hlx hw hk hby2 hl2 f1 f2 f3 f4 f5 hm2 h1 h2 hcell
      go_upto_region 8 with (first
        | (go_at_call 13; (with_reducible refine (copy_calls HXN.out (CX.out wr HF.out.be) HC0.out (by have := HLX.out; omega)).mono ?_); rintro e w2 ⟨Ai, ci, rfl, r_, b_⟩; have RI := Aside0.mk r_; have BI := Aside0.mk b_; clear r_ b_)
        | (go_at_call 14; (with_reducible refine (step14 HF.out BI.out HXN.out RI.out HT.out HBY.out (by have := HL2.out; have := HLX.out; omega) bs E B2 c2 k HW.out HK.out).mono ?_); rintro e W1 ⟨Ao, co, v1, rfl, x_⟩; have FX1 := Aside0.mk x_; have hc7 := CW.out W1 x_.be; clear x_)
        | (go_at_call 15; (with_reducible refine (step15 HF.out FX1.out HXN.out (CX.out W1 FX1.out.be) HC0.out HBY.out (by have := HL2.out; have := HLX.out; omega) E k HW.out HK.out).mono ?_); rintro e W2 ⟨Ab, cb, vm1, rfl, x_, k1_, k2_⟩; have FX2 := Aside0.mk x_; have KB := Aside0.mk k1_; have KC := Aside0.mk k2_; have hc8 := CW.out W2 x_.be; have hIs := x_.rm.c1; clear x_ k1_ k2_))
      have RA := Aside0.mk (show k ≤ co ∧ Kd.C (Kd.slice 5 (Kd.int .u8)) W2 Ao k bs from by have h5 := (Kd.R_reads' FX2.out.ra).2; rw [HK.out] at h5; exact h5)
      have RI2 := Aside0.mk (show xn ≤ ci ∧ Kd.C (Kd.int .u8) W2 Ai xn x from by have h5 := (Kd.R_reads' FX2.out.rin).2; rw [HXN.out] at h5; exact h5)
      have L17 := Aside0.mk (fun (W : World) (hb : Below W2.heap.size W2 W) => (show Calls Tryd.prog 17 #[.pointer (some ⟨g1, 0, none⟩)] W fun e w' => e = .returned (.int .i64 m2) ∧ w' = W from (left_calls (FX2.out.rd.below hb)).mono fun e w' h => ⟨by rw [h.1, HM2.out], h.2.symm⟩))
      have L18 := Aside0.mk (fun (W : World) (hb : Below W2.heap.size W2 W) => (show Calls Tryd.prog 18 #[.pointer (some ⟨g2, 0, none⟩)] W fun e w' => e = .returned (.int .i64 m2) ∧ w' = W from (left2_calls (FX2.out.rm.below hb)).mono fun e w' h => ⟨by rw [h.1, HM2.out], h.2.symm⟩))
      have L19 := Aside0.mk (fun (W : World) (hb : Below W2.heap.size W2 W) => (show Calls Tryd.prog 19 #[.pointer (some ⟨g1, 0, none⟩)] W fun e w' => e = .returned (.bool c2) ∧ w' = W from (closed_calls (FX2.out.rd.below hb)).mono fun e w' h => ⟨h.1, h.2.symm⟩))
      go_quiet (first
        | (go_at_call 16; refine Calls.quiet_of (same_calls HK.out (by have := HKL.out; omega) HMEM.out (Kd.C_drewN RA.out.2 _) RA.out.1 (Kd.C_drewN KC.out _) KB.out))
        | (go_at_call 17; refine Calls.quiet_of_same (L17.out _ (pw_below_drewN (Below.refl _ _) _)))
        | (go_at_call 18; refine Calls.quiet_of_same (L18.out _ (pw_below_drewN (Below.refl _ _) _)))
        | (go_at_call 19; refine Calls.quiet_of_same (L19.out _ (pw_below_drewN (Below.refl _ _) _)))
        | (go_at_call 20; refine Calls.quiet_of (eq_calls HXN.out (Kd.C_drewN RI2.out.2 _) RI2.out.1 (Kd.C_drewN (CX.out W2 FX2.out.be) _) HC0.out (by have := HLX.out; omega))))
      have FX3 := Aside0.mk (FX2.out.below (pw_below_drewN (Below.refl W2.heap.size W2) nq))
      clear FX1 FX2 RA RI2 L17 L18 L19 KB KC hc8 hIs hc7 hcr BI RI b1 b2 b3 t1 t2 i1 i0
      generalize W2.drewN nq = Wm at FX3 ⊢
      obtain ⟨SX, hSX⟩ : ∃ S, Sx wr v1 vm1 = S := ⟨_, rfl⟩
      have HSX := Aside0.mk hSX
      have HNX := Aside0.mk (fun (wz : World) (hz : Spo SX Wm wz) => HF.out.next FX3.out (by rw [hSX]; exact hz) HB2.out.1 HB2.out.2.1 HB2.out.2.2)
      clear hSX
      go_wp2
      go_loopw [11] (fun i wz => ∃ j : Nat, j ≤ xn ∧ i = .int .i64 j ∧ Aside0 (Spo SX Wm wz)) (fun i _ => xn - (intOf i).toNat)
      case atStart => exact ⟨0, Nat.zero_le _, rfl, ⟨Spo.refl _ _⟩⟩
      case round =>
        obtain ⟨j, hj, rfl, HZ⟩ := hrel
        by_cases hlt : j < xn
        · obtain ⟨g, hg, hS, hE⟩ := FX3.out.el (by omega)
          subst hg
          obtain ⟨⟨y, q1⟩, q2⟩ := (HZ.out.el g xn hE).cell j hlt
          have t1 : decide (j < xn) = true := decide_eq_true hlt
          have z1 : (j : Int) < (xn : Int) := by omega
          have z0 : (0 : Int) ≤ (j : Int) := by omega
          have hw1 : wrap64 ((j : Int) + 1) = ((j + 1 : Nat) : Int) := by have := HLX.out; unfold wrap64; omega
          have HS := Aside0.mk (show SX g by rw [← HSX.out]; exact hS)
          have HE := Aside0.mk hE
          have HLT := Aside0.mk hlt
          clear hS hE hlt
          go_wp2
          refine ⟨⟨j + 1, HLT.out, by rw [hw1], ⟨HZ.out.trans (Spo.set HS.out (HZ.out.el g xn HE.out) HLT.out _)⟩⟩, ?_⟩
          have := HLT.out
          rw [hw1]
          simp only [intOf, Int.toNat_natCast]
          omega
        · have t1 : decide (j < xn) = false := decide_eq_false hlt
          clear hlt
          go_wp2
          go_loopw [12, 13] (fun i i13 wy => ∃ p : Nat, p ≤ k ∧ i = .int .i64 p ∧ Aside0 (Spo SX Wm wy)) (fun i i13 _ => k - (intOf i).toNat)
          case atStart => exact ⟨0, Nat.zero_le _, rfl, HZ⟩
          case round =>
            clear HZ
            obtain ⟨p, hp, rfl, HZ⟩ := hrel
            by_cases hlt : p < k
            · obtain ⟨ga, Ae, ne, ce, hga, hty, hce, hnc, hnl, hel⟩ := FX3.out.ela p hlt
              subst hga
              have hcy := HZ.out.cell27 hty hce
              have t1 : decide (p < k) = true := decide_eq_true hlt
              have z1 : (p : Int) < (k : Int) := by omega
              have z0 : (0 : Int) ≤ (p : Int) := by omega
              have hw1 : wrap64 ((p : Int) + 1) = ((p + 1 : Nat) : Int) := by have := HKL.out; unfold wrap64; omega
              have HLT := Aside0.mk hlt
              have HTY := Aside0.mk hty
              have HCE := Aside0.mk hce
              have HNC := Aside0.mk hnc
              have HNL := Aside0.mk hnl
              have HEL := Aside0.mk hel
              clear hlt hty hce hnc hnl hel
              go_wp2
              go_loopw [13] (fun i wx => ∃ j : Nat, j ≤ ne ∧ i = .int .i64 j ∧ Aside0 (Spo SX Wm wx)) (fun i _ => ne - (intOf i).toNat)
              case atStart => exact ⟨0, Nat.zero_le _, rfl, HZ⟩
              case round =>
                clear HZ hcy
                obtain ⟨j, hj, rfl, HZ⟩ := hrel
                have hcx := HZ.out.cell27 HTY.out HCE.out
                by_cases hlj : j < ne
                · obtain ⟨g, hg, hS, hE⟩ := HEL.out (by omega)
                  subst hg
                  obtain ⟨⟨y, q1⟩, q2⟩ := (HZ.out.el g ne hE).cell j hlj
                  have t3 : decide (j < ne) = true := decide_eq_true hlj
                  have y1 : (j : Int) < (ne : Int) := by omega
                  have y0 : (0 : Int) ≤ (j : Int) := by omega
                  have hw2 : wrap64 ((j : Int) + 1) = ((j + 1 : Nat) : Int) := by have := HNL.out; unfold wrap64; omega
                  have HS := Aside0.mk (show SX g by rw [← HSX.out]; exact hS)
                  have HE := Aside0.mk hE
                  have HLJ := Aside0.mk hlj
                  clear hS hE hlj
                  go_wp2
                  go_region
                  go_wp2
                  refine ⟨⟨j + 1, HLJ.out, by rw [hw2], ⟨HZ.out.drew.trans (Spo.set HS.out (HZ.out.drew.el g ne HE.out) HLJ.out _)⟩⟩, ?_⟩
                  have := HLJ.out
                  rw [hw2]
                  simp only [intOf, Int.toNat_natCast]
                  omega
                · have t3 : decide (j < ne) = false := decide_eq_false hlj
                  clear hlj
                  go_wp2
                  refine ⟨⟨p + 1, HLT.out, by rw [hw1], HZ⟩, ?_⟩
                  have := HLT.out
                  rw [hw1]
                  simp only [intOf, Int.toNat_natCast]
                  omega
            · have t1 : decide (p < k) = false := decide_eq_false hlt
              have hw1 : wrap64 ((q : Int) + 1) = ((q + 1 : Nat) : Int) := by have := H4.out; unfold wrap64; omega
              clear hlt
              go_wp2
              have h1 := H1.out
              have h4 := H4.out
              try rw [hw1]
              refine ⟨⟨q + 1, B2, c2, v1, vm1, h1, h4, by push_cast; rfl, ⟨HNX.out _ HZ.out⟩⟩, ?_⟩
              simp only [intOf, Int.toNat_natCast]
              omega
    · have hc : (q < n ∧ ¬ q < 40) ∨ ¬ q < n := by omega
      rcases hc with ⟨h1, h2⟩ | h1
      · have t1 : decide (q < n) = true := decide_eq_true h1
        have t2 : decide ((q : Int) < 40) = false := decide_eq_false (by omega)
        have h1' : (q : Int) < (n : Int) := by omega
        have TW := Aside0.mk HF.out.be
        clear h1 h2 hlt
        go_wp2_with (go_at_call 21; (with_reducible refine (awake_calls HT.out TW.out).mono ?_); rintro e w9 ⟨rfl, b_⟩; have B9 := Aside0.mk b_; clear b_)
        go_ret
        exact ⟨rfl, B9.out⟩
      · have t1 : decide (q < n) = false := decide_eq_false h1
        have TW := Aside0.mk HF.out.be
        clear h1 hlt
        go_wp2_with (go_at_call 21; (with_reducible refine (awake_calls HT.out TW.out).mono ?_); rintro e w9 ⟨rfl, b_⟩; have B9 := Aside0.mk b_; clear b_)
        go_ret
        exact ⟨rfl, B9.out⟩
end Go.Proofs.YthkmacgjekienaaDoor.P
/- FrameAll: what a round does to what was got; an append within a round as an operation. -/
namespace Go.Proofs.YthkmacgjekienaaDoor.P
attribute [-simp] List.length_drop List.length_take ByteArray.size_append
open Go.RowKit Go.Shelf Go.Proofs.YthkmacgjekienaaDoor.Pure Go.Proofs.YthkmacgjekienaaDoorW.PrintWords Go.Proofs.YthkmacgjekienaaDoorW.PrintLast Go.Proofs.YthkmacgjekienaaDoorW.PrintMore
set_option linter.unusedVariables false
set_option linter.unusedSimpArgs false
theorem callsIn_round {l n : Nat} {P : Program} {g : FuncId} {args : Array Value} {w : World} {R : Ending → World → Prop} (h : Calls P g args w R) : CallsIn (Fence.wide.inRound l) n P g args w R := (callsIn_wide (n := n)).2 h
theorem grown_set (w : World) (b i : Nat) (v : Value) : w.grownBy (w.setCell ⟨b, i, none⟩ v) (some b) :=
  ⟨rfl, rfl, rfl, by simp [World.setCell], fun k _ hk => Below.heap_setCell _ _ _ _ (fun e => hk (by simp [e]))⟩
section
variable {F : Fence} {n : Nat} {P : Program} {o : Oper} {a : Act} {Q : Exit → Act → World → Prop} {K : Act → World → Prop} {α : Type}
/-- append(v, x) within a round, as an operation. -/
theorem in_append_op (d : Kd α) {W : World} (base : Nat) (s x : Operand) (t e : TypeId) (z : Value) (bytes : Nat)
    (ho : o.op = .call { callee := .builtin .append, args := #[s, x], argTypes := #[t, t] })
    (ht : P.underlying t = some (.slice e)) (hinfo : (P.info? e).map (fun i => (i.zero, i.size, i.bytes)) = some (some z, d.sz, bytes)) (hz : z.cells.size = d.sz) (hs0 : 0 < d.sz) (hb0 : 0 < bytes)
    (v : Value) (xs : List α) (p : α) (cs : List Value) (ok okp : Nat → Prop) (hs : a.eval s = v) (hx : a.eval x = .slice (some ⟨W.heap.size, 0, none⟩) 1 1) (hp : d.M W base okp p cs) (hokp : ∀ k, okp k → ok k ∧ some k ≠ v.ownBlock) (hfresh : ∀ k, W.heap.size ≤ k → ok k)
    (HO : d.R e W base ok v xs) (hbase : base ≤ W.heap.size) (hl : (xs.length + 1) * bytes ≤ 140737488355328)
    (h : ∀ v1 w1, d.R e w1 base ok v1 (xs ++ [p]) → W.grownBy w1 v.ownBlock → K (a.put o.dst v1) w1) :
    o.wpIn F n P a (W.alloc (.cells cs.toArray e)) K Q := by
  obtain ⟨h0, inner, hown, hr⟩ := HO
  obtain ⟨i0, hi, hzz⟩ := Option.map_eq_some_iff.1 hinfo
  simp only [Prod.mk.injEq] at hzz
  obtain ⟨hz0, hz1, hz2⟩ := hzz
  have hlen : xs.length + 1 ≤ 140737488355328 := Nat.le_trans (Nat.le_mul_of_pos_right _ hb0) hl
  have hcl := d.K_len (d.K_of_M hp)
  obtain ⟨v', w', hrun, r1, r2, _, r4⟩ := run_append_own_at (P := P) (W.alloc (.cells cs.toArray e)) base t o.type e i0 z d.sz bytes ht hi hz0 hz1 hz2 hz hs0 v xs.length inner (hown.alloc _) ⟨W.heap.size, 0, none⟩ 1 1 cs (by rw [hcl]; simp)
    (by simpa using World.news_of_block (cs := cs.toArray) (t := e) (fr := (0, 0)) (heap_alloc_new W (.cells cs.toArray e))) (d.K_one (d.K_of_M hp)) (by simp only [maxLen]; omega) hl (by simp; omega)
  have hg : W.grownBy w' v.ownBlock := World.grownBy.trans (World.grownBy_alloc W _ _) r2
  have hat : v'.ownBlock = v.ownBlock ∨ ∃ b, v'.ownBlock = some b ∧ W.heap.size ≤ b := by
    rcases r4 with r4 | r4
    · exact .inl r4
    · exact .inr ⟨_, r4, by simp⟩
  unfold Oper.wpIn
  refine ⟨?_, ?_⟩
  · simp [Oper.about, ho, resolve, Target.leads, Sem.run_pure]
  · rw [Oper.semAt_plain F _ _ (by rw [ho]; intro c hc'; cases hc')]
    simp [execOp, ho, resolve, invoke, builtin, hs, hx, hrun, Result.andThen]
    exact h v' w' (Kd.R_appended h0 hr hp hokp hfresh r1 hg hat) hg
end
/-- between two rounds: what was got lies below m, where the round ahead ended -/
structure AI (w wS : World) (bo j m : Nat) (pre : List (Value × List Int)) (W : World) : Prop where
  box : ∃ vo, Boxed W bo 22 vo ∧ Kd.R (Kd.slice 5 (Kd.int .u8)) 27 W wS.heap.size (fun k => wS.heap.size ≤ k ∧ k < m) vo (pre.map (·.2))
  le : pre.length ≤ j
  kp : ∀ k, k < wS.heap.size → k ≠ bo → W.heap[k]? = wS.heap[k]?
  be : Below w.heap.size wS W
theorem AI.start {w wS : World} {bo j m : Nat} (h : Boxed wS bo 22 (.slice none 0 0)) : AI w wS bo j m [] wS := ⟨⟨_, h, Kd.R_nil _ _ _ _ _⟩, Nat.zero_le _, fun _ _ _ => rfl, Below.refl _ _⟩
theorem AI.own {w wS : World} {bo j m : Nat} (hbo : bo < wS.heap.size) (h0 : w.heap.size ≤ wS.heap.size) : OwnFrom wS.heap.size (AI w wS bo j m) := fun pre W W' row hs hg hr => by
  obtain ⟨vo, h1, h2⟩ := hs.box
  refine ⟨⟨vo, h1.kept hg fun e => ?_, R_ownFrom h2 hg fun r e => (hr r e).2⟩, hs.le, fun k hk hb => (hg.block k (Nat.lt_of_lt_of_le hk hs.be.size) fun e => ?_).trans (hs.kp k hk hb), hs.be.grown hg (Nat.le_trans h0 hs.be.size) fun j e => Nat.le_trans h0 (hr j e).1⟩
  · have := (hr bo e.symm).1; omega
  · have := (hr k e.symm).1; omega
/-- a body is got, its element is spoilt -/
theorem AI.step {w wS : World} {bo j m : Nat} {pre : List (Value × List Int)} {W : World} (hs : AI w wS bo j m pre W) (hbo : bo < wS.heap.size) (h0 : w.heap.size ≤ bo) {g : Nat} (hg : g < wS.heap.size) (hgb : g ≠ bo) {vo v1 : Value} (h1 : Boxed W bo 22 vo) (h2 : Kd.R (Kd.slice 5 (Kd.int .u8)) 27 W wS.heap.size (fun k => wS.heap.size ≤ k ∧ k < m) vo (pre.map (·.2)))
    {x : Value × List Int} (hx : Kd.R (Kd.int .u8) 5 W wS.heap.size (fun k => m ≤ k) x.1 x.2) {Wc wa wr : World} (hc : Below W.heap.size W Wc) (r1 : Kd.R (Kd.slice 5 (Kd.int .u8)) 27 wa wS.heap.size (fun k => wS.heap.size ≤ k ∧ some k ≠ x.1.ownBlock) v1 (pre.map (·.2) ++ [x.2])) (r2 : Wc.grownBy wa vo.ownBlock)
    (hr : (wa.setCell ⟨bo, 0, none⟩ v1).grownBy wr x.1.ownBlock) (hj : pre.length < j) :
    KeepsFrom wS.heap.size W wr ∧ Kpp w g W wr ∧ AI w wS bo j wr.heap.size (pre ++ [x]) wr := by
  have hvo : ∀ k, vo.ownBlock = some k → wS.heap.size ≤ k := fun k e => Kd.R_base h2 k e
  have hxo : ∀ k, x.1.ownBlock = some k → wS.heap.size ≤ k := fun k e => Kd.R_base hx k e
  have hwS : wS.heap.size ≤ W.heap.size := hs.be.size
  have hw : w.heap.size ≤ W.heap.size := by omega
  have sa : W.heap.size ≤ wa.heap.size := Nat.le_trans hc.size r2.size
  have ss : (wa.setCell ⟨bo, 0, none⟩ v1).heap.size = wa.heap.size := by simp
  have kp : ∀ k, k < W.heap.size → k ≠ bo → some k ≠ vo.ownBlock → some k ≠ x.1.ownBlock → wr.heap[k]? = W.heap[k]? := fun k hk hb hv hxk =>
    (hr.block k (by rw [ss]; omega) hxk).trans ((Below.heap_setCell wa ⟨bo, 0, none⟩ v1 k hb).trans ((r2.block k (Nat.lt_of_lt_of_le hk hc.size) hv).trans (hc.block k hk)))
  have hbe : Below w.heap.size W wr := (((hc.mono hw).grown r2 (Nat.le_trans hw hc.size) fun k e => by have := hvo k e; omega).setCell (p := ⟨bo, 0, none⟩) h0 v1).grown hr (by rw [ss]; omega) fun k e => by have := hxo k e; omega
  have b1 : Boxed Wc bo 22 vo := (hc.block bo h1.lt).trans h1
  have b2 := b1.kept r2 (fun e => by have := hvo bo e.symm; omega)
  have b3 := (b2.set v1).kept hr (fun e => by have := hxo bo e.symm; omega)
  refine ⟨⟨?_, fun k o hk ho hoc => ?_⟩, ⟨hbe, fun hgl => kp g hgl hgb (fun e => by have := hvo g e.symm; omega) fun e => by have := hxo g e.symm; omega⟩, ⟨⟨v1, b3, ?_⟩, by rw [List.length_append, List.length_singleton]; exact hj, fun k hk hb => (kp k (by omega) hb (fun e => by have := hvo k e.symm; omega) fun e => by have := hxo k e.symm; omega).trans (hs.kp k hk hb), hs.be.trans hbe⟩⟩
  · have := hr.size; omega
  · refine (kp k (Array.getElem?_eq_some_iff.1 ho).1 ?_ ?_ ?_).trans ho
    · rintro rfl
      have h3 : W.heap[k]? = _ := h1
      rw [h3] at ho; cases ho; cases hoc
    · intro e
      obtain ⟨cells, h3⟩ := Kd.R_typed h2 k e.symm
      rw [h3] at ho; cases ho; cases hoc
    · intro e
      obtain ⟨cells, h3⟩ := Kd.R_typed hx k e.symm
      rw [h3] at ho; cases ho; cases hoc
  · rw [List.map_append]
    have r3 := Kd.R_far r1 (p := ⟨bo, 0, none⟩) (fun k hk e => by have e2 : k = bo := e; have := hk.1; omega) v1
    exact Kd.R_mono (Kd.R_bound (Kd.R_grown r3 hr fun k hk => hk.2)) fun k hk => ⟨hk.1.1, hk.2.2.1⟩
end Go.Proofs.YthkmacgjekienaaDoor.P
/- FrameAll. -/
namespace Go.Proofs.YthkmacgjekienaaDoor.P
attribute [-simp] List.length_drop List.length_take ByteArray.size_append
open Go.RowKit Go.Shelf Go.Proofs.YthkmacgjekienaaDoor.Pure Go.Proofs.YthkmacgjekienaaDoorW.PrintWords Go.Proofs.YthkmacgjekienaaDoorW.PrintLast Go.Proofs.YthkmacgjekienaaDoorW.PrintMore
set_option linter.unusedVariables false
set_option linter.unusedSimpArgs false
attribute [local go_sem] Oper.semAt_some max2_int min2_int max_two min_two
theorem bring_nat2 (a : Int) (nb : Nat) (hn : nb ≤ 140737488355000) : ∃ j : Nat, j ≤ nb + 1 ∧ ∀ w : World, Calls Tryd.prog 23 #[.int .i64 a, .int .i64 (nb + 2)] w fun e w' => e = .returned (.int .i64 j) ∧ Drawn0 w w' := by
  obtain ⟨t, h1, h2, h3⟩ := bring_some a (nb + 2) (by omega) (by omega)
  obtain ⟨j, rfl⟩ := Int.eq_ofNat_of_zero_le h2
  exact ⟨j, by omega, fun w => colophonref00_Bring.calls a (nb + 2) j w h1⟩
theorem want_calls {w : World} {A : Option Addr} {n c : Nat} {l : List Int} (hn : l.length = n) (h1 : Kd.C (Kd.int .u8) w A n l) (hc : n ≤ c) (hb : Byt l) (hl : n ≤ 5000000000000) (bs : List (List Int)) (k : Nat) (hbs : (bodT l).1 = bs) (hk : bs.length = k) :
    Calls Tryd.prog 22 #[.slice A n c] w fun e w' => ∃ Ab cb Al nl cl er, e = .returned (.tuple #[.slice Ab k cb, .slice Al nl cl, .int .i64 er]) ∧ k ≤ cb ∧ Kd.C (Kd.slice 5 (Kd.int .u8)) w' Ab k bs ∧ Below w.heap.size w w' := by
  refine (bodies_calls hn h1 hc hb hl).mono ?_
  rintro e w' ⟨Ab, cb, v1, rfl, h2, h3, h4, h5⟩
  obtain ⟨Al, cl, rfl⟩ := Kd.R_slice h4
  rw [hbs, hk] at h2 h3 ⊢
  exact ⟨Ab, cb, Al, _, cl, _, rfl, h2, h3, h5⟩
theorem calm_way {P : Program} {c : Code} {K : Act → World → Prop} {Q : Exit → Act → World → Prop} {a : Act} {w : World} (h : c.wp P (Exit.then K (fun _ _ _ => False)) a w) : c.wp P (Exit.then K Q) a w :=
  wp_mono h fun e a w h => by cases e <;> first | exact h | exact h.elim
set_option maxRecDepth 100000 in
set_option maxHeartbeats 4000000 in
theorem all_walk (l : List Int) (A : Option Addr) (c : Nat) (a1 : Int) (w : World) (hr : Kd.C (Kd.int .u8) w A l.length l) (hc : l.length ≤ c) (hby : Byt l) (hsz : l.length ≤ 2000000) (hT : TAB w) :
    Calls Tryd.prog 4 #[.slice A l.length c, .int .i64 a1] w fun e w' => e = .returned (.bool true) ∧ Below w.heap.size w w' := by
  have hmem := bod_mem l
  have hcnt := bod_count l
  obtain ⟨n, hn⟩ : ∃ n, l.length = n := ⟨_, rfl⟩
  obtain ⟨bs, hbs⟩ : ∃ bs, (bodT l).1 = bs := ⟨_, rfl⟩
  obtain ⟨k, hk⟩ : ∃ k, bs.length = k := ⟨_, rfl⟩
  rw [hn] at hr hc hsz hmem hcnt ⊢
  rw [hbs] at hmem hcnt
  rw [hk] at hcnt
  obtain ⟨j, hj, hB⟩ := bring_nat2 a1 k (by omega)
  have HBR := Aside0.mk hB
  have HJ := Aside0.mk hj
  have HN := Aside0.mk hn
  have HR := Aside0.mk hr
  have HT := Aside0.mk hT
  have HBy := Aside0.mk hby
  have HSZ := Aside0.mk hsz
  have HBS := Aside0.mk hbs
  have HK := Aside0.mk hk
  have HCN := Aside0.mk (show k ≤ 2000000 by omega)
  have HMEM := Aside0.mk (fun x (hx : x ∈ bs) => (show x.length ≤ 140737488353792 by have := hmem x hx; omega))
  have HMEM2 := Aside0.mk (fun x (hx : x ∈ bs) => (show x.length ≤ 2000000 by have := hmem x hx; omega))
  have HNC := Aside0.mk hc
  have hw2 : wrap64 ((k : Int) + 2) = (k : Int) + 2 := by unfold wrap64; omega
  clear hn hr hT hby hsz hbs hk hcnt hmem hc hB hj
  refine (callsIn_wide (n := 4)).1 ?_
  refine callsIn_of_wp_marks Tryd.func4 rfl trivial ?_ rfl
  refine wpIn_wide.2 ?_
  simp only [Tryd.ntmps4, List.size_toArray, List.length_cons, List.length_nil, Nat.reduceAdd, Nat.reduceSub, Array.replicate_succ, Array.replicate_zero, List.push_toArray, List.append_toArray, List.nil_append, List.cons_append]
  go_upto_region 3 with (first
    | (go_at_call 13; (with_reducible refine (copy_calls HN.out HR.out HNC.out (by have := HSZ.out; omega)).mono ?_); rintro e w2 ⟨A2, c2, rfl, h1_, h2_⟩; have R2 := Aside0.mk h1_; have B2 := Aside0.mk h2_; clear h1_ h2_)
    | (go_at_call 22; (with_reducible refine (want_calls HN.out (Kd.C_below HR.out B2.out) HNC.out HBy.out (by have := HSZ.out; omega) bs k HBS.out HK.out).mono ?_); rintro e w3 ⟨A3, c3, Al, nl, cl, er, rfl, h1_, h2_, h3_⟩; have R3 := Aside0.mk h1_; have C3 := Aside0.mk h2_; have B3 := Aside0.mk h3_; clear h1_ h2_ h3_))
  have hb3 : Below w.heap.size w w3 := B2.out.trans (B3.out.mono B2.out.size)
  have BW3 := Aside0.mk hb3
  have RI := Aside0.mk (Kd.R_below R2.out B3.out)
  have hfn := func_nil
  clear hb3 R2
  go_upto_region 5 with (go_at_call 23; (with_reducible refine (HBR.out _).mono ?_); rintro e w4 ⟨rfl, ⟨nd, rfl⟩⟩; have ha1 : ((w3.drewN nd).alloc (.cells #[.int .i64 0] 3)).cell? ⟨w3.heap.size, 0, none⟩ = some (.int .i64 0) := (heap_new_cell (w3.drewN nd) 3 _).1; have ha2 : ((w3.drewN nd).alloc (.cells #[.int .i64 0] 3)).frozen? ⟨w3.heap.size, 0, none⟩ = false := (heap_new_cell (w3.drewN nd) 3 _).2)
  have hbn : Boxed (((w3.drewN nd).alloc (.cells #[.int .i64 0] 3)).setCell ⟨w3.heap.size, 0, none⟩ (.int .i64 j)) w3.heap.size 3 (.int .i64 j) := (Boxed.new (w3.drewN nd) 3 (.int .i64 0)).set _
  have hbe : Below w3.heap.size w3 (((w3.drewN nd).alloc (.cells #[.int .i64 0] 3)).setCell ⟨w3.heap.size, 0, none⟩ (.int .i64 j)) := (below_alloc (pw_below_drewN (Below.refl w3.heap.size w3) nd) _).setCell (p := ⟨w3.heap.size, 0, none⟩) (Nat.le_refl _) _
  have hsz : (((w3.drewN nd).alloc (.cells #[.int .i64 0] 3)).setCell ⟨w3.heap.size, 0, none⟩ (.int .i64 j)).heap.size = w3.heap.size + 1 := by simp
  have BN5 := Aside0.mk (hbn.alloc (.cells #[.slice none 0 0] 22))
  have hbo5 := Boxed.new (((w3.drewN nd).alloc (.cells #[.int .i64 0] 3)).setCell ⟨w3.heap.size, 0, none⟩ (.int .i64 j)) 22 (.slice none 0 0)
  rw [hsz] at hbo5
  have BO5 := Aside0.mk hbo5
  have B5 := Aside0.mk (below_alloc hbe (.cells #[.slice none 0 0] 22))
  clear ha1 ha2 hbn hbe hsz hbo5
  obtain ⟨bn, hbn⟩ : ∃ bn, w3.heap.size = bn := ⟨_, rfl⟩
  rw [hbn] at BN5 BO5 B5 ⊢
  have HBNN := Aside0.mk hbn
  clear hbn
  obtain ⟨bo, hbo⟩ : ∃ bo, bn + 1 = bo := ⟨_, rfl⟩
  rw [hbo] at BO5 ⊢
  have HBOO := Aside0.mk hbo
  clear hbo
  generalize (((w3.drewN nd).alloc (.cells #[.int .i64 0] 3)).setCell ⟨bn, 0, none⟩ (.int .i64 j)).alloc (.cells #[.slice none 0 0] 22) = w5 at BN5 BO5 B5 ⊢
  have SZ5 := Aside0.mk (show bo < w5.heap.size from BO5.out.lt)
  go_upto_region 7 with (go_at_call 24; (with_reducible refine (all_calls A2 n c2 w5).mono ?_); rintro e w6 ⟨rfl, rfl⟩)
  have BN6 := Aside0.mk (BN5.out.alloc (.cells #[.slice A2 n c2] 27))
  have BO6 := Aside0.mk (BO5.out.alloc (.cells #[.slice A2 n c2] 27))
  have B6 := Aside0.mk (B5.out.trans ((below_alloc (Below.refl w5.heap.size w5) (.cells #[.slice A2 n c2] 27)).mono (by have := SZ5.out; have := HBOO.out; omega)))
  have SZ6 := Aside0.mk (show bo < (w5.alloc (.cells #[.slice A2 n c2] 27)).heap.size from BO6.out.lt)
  clear BN5 BO5 B5 SZ5
  generalize w5.alloc (.cells #[.slice A2 n c2] 27) = w6 at BN6 BO6 B6 SZ6 ⊢
  go_wp2_with (go_at_call 24; (with_reducible refine (all_calls A2 n c2 w6).mono ?_); rintro e w7 ⟨rfl, rfl⟩)
  have BN7 := Aside0.mk (BN6.out.alloc (.cells #[.slice A2 n c2] 27))
  have BO7 := Aside0.mk (BO6.out.alloc (.cells #[.slice A2 n c2] 27))
  have BX7 := Aside0.mk (Boxed.new w6 27 (.slice A2 n c2)).cell
  have B7 := Aside0.mk (B6.out.trans ((below_alloc (Below.refl w6.heap.size w6) (.cells #[.slice A2 n c2] 27)).mono (by have := SZ6.out; have := HBOO.out; omega)))
  have SZ7 := Aside0.mk (show bo < (w6.alloc (.cells #[.slice A2 n c2] 27)).heap.size from BO7.out.lt)
  have HBXN := Aside0.mk (show bo < w6.heap.size from SZ6.out)
  clear BN6 BO6 B6 SZ6
  generalize w6.heap.size = bx at BX7 HBXN ⊢
  generalize w6.alloc (.cells #[.slice A2 n c2] 27) = w7 at BN7 BO7 BX7 B7 SZ7 ⊢
  have HW0 := Aside0.mk (show w.heap.size ≤ bn by rw [← HBNN.out]; exact BW3.out.size)
  have HG0 := Aside0.mk (show w.heap.size ≤ w7.heap.size by have := HW0.out; have := HBOO.out; have := SZ7.out; omega)
  have BW7 := Aside0.mk (show Below w.heap.size w w7 from BW3.out.trans (B7.out.mono HW0.out))
  have RI7 := Aside0.mk (show Kd.R (Kd.int .u8) 5 w7 w.heap.size (fun _ => True) (.slice A2 n c2) l from Kd.R_below RI.out (by rw [HBNN.out]; exact B7.out))
  obtain ⟨e1_, e2_, e3_⟩ := R_C RI7.out
  obtain ⟨gb, hgb, hview, hne⟩ : ∃ gb, gb < w7.heap.size ∧ Vw gb w7 A2 n c2 l ∧ gb ≠ bo := by
    have hbx := World.block_lt_of_cell? _ _ BX7.out
    cases A2 with
    | none => exact ⟨bx, hbx, ⟨e1_, e3_, e2_, fun _ ad e => by cases e⟩, by have := HBXN.out; omega⟩
    | some ad =>
      obtain ⟨gb, rfl⟩ := Kd.R_head RI7.out
      obtain ⟨cells, hc⟩ := Kd.R_typed RI7.out gb rfl
      refine ⟨gb, blk_lt hc, ⟨e1_, e3_, e2_, fun _ ad e => by cases e; rfl⟩, ?_⟩
      rintro rfl
      have := BO7.out
      unfold Boxed at this
      rw [hc] at this; cases this
  have HV7 := Aside0.mk hview
  have HGB := Aside0.mk hgb
  have HNE := Aside0.mk hne
  clear hview hgb hne e1_ e2_ e3_
  refine (wpIn_wide (n := 4)).1 ?_
  refine rangeX rfl (by decide) (gf := 34) (lb := #[.pointer (some ⟨bx, 0, none⟩)]) rfl trivial (enters_of Tryd.func34 (by kernel_rfl) rfl) (all1_seq HV7.out HGB.out HBy.out (by have := HSZ.out; omega) HT.out BW7.out bx BX7.out) (fun m pre x => Hx_own m pre x) Kpp.trans (fun W l o o' => Kpp_book HG0.out HGB.out W l o o') (fun _ => rfl)
    (fun m pre W => AI w w7 bo j m pre W) (fun c pre W => c = Code.exit 0 ∧ ∃ p0 x m, pre = p0 ++ [x] ∧ p0.length = j ∧ AI w w7 bo j m p0 W) (fun m => AI.own SZ7.out HG0.out) ?own (AI.start BO7.out) ?a1 ?assign ?body ?done ?stop
  case own =>
    intro cd pre W W' row hs hg hr
    obtain ⟨h1, p0, x, m, h2, h3, h4⟩ := hs
    exact ⟨h1, p0, x, m, h2, h3, AI.own SZ7.out HG0.out p0 W W' row h4 hg hr⟩
  case assign =>
    intro l x W K hK
    gi_wp2
    exact hK
  case body =>
    rintro l' pre ⟨xv, xb⟩ m W hI hx
    obtain ⟨vo, h1, h2⟩ := hI.box
    obtain ⟨Ax, cx, rfl⟩ := Kd.R_slice (show Kd.R (Kd.int .u8) 5 W w7.heap.size (fun k => m ≤ k) xv xb from hx.1)
    have hXR : Kd.R (Kd.int .u8) 5 W w7.heap.size (fun k => m ≤ k) (.slice Ax xb.length cx) xb := hx.1
    have hlen : pre.length < k := by
      have h3 := (List.getElem?_eq_some_iff.1 hx.2.1).1
      rw [HBS.out, HK.out] at h3; exact h3
    have hxl : xb.length ≤ 2000000 := HMEM2.out xb (by have := List.mem_of_getElem? hx.2.1; rwa [HBS.out] at this)
    obtain ⟨xn, hxn⟩ : ∃ n, xb.length = n := ⟨_, rfl⟩
    obtain ⟨bp, hbp⟩ : ∃ bp, pre.map (·.2) = bp := ⟨_, rfl⟩
    obtain ⟨p, hp⟩ : ∃ p, pre.length = p := ⟨_, rfl⟩
    have hbl : bp.length = p := by rw [← hbp, List.length_map]; exact hp
    rw [hbp] at h2
    rw [hxn] at hXR hxl
    have hxn' := hxn
    obtain ⟨Ao, co, rfl⟩ := Kd.R_slice h2
    rw [hbl] at h1 h2
    rw [hp] at hlen
    have hle : p ≤ j := by have := hI.le; omega
    have HBP := Aside0.mk hbp
    have HP := Aside0.mk hp
    have HBL := Aside0.mk hbl
    have HXN := Aside0.mk hxn
    clear hbp hp hbl
    have hco := h1.cell
    have hcf := h1.frozen
    have BW := Aside0.mk (show Below w3.heap.size w3 W by rw [HBNN.out]; exact B7.out.trans ⟨hI.be.os, hI.be.tape, hI.be.output, hI.be.size, fun q hq => hI.kp q (by have := SZ7.out; have := HBOO.out; omega) (by have := HBOO.out; omega)⟩)
    have hcn : W.cell? ⟨bn, 0, none⟩ = some (.int .i64 j) := by
      have := BN7.out.cell
      have hnum : W.heap[bn]? = w7.heap[bn]? := hI.kp bn (by have := SZ7.out; have := HBOO.out; omega) (by have := HBOO.out; omega)
      unfold World.cell? at this ⊢
      rw [hnum]; exact this
    have H1 := Aside0.mk h1
    have H2 := Aside0.mk h2
    have HI := Aside0.mk hI
    have HX := Aside0.mk hXR
    have HXL := Aside0.mk hxl
    have HLN := Aside0.mk hlen
    have HXC := Aside0.mk (show xn = xn ∧ xn ≤ cx ∧ Kd.C (Kd.int .u8) W Ax xn xb from by have h5 := Kd.R_reads' hXR; rw [hxn'] at h5; exact h5)
    clear hI hx h1 h2 hlen hxl hXR
    dsimp only
    rw [hxn]
    clear hxn hxn'
    rcases Nat.eq_or_lt_of_le hle with e_ | hlt
    · have e9 : ((p : Int) == (j : Int)) = true := by rw [e_]; simp
      have HE9 := Aside0.mk e_
      clear hle e_
      gi_wp2
      exact ⟨KeepsFrom.refl _ _, rfl, pre, ⟨_, _, rfl⟩, by rw [HP.out, HE9.out], m, HI.out⟩
    · have e9 : ((p : Int) == (j : Int)) = false := by simp; omega
      have HLT := Aside0.mk hlt
      clear hle hlt
      gi_upto_region 10 with (fail)
      have hxo := Aside0.mk (fun k e => HX.out.1 k e)
      have hxl := Aside0.mk (fun k e => Kd.R_lt HX.out k e)
      have hvl := Aside0.mk (fun k e => Kd.R_lt H2.out k e)
      have HAP := Aside0.mk (fun k (hk : W.heap.size ≤ k) => (show (w7.heap.size ≤ k ∧ some k ≠ (Value.slice Ax xn cx).ownBlock) ∧ some k ≠ (Value.slice Ao p co).ownBlock from ⟨⟨Nat.le_trans HI.out.be.size hk, fun e => Nat.lt_irrefl _ (Nat.lt_of_lt_of_le (hxl.out k e.symm) hk)⟩, fun e => Nat.lt_irrefl _ (Nat.lt_of_lt_of_le (hvl.out k e.symm) hk)⟩))
      have H2' := Aside0.mk (show Kd.R (Kd.slice 5 (Kd.int .u8)) 27 W w7.heap.size (fun k => w7.heap.size ≤ k ∧ some k ≠ (Value.slice Ax xn cx).ownBlock) (.slice Ao p co) bp from Kd.R_mono H2.out fun k hk => ⟨hk.1, fun e => Nat.lt_irrefl _ (Nat.lt_of_lt_of_le hk.2 (hxo.out k e.symm))⟩)
      clear hxo hxl hvl
      refine wpIn_region_any (by kernel_rfl) ?_
      change wpAnyIn _ _ _ _ _ _ _ _ _ (World.drew _)
      repeat' (first
        | exact AllReadyIn.nil
        | (refine wpAnyIn_done (by decide +kernel) ?_ _)
        | (refine wpAnyIn_ready (rs := [0, 1]) (by decide +kernel) (by simp) ?_)
        | (refine wpAnyIn_ready (rs := [1]) (by decide +kernel) (by simp) ?_)
        | (refine wpAnyIn_ready (rs := [0, 2]) (by decide +kernel) (by simp) ?_)
        | (refine wpAnyIn_ready (rs := [2]) (by decide +kernel) (by simp) ?_)
        | (refine wpAnyIn_ready (rs := [0, 3]) (by decide +kernel) (by simp) ?_)
        | (refine wpAnyIn_ready (rs := [3]) (by decide +kernel) (by simp) ?_)
        | (refine wpAnyIn_ready (rs := [0]) (by decide +kernel) (by simp) ?_)
        | (refine wpAnyIn_ready (rs := [4]) (by decide +kernel) (by simp) ?_)
        | (refine wpAnyIn_ready (rs := [5]) (by decide +kernel) (by simp) ?_)
        | (refine BigFrame.allReadyIn_want rfl (by rfl) (fun K hK => ?_) ?_)
        | (refine in_append_op (Kd.slice 5 (Kd.int .u8)) w7.heap.size (.tmp 36) (.tmp 39) 22 27 (.slice none 0 0) 24 rfl Tryd.underlying22 info27 rfl (by decide) (by decide) (.slice Ao p co) bp xb [.slice Ac xn cc] (fun k => w7.heap.size ≤ k ∧ some k ≠ (Value.slice Ax xn cx).ownBlock) (fun k => W.heap.size ≤ k) rfl rfl CM.out HAP.out (fun k hk => (HAP.out k (Nat.le_trans BC.out.size hk)).1) HOc.out (Nat.le_trans HI.out.be.size BC.out.size) (by have := HBL.out; have := HLN.out; have := HCN.out; omega) ?_; intro v1 wa r1 r2; obtain ⟨A1, c1, e1⟩ := Kd.R_slice r1; rw [List.length_append, List.length_singleton, HBL.out] at e1; subst e1; have R1 := Aside0.mk r1; have R2 := Aside0.mk r2; have kb := (show Boxed wc bo 22 (.slice Ao p co) from (BC.out.block bo H1.out.lt).trans H1.out).kept r2 (fun e_ => by have := Kd.R_base H2.out _ e_.symm; have := SZ7.out; omega); have kc := kb.cell; have kf := kb.frozen; clear r1 r2 kb; refine hK _ _ ?_; clear hK K)
        | (go_simp; refine hK _ _ ?_; clear hK K)
        | (go_simp; refine ⟨trivial, ?_⟩; gi_at_call 13; ((with_reducible refine (callsIn_round (copy_calls HXN.out (Kd.C_below HXC.out.2.2 (by repeat (first | (with_reducible exact Below.refl _ _) | apply below_drew | apply pw_below_drewN))) HXC.out.2.1 (by have := HXL.out; omega))).mono ?_); rintro e wc ⟨Ac, cc, rfl, h1_, h2_⟩; have BC := Aside0.mk (show Below W.heap.size W wc from below_step (by repeat (first | (with_reducible exact Below.refl _ _) | apply below_drew | apply pw_below_drewN)) h2_); have hcc := (BC.out.cell (p := ⟨bo, 0, none⟩) H1.out.lt).trans hco; have hca := fun (o_ : Obj) => Lib.cell?_alloc_some o_ hcc; have CM := Aside0.mk (show (Kd.slice 5 (Kd.int .u8)).M wc w7.heap.size (fun k => W.heap.size ≤ k) xb [.slice Ac xn cc] from ⟨_, rfl, Kd.R_lower (Kd.R_mono (Kd.R_bound h1_) fun k hk => hk.2.1) HI.out.be.size⟩); have HOc := Aside0.mk (Kd.R_below H2'.out BC.out); clear h1_ h2_); refine hK _ _ ?_; clear hK K))
      all_goals
        have hxr : Kd.R (Kd.int .u8) 5 (wa.setCell ⟨bo, 0, none⟩ (.slice A1 (p + 1) c1)) w7.heap.size (fun _ => True) (.slice Ax xn cx) xb := by
          have q1 := Kd.R_bound (Kd.R_below HX.out BC.out)
          have q2 := Kd.R_grown (Kd.R_mono q1 fun k hk => (show m ≤ k ∧ w7.heap.size ≤ k from ⟨hk.1, hk.2.1⟩)) R2.out fun k hk e => by have h8 := (H2.out.1 k e.symm).2; have h9 := hk.1; omega
          exact Kd.R_mono (Kd.R_far q2 (p := ⟨bo, 0, none⟩) (fun k hk e => by have e2 : k = bo := e; have := hk.2; have := SZ7.out; omega) _) fun _ _ => trivial
        have HXR := Aside0.mk hxr
        clear hxr kc kf hcc hca hco hcf hcn
        gi_wp2
        gi_loopw [12] (fun i wr => ∃ (q : Nat) (ys : List Int), q ≤ xn ∧ i = .int .i64 q ∧ Aside0 (Kd.R (Kd.int .u8) 5 wr w7.heap.size (fun _ => True) (.slice Ax xn cx) ys) ∧ Aside0 ((wa.setCell ⟨bo, 0, none⟩ (.slice A1 (p + 1) c1)).grownBy wr (Value.slice Ax xn cx).ownBlock)) (fun i _ => xn - (intOf i).toNat)
        case atStart => exact ⟨0, xb, Nat.zero_le _, rfl, HXR, ⟨World.grownBy.refl _ _⟩⟩
        case round =>
          obtain ⟨q, ys, hq, rfl, HR', HG'⟩ := hrel
          by_cases hlt : q < xn
          · obtain ⟨g, hg⟩ : ∃ g, Ax = some ⟨g, 0, none⟩ := by
              cases Ax with
              | none =>
                obtain ⟨z1, z2, z3⟩ := Kd.R_reads' HR'.out
                obtain ⟨ad, e, _⟩ := z3.2.2 (by omega)
                cases e
              | some ad =>
                obtain ⟨g, rfl⟩ := Kd.R_head HR'.out
                exact ⟨g, rfl⟩
            subst hg
            obtain ⟨q1, q2⟩ := Kd.R_celln (0 : Int) HR'.out (q : Int) (by omega) (by omega)
            have q4 : ((q : Int)).toNat = q := rfl
            rw [q4] at q1 q2
            have t1 : decide (q < xn) = true := decide_eq_true hlt
            have z1 : (q : Int) < (xn : Int) := by omega
            have z0 : (0 : Int) ≤ (q : Int) := by omega
            have hw1 : wrap64 ((q : Int) + 1) = ((q + 1 : Nat) : Int) := by have := HXL.out; unfold wrap64; omega
            have HLT' := Aside0.mk hlt
            clear hlt
            gi_wp2
            refine ⟨⟨q + 1, _, HLT'.out, by rw [hw1], ⟨Kd.R_putn HR'.out (q : Int) _⟩, ⟨World.grownBy.trans HG'.out (grown_set wr g q _)⟩⟩, ?_⟩
            have := HLT'.out
            rw [hw1]
            simp only [intOf, Int.toNat_natCast]
            omega
          · have hqn : q = xn := by omega
            have t1 : decide (q < xn) = false := decide_eq_false hlt
            clear hlt
            gi_wp2
            exact AI.step HI.out SZ7.out (by have := HW0.out; have := HBOO.out; omega) HGB.out HNE.out H1.out (by rw [HBP.out]; exact H2.out) HX.out BC.out (by rw [HBP.out]; exact R1.out) R2.out HG'.out (by rw [HP.out]; exact HLT.out)
  case stop =>
    rintro D cd pre W hD ⟨k2, hk2⟩ ⟨rfl, p0, x, m, hp0, hp1, hI⟩ hDef
    obtain ⟨vo, h1, h2⟩ := hI.box
    rw [HBS.out, hp0, List.map_append] at hk2
    have hl2 := congrArg List.length hk2
    rw [List.length_append, List.length_map, List.length_take, HK.out, hp1] at hl2
    simp only [List.map_cons, List.map_nil, List.length_cons, List.length_nil] at hl2
    have hjk : j < k := by omega
    have hbp : p0.map (·.2) = bs.take j := by
      have h3 := congrArg (List.take j) hk2
      rw [List.take_take, List.take_append_of_le_length (by rw [List.length_map, hp1]; exact Nat.le_refl _), List.take_of_length_le (by rw [List.length_map, hp1]; exact Nat.le_refl _), Nat.min_eq_left (by omega)] at h3
      exact h3
    rw [hbp] at h2
    have htl : (bs.take j).length = j := by rw [List.length_take, HK.out]; omega
    obtain ⟨A7, c7, rfl⟩ := Kd.R_slice h2
    rw [htl] at h1 h2
    have hco := h1.cell
    have hBW : Below bn w3 W := B7.out.trans ⟨hI.be.os, hI.be.tape, hI.be.output, hI.be.size, fun q hq => hI.kp q (by have := SZ7.out; have := HBOO.out; omega) (by have := HBOO.out; omega)⟩
    have hnum : W.heap[bn]? = w7.heap[bn]? := hI.kp bn (by have := SZ7.out; have := HBOO.out; omega) (by have := HBOO.out; omega)
    have hcn : W.cell? ⟨bn, 0, none⟩ = some (.int .i64 j) := by
      have := BN7.out.cell
      unfold World.cell? at this ⊢
      rw [hnum]; exact this
    have BW := Aside0.mk (show Below w3.heap.size w3 W by rw [HBNN.out]; exact hBW)
    have BWW := Aside0.mk (BW3.out.trans (BW.out.mono BW3.out.size))
    have C7 := Aside0.mk (Kd.R_reads' h2)
    have HTL := Aside0.mk htl
    have CA := Aside0.mk (show Kd.C (Kd.slice 5 (Kd.int .u8)) W A3 j (bs.take j) by have h4 := Kd.C_below C3.out BW.out; rw [← HK.out] at h4; have h5 := Kd.C_take h4 (m := j) (by rw [HK.out]; omega); rwa [htl] at h5)
    have CI := Aside0.mk (Kd.C_below (R_C RI.out).2.2 BW.out)
    have CR := Aside0.mk (Kd.C_below HR.out BWW.out)
    have TW := Aside0.mk (HT.out.below BWW.out)
    have RC2 := Aside0.mk (R_C RI.out).2.1
    have HD := Aside0.mk hD
    have HDef := Aside0.mk hDef
    have HMT := Aside0.mk (fun x (hx : x ∈ bs.take j) => HMEM.out x (List.mem_of_mem_take hx))
    have HJ5 := Aside0.mk (show j ≤ 2000000 by have := HCN.out; omega)
    have HJC := Aside0.mk (show j ≤ c3 by have := R3.out; omega)
    have c8 : (j : Int) ≤ (c3 : Int) := by have := R3.out; omega
    have c9 : ((k : Int) < (j : Int)) = False := eq_false (by omega)
    have c10 : ((j : Int) < (k : Int)) = True := eq_true (by omega)
    have c11 : ((j : Int) ≤ (k : Int)) = True := eq_true (by omega)
    clear h1 h2 hI hD hDef hBW hnum hk2 hl2 hbp htl hp0 hp1 hjk
    refine wpIn_wide.2 ?_
    go_upto_region 15 with (fail)
    refine calm_way ?_
    go_region_with (first
      | (go_at_call 16; (with_reducible refine (same_calls HTL.out (by have := HJ5.out; omega) HMT.out (Kd.C_below (by have := C7.out.2.2; rwa [HTL.out] at this) (by repeat (first | (with_reducible exact Below.refl _ _) | apply below_drew | apply pw_below_drewN))) C7.out.2.1 (Kd.C_below CA.out (by repeat (first | (with_reducible exact Below.refl _ _) | apply below_drew | apply pw_below_drewN))) HJC.out).mono ?_); rintro e wa ⟨rfl, d1, rfl⟩)
      | (go_at_call 20; (with_reducible refine (eq_calls HN.out (Kd.C_below CI.out (by repeat (first | (with_reducible exact Below.refl _ _) | apply below_drew | apply pw_below_drewN))) RC2.out (Kd.C_below CR.out (by repeat (first | (with_reducible exact Below.refl _ _) | apply below_drew | apply pw_below_drewN))) HNC.out (by have := HSZ.out; omega)).mono ?_); rintro e wb ⟨rfl, d2, rfl⟩)
      | (go_at_call 21; (with_reducible refine (awake_calls TW.out (by repeat (first | (with_reducible exact Below.refl _ _) | apply below_drew | apply pw_below_drewN))).mono ?_); rintro e w9 ⟨rfl, b_⟩; have B9 := Aside0.mk b_; clear b_))
    all_goals
      go_wp2
      have e2 := (B9.out.block D (blk_lt HDef.out)).trans HDef.out
      refine ⟨by simp, .inl ⟨_, _, rfl, run_takeDeferred e2, ?_⟩⟩
      exact ⟨_, results_tmp rfl _ _ _, rfl, Below_put (BWW.out.trans (B9.out.mono BWW.out.size)) (Nat.le_trans HG0.out HD.out) _⟩
  case done =>
    intro D xs m W hD hxs hI hDef
    obtain ⟨vo, h1, h2⟩ := hI.box
    have hlj : k ≤ j := by
      have h3 := hI.le
      have h4 := congrArg List.length hxs
      rw [List.length_map, HBS.out, HK.out] at h4
      omega
    rw [hxs, HBS.out] at h2
    obtain ⟨A7, c7, rfl⟩ := Kd.R_slice h2
    rw [HK.out] at h1 h2
    have hco := h1.cell
    have hBW : Below bn w3 W := B7.out.trans ⟨hI.be.os, hI.be.tape, hI.be.output, hI.be.size, fun q hq => hI.kp q (by have := SZ7.out; have := HBOO.out; omega) (by have := HBOO.out; omega)⟩
    have hnum : W.heap[bn]? = w7.heap[bn]? := hI.kp bn (by have := SZ7.out; have := HBOO.out; omega) (by have := HBOO.out; omega)
    have hcn : W.cell? ⟨bn, 0, none⟩ = some (.int .i64 j) := by
      have := BN7.out.cell
      unfold World.cell? at this ⊢
      rw [hnum]; exact this
    have BW := Aside0.mk (show Below w3.heap.size w3 W by rw [HBNN.out]; exact hBW)
    have BWW := Aside0.mk (BW3.out.trans (BW.out.mono BW3.out.size))
    have C7 := Aside0.mk (Kd.R_reads' h2)
    have CA := Aside0.mk (Kd.C_below C3.out BW.out)
    have CI := Aside0.mk (Kd.C_below (R_C RI.out).2.2 BW.out)
    have CR := Aside0.mk (Kd.C_below HR.out BWW.out)
    have TW := Aside0.mk (HT.out.below BWW.out)
    have RC2 := Aside0.mk (R_C RI.out).2.1
    have HD := Aside0.mk hD
    have HDef := Aside0.mk hDef
    clear h1 h2 hI hD hDef hxs hBW hnum
    have c8 : (k : Int) ≤ (c3 : Int) := by have := R3.out; omega
    have c9 : ((k : Int) < (j : Int)) = True ∨ k = j := by
      rcases Nat.lt_or_ge k j with h | h
      · exact .inl (eq_true (by omega))
      · exact .inr (by omega)
    clear hlj
    rcases c9 with c9 | rfl
    all_goals
      go_upto_region 15 with (fail)
      refine calm_way ?_
      go_region_with (first
        | (go_at_call 16; (with_reducible refine (same_calls HK.out (by have := HCN.out; omega) HMEM.out (Kd.C_below (by have := C7.out.2.2; rwa [HK.out] at this) (by repeat (first | (with_reducible exact Below.refl _ _) | apply below_drew | apply pw_below_drewN))) C7.out.2.1 (Kd.C_below CA.out (by repeat (first | (with_reducible exact Below.refl _ _) | apply below_drew | apply pw_below_drewN))) R3.out).mono ?_); rintro e wa ⟨rfl, d1, rfl⟩)
        | (go_at_call 20; (with_reducible refine (eq_calls HN.out (Kd.C_below CI.out (by repeat (first | (with_reducible exact Below.refl _ _) | apply below_drew | apply pw_below_drewN))) RC2.out (Kd.C_below CR.out (by repeat (first | (with_reducible exact Below.refl _ _) | apply below_drew | apply pw_below_drewN))) HNC.out (by have := HSZ.out; omega)).mono ?_); rintro e wb ⟨rfl, d2, rfl⟩)
        | (go_at_call 21; (with_reducible refine (awake_calls TW.out (by repeat (first | (with_reducible exact Below.refl _ _) | apply below_drew | apply pw_below_drewN))).mono ?_); rintro e w9 ⟨rfl, b_⟩; have B9 := Aside0.mk b_; clear b_))
      all_goals
        go_wp2
        have e2 := (B9.out.block D (blk_lt HDef.out)).trans HDef.out
        refine ⟨by simp, .inl ⟨_, _, rfl, run_takeDeferred e2, ?_⟩⟩
        exact ⟨_, results_tmp rfl _ _ _, rfl, Below_put (BWW.out.trans (B9.out.mono BWW.out.size)) (Nat.le_trans HG0.out HD.out) _⟩
end Go.Proofs.YthkmacgjekienaaDoor.P
/- FrameNames: what is asked of its calls. -/
namespace Go.Proofs.YthkmacgjekienaaDoor.P
attribute [-simp] List.length_drop List.length_take ByteArray.size_append
open Go.RowKit Go.Shelf Go.Proofs.YthkmacgjekienaaDoor.Pure Go.Proofs.YthkmacgjekienaaDoorW.PrintWords Go.Proofs.YthkmacgjekienaaDoorW.PrintLast Go.Proofs.YthkmacgjekienaaDoorW.PrintMore
set_option linter.unusedVariables false
set_option linter.unusedSimpArgs false
/-- a reader that is none -/
def Nn (W : World) (p : Value) : Prop := ∀ W', Below W.heap.size W W' → Calls Tryd.prog 29 #[p] W' fun e w' => e = .returned (.bool true) ∧ W' = w'
theorem Nn.below {W W1 : World} {p : Value} (h : Nn W p) (hb : Below W.heap.size W W1) : Nn W1 p := fun W' h2 => h W' (below_step hb h2)
theorem Nn.nil (W : World) : Nn W (.pointer none) := fun W' _ => none_nil W'
theorem Nn.new (W : World) : Nn (W.alloc (.cells #[.slice none 0 0, .bool false, .bool false] 57)) (.pointer (some ⟨W.heap.size, 0, none⟩)) := fun W' hb => none_un (by
  have h := blk_cell (heap_alloc_new W (.cells #[.slice none 0 0, .bool false, .bool false] 57)) 1
  exact (hb.cell (p := ⟨W.heap.size, 1, none⟩) (by rw [World.size_alloc]; exact Nat.lt_succ_self _)).trans h)
theorem left_none {W : World} {p : Value} (h : Nn W p) : Calls Tryd.prog 17 #[p] W fun e w' => e = .returned (.int .i64 0) ∧ W = w' := by
  have H := Aside0.mk (h W (Below.refl _ _))
  clear h
  go_enter Tryd.func17, Tryd.ntmps17
  go_wp2_with (go_at_call 29; (with_reducible refine H.out.mono ?_); rintro e w' ⟨rfl, rfl⟩)
  go_ret
  exact ⟨rfl, rfl⟩
theorem closed_none {W : World} {p : Value} (h : Nn W p) : Calls Tryd.prog 19 #[p] W fun e w' => e = .returned (.bool false) ∧ W = w' := by
  have H := Aside0.mk (h W (Below.refl _ _))
  clear h
  go_enter Tryd.func19, Tryd.ntmps19
  go_wp2_with (go_at_call 29; (with_reducible refine H.out.mono ?_); rintro e w' ⟨rfl, rfl⟩)
  go_ret
  exact ⟨rfl, rfl⟩
theorem Lt_of' {w : World} {A : Option Addr} {n c : Nat} {x : List Int} (hn : x.length = n) (h : Kd.C (Kd.int .u8) w A n x) (hc : n ≤ c) : Lt w (A, n, c) x := by
  subst hn
  exact ⟨rfl, hc, fun W hW => Kd.C_below h hW⟩
theorem Lt.below {w w1 : World} {t : Tr} {x : List Int} (h : Lt w t x) (hb : Below w.heap.size w w1) : Lt w1 t x := ⟨h.1, h.2.1, fun W hW => h.2.2 W (below_step hb hW)⟩
theorem Lt.nil (w : World) : Lt w (none, 0, 0) [] := ⟨rfl, Nat.le_refl _, fun W _ => (Kd.R_reads' (Kd.R_nil (Kd.int .u8) 5 W 0 (fun _ => True))).2.2⟩
/-- FrameReads, of three pieces -/
theorem reads3 {w0 w : World} {A0 A1 A2 : Option Addr} {n0 n1 n2 c0 c1 c2 : Nat} {x0 x1 x2 : List Int} (h0 : Lt w0 (A0, n0, c0) x0) (h1 : Lt w0 (A1, n1, c1) x1) (h2 : Lt w0 (A2, n2, c2) x2) (hb : Below w0.heap.size w0 w) (hT : TAB w0) (hby : Byt x0 ∧ Byt x1 ∧ Byt x2) (hsz : n0 + n1 + n2 ≤ 2000000) :
    Calls Tryd.prog 3 #[.slice (some ⟨w.heap.size, 0, none⟩) 3 3] (w.alloc (.cells #[.slice A0 n0 c0, .slice A1 n1 c1, .slice A2 n2 c2] 27)) fun e w' => e = .returned (.bool true) ∧ Below w.heap.size w w' := by
  have hba := below_alloc hb (.cells #[.slice A0 n0 c0, .slice A1 n1 c1, .slice A2 n2 c2] 27)
  have hbl := heap_alloc_new w (.cells #[.slice A0 n0 c0, .slice A1 n1 c1, .slice A2 n2 c2] 27)
  obtain ⟨a1, a2, a3⟩ := h0
  obtain ⟨b1, b2, b3⟩ := h1
  obtain ⟨d1, d2, d3⟩ := h2
  have a4 := a3 _ hba
  have b4 := b3 _ hba
  have d4 := d3 _ hba
  simp only at a1 a2 a4 b1 b2 b4 d1 d2 d4
  subst a1 b1 d1
  have hC : Kd.C (Kd.slice 5 (Kd.int .u8)) (w.alloc (.cells #[.slice A0 x0.length c0, .slice A1 x1.length c1, .slice A2 x2.length c2] 27)) (some ⟨w.heap.size, 0, none⟩) 3 [x0, x1, x2] := by
    refine ⟨rfl, by decide, fun _ => ⟨⟨w.heap.size, 0, none⟩, rfl, fun j x hx => ?_⟩⟩
    match j, hx with
    | 0, hx =>
      cases hx
      refine ⟨[.slice A0 x0.length c0], rfl, ⟨A0, c0, rfl, a2, a4⟩, fun i v hv => ?_⟩
      cases i with
      | zero => cases hv; exact blk_cell hbl 0
      | succ i => cases hv
    | 1, hx =>
      cases hx
      refine ⟨[.slice A1 x1.length c1], rfl, ⟨A1, c1, rfl, b2, b4⟩, fun i v hv => ?_⟩
      cases i with
      | zero => cases hv; exact blk_cell hbl 1
      | succ i => cases hv
    | 2, hx =>
      cases hx
      refine ⟨[.slice A2 x2.length c2], rfl, ⟨A2, c2, rfl, d2, d4⟩, fun i v hv => ?_⟩
      cases i with
      | zero => cases hv; exact blk_cell hbl 2
      | succ i => cases hv
    | (j + 3), hx => cases hx
  have hfl : ([x0, x1, x2] : List (List Int)).flatten = x0 ++ (x1 ++ x2) := by simp
  refine (law_walk [x0, x1, x2] (some ⟨w.heap.size, 0, none⟩) 3 3 _ rfl hC (by rw [hfl]; exact Byt.app hby.1 (Byt.app hby.2.1 hby.2.2)) (by rw [hfl, List.length_append, List.length_append]; omega) (by decide) (hT.below hba)).mono ?_
  rintro e w' ⟨h1, h2⟩
  exact ⟨h1, below_step (below_alloc (Below.refl w.heap.size w) _) h2⟩
theorem reads3d {w0 w : World} {A0 A1 A2 : Option Addr} {n0 n1 n2 c0 c1 c2 : Nat} {x0 x1 x2 : List Int} (h0 : Lt w0 (A0, n0, c0) x0) (h1 : Lt w0 (A1, n1, c1) x1) (h2 : Lt w0 (A2, n2, c2) x2) (hb : Below w0.heap.size w0 w) (hT : TAB w0) (hby : Byt x0 ∧ Byt x1 ∧ Byt x2) (hsz : n0 + n1 + n2 ≤ 2000000) :
    Calls Tryd.prog 3 #[.slice (some ⟨w.heap.size, 0, none⟩) 3 3] (w.alloc (.cells #[.slice A0 n0 c0, .slice A1 n1 c1, .slice A2 n2 c2] 27)).drew fun e w' => e = .returned (.bool true) ∧ Below w.heap.size w w' := by
  have h := reads3 (w := w.drew) h0 h1 h2 (below_drew hb) hT hby hsz
  refine Calls.mono (show Calls Tryd.prog 3 #[.slice (some ⟨w.heap.size, 0, none⟩) 3 3] (w.alloc (.cells #[.slice A0 n0 c0, .slice A1 n1 c1, .slice A2 n2 c2] 27)).drew _ from h) fun e w' h => ⟨h.1, below_step (below_drew (Below.refl w.heap.size w)) h.2⟩
def ssN : Array Value := #[Value.string ⟨#[]⟩, Value.string ⟨#[67, 111, 110, 116, 101, 110, 116, 45, 76, 101, 110, 103, 116, 104, 58, 32, 48, 13, 10, 13, 10]⟩, Value.string ⟨#[67, 111, 110, 116, 101, 110, 116, 45, 76, 101, 110, 103, 116, 104, 58, 32, 51, 13, 10, 13, 10, 97, 98]⟩, Value.string ⟨#[67, 111, 110, 116, 101, 110, 116, 45, 76, 101, 110, 103, 116, 104, 58, 32, 49, 13, 10, 13, 10, 120, 67, 111, 110, 116, 101, 110, 116, 45, 76, 101, 110, 103, 116, 104, 58, 32, 49, 13, 10, 13, 10, 121, 13, 10]⟩, Value.string ⟨#[67, 111, 110, 116, 101, 110, 116, 45, 76, 101, 110, 103, 116, 104, 58, 32, 55, 48, 48, 48, 48, 13, 10, 13, 10]⟩, Value.string ⟨#[67, 111, 110, 116, 101, 110, 116, 45, 76, 101, 110, 103, 116, 104, 58, 32, 50, 13, 10, 13, 10, 97, 98, 88, 13, 10, 13, 10, 67, 111, 110, 116, 101, 110, 116, 45, 76, 101, 110, 103, 116, 104, 58, 32, 49, 13, 10, 13, 10, 120]⟩]
theorem ss_facts : ∀ i, i < 6 → ∃ s : ByteArray, ssN[i]? = some (.string s) ∧ s.size ≤ 100 ∧ Byt (bytesOf s) := by
  intro i hi
  match i, hi with
  | 0, _ => exact ⟨⟨#[]⟩, rfl, by decide, byt_lit (by decide +kernel)⟩
  | 1, _ => exact ⟨⟨#[67, 111, 110, 116, 101, 110, 116, 45, 76, 101, 110, 103, 116, 104, 58, 32, 48, 13, 10, 13, 10]⟩, rfl, by decide, byt_lit (by decide +kernel)⟩
  | 2, _ => exact ⟨⟨#[67, 111, 110, 116, 101, 110, 116, 45, 76, 101, 110, 103, 116, 104, 58, 32, 51, 13, 10, 13, 10, 97, 98]⟩, rfl, by decide, byt_lit (by decide +kernel)⟩
  | 3, _ => exact ⟨⟨#[67, 111, 110, 116, 101, 110, 116, 45, 76, 101, 110, 103, 116, 104, 58, 32, 49, 13, 10, 13, 10, 120, 67, 111, 110, 116, 101, 110, 116, 45, 76, 101, 110, 103, 116, 104, 58, 32, 49, 13, 10, 13, 10, 121, 13, 10]⟩, rfl, by decide, byt_lit (by decide +kernel)⟩
  | 4, _ => exact ⟨⟨#[67, 111, 110, 116, 101, 110, 116, 45, 76, 101, 110, 103, 116, 104, 58, 32, 55, 48, 48, 48, 48, 13, 10, 13, 10]⟩, rfl, by decide, byt_lit (by decide +kernel)⟩
  | 5, _ => exact ⟨⟨#[67, 111, 110, 116, 101, 110, 116, 45, 76, 101, 110, 103, 116, 104, 58, 32, 50, 13, 10, 13, 10, 97, 98, 88, 13, 10, 13, 10, 67, 111, 110, 116, 101, 110, 116, 45, 76, 101, 110, 103, 116, 104, 58, 32, 49, 13, 10, 13, 10, 120]⟩, rfl, by decide, byt_lit (by decide +kernel)⟩
  | (i + 6), hi => omega
theorem big_made (W : World) (m : Nat) (hm : m ≤ 1000000) : Kd.C (Kd.int .u8) (W.alloc (.cells (madeCells #[.int .u8 0] m) 5)) (some ⟨W.heap.size, 0, none⟩) m (List.replicate m 0) := by
  have h := Kd.R_reads' (show Kd.R (Kd.int .u8) 5 (W.alloc (.cells (madeCells #[.int .u8 0] m) 5)) W.heap.size (fun _ => True) (.slice (some ⟨W.heap.size, 0, none⟩) m m) (List.replicate m 0) from Kd.R_of_own (h1 := fun _ => rfl) (ok := fun _ => True) (own_made' W W.heap.size 5 .u8 m (Nat.le_refl _) (by omega)) (fun _ _ => trivial))
  rw [List.length_replicate] at h
  exact h.2.2
theorem all4 {w0 w : World} {A : Option Addr} {n c : Nat} {x : List Int} (a1 : Int) (h : Lt w0 (A, n, c) x) (hb : Below w0.heap.size w0 w) (hT : TAB w0) (hby : Byt x) (hsz : n ≤ 2000000) : Calls Tryd.prog 4 #[.slice A n c, .int .i64 a1] w fun e w' => e = .returned (.bool true) ∧ Below w.heap.size w w' := by
  obtain ⟨a, b, d⟩ := h
  have d2 := d w hb
  simp only at a b d2
  subst a
  exact all_walk x A c a1 w d2 b hby hsz (hT.below hb)
theorem made_Lt (W W' : World) (m : Nat) (hm : m ≤ 1000000) (hb : Below (W.alloc (.cells (madeCells #[.int .u8 0] m) 5)).heap.size (W.alloc (.cells (madeCells #[.int .u8 0] m) 5)) W') : Lt W' (some ⟨W.heap.size, 0, none⟩, m, m) (List.replicate m 0) :=
  Lt_of' (by simp) (Kd.C_below (big_made W m hm) hb) (Nat.le_refl _)
theorem byt_rep (m : Nat) : Byt (List.replicate m 0) := fun x hx => by
  rw [List.eq_of_mem_replicate hx]
  decide
theorem reads_z1 {w W : World} (hb : Below w.heap.size w W) (hT : TAB w) (m1 m2 : Nat) (h1 : m1 ≤ 1000) (h2 : m2 ≤ 1000) :
    Calls Tryd.prog 3 #[.slice (some ⟨W.heap.size + 1 + 1, 0, none⟩) 3 3] (((W.alloc (.cells (madeCells #[.int .u8 0] m1) 5)).alloc (.cells (madeCells #[.int .u8 0] m2) 5)).alloc (.cells #[.slice (some ⟨W.heap.size, 0, none⟩) m1 m1, .slice (some ⟨W.heap.size + 1, 0, none⟩) m2 m2, .slice none 0 0] 27)) fun e w' => e = .returned (.bool true) ∧ Below W.heap.size W w' := by
  have hs : (W.alloc (.cells (madeCells #[.int .u8 0] m1) 5)).heap.size = W.heap.size + 1 := World.size_alloc _ _
  have hs2 : ((W.alloc (.cells (madeCells #[.int .u8 0] m1) 5)).alloc (.cells (madeCells #[.int .u8 0] m2) 5)).heap.size = W.heap.size + 1 + 1 := by rw [World.size_alloc, hs]
  have l1 := made_Lt W ((W.alloc (.cells (madeCells #[.int .u8 0] m1) 5)).alloc (.cells (madeCells #[.int .u8 0] m2) 5)) m1 (by omega) (below_alloc (Below.refl _ _) _)
  have l2 := made_Lt (W.alloc (.cells (madeCells #[.int .u8 0] m1) 5)) ((W.alloc (.cells (madeCells #[.int .u8 0] m1) 5)).alloc (.cells (madeCells #[.int .u8 0] m2) 5)) m2 (by omega) (Below.refl _ _)
  rw [hs] at l2
  have h := reads3 l1 l2 (Lt.nil _) (Below.refl _ _) (hT.below (below_alloc (below_alloc hb _) _)) ⟨byt_rep _, byt_rep _, fun x hx => by cases hx⟩ (by omega)
  rw [hs2] at h
  refine h.mono fun e w' h => ⟨h.1, below_step (below_alloc (below_alloc (Below.refl W.heap.size W) _) _) (by rw [hs2]; exact h.2)⟩
theorem reads_z2 {w W : World} (hb : Below w.heap.size w W) (hT : TAB w) (m1 m2 : Nat) (h1 : m1 ≤ 1000) (h2 : m2 ≤ 1000) :
    Calls Tryd.prog 3 #[.slice (some ⟨W.heap.size + 1 + 1, 0, none⟩) 3 3] (((W.alloc (.cells (madeCells #[.int .u8 0] m2) 5)).alloc (.cells (madeCells #[.int .u8 0] m1) 5)).alloc (.cells #[.slice (some ⟨W.heap.size + 1, 0, none⟩) m1 m1, .slice (some ⟨W.heap.size, 0, none⟩) m2 m2, .slice none 0 0] 27)) fun e w' => e = .returned (.bool true) ∧ Below W.heap.size W w' := by
  have hs : (W.alloc (.cells (madeCells #[.int .u8 0] m2) 5)).heap.size = W.heap.size + 1 := World.size_alloc _ _
  have hs2 : ((W.alloc (.cells (madeCells #[.int .u8 0] m2) 5)).alloc (.cells (madeCells #[.int .u8 0] m1) 5)).heap.size = W.heap.size + 1 + 1 := by rw [World.size_alloc, hs]
  have l1 := made_Lt W ((W.alloc (.cells (madeCells #[.int .u8 0] m2) 5)).alloc (.cells (madeCells #[.int .u8 0] m1) 5)) m2 (by omega) (below_alloc (Below.refl _ _) _)
  have l2 := made_Lt (W.alloc (.cells (madeCells #[.int .u8 0] m2) 5)) ((W.alloc (.cells (madeCells #[.int .u8 0] m2) 5)).alloc (.cells (madeCells #[.int .u8 0] m1) 5)) m1 (by omega) (Below.refl _ _)
  rw [hs] at l2
  have h := reads3 l2 l1 (Lt.nil _) (Below.refl _ _) (hT.below (below_alloc (below_alloc hb _) _)) ⟨byt_rep _, byt_rep _, fun x hx => by cases hx⟩ (by omega)
  rw [hs2] at h
  refine h.mono fun e w' h => ⟨h.1, below_step (below_alloc (below_alloc (Below.refl W.heap.size W) _) _) (by rw [hs2]; exact h.2)⟩
theorem makes_nil {w : World} (hT : TAB2 w) : Calls Tryd.prog 7 #[.slice none 0 0] w fun e w' => e = .returned (.bool true) ∧ Below w.heap.size w w' :=
  makes_walk [] none 0 w (Kd.R_reads' (Kd.R_nil (Kd.int .u8) 5 w 0 (fun _ => True))).2.2 (Nat.le_refl _) (by decide) hT
end Go.Proofs.YthkmacgjekienaaDoor.P
/- FrameNames: the walk. -/
namespace Go.Proofs.YthkmacgjekienaaDoor.P
attribute [-simp] List.length_drop List.length_take ByteArray.size_append
open Go.RowKit Go.Shelf Go.Proofs.YthkmacgjekienaaDoor.Pure Go.Proofs.YthkmacgjekienaaDoorW.PrintWords Go.Proofs.YthkmacgjekienaaDoorW.PrintLast Go.Proofs.YthkmacgjekienaaDoorW.PrintMore
set_option linter.unusedVariables false
set_option linter.unusedSimpArgs false
theorem frame_big {w W : World} (hb : Below w.heap.size w W) (hT : TAB2 w) (m : Nat) (hm : m = 65536) : Calls Tryd.prog 27 #[.slice (some ⟨W.heap.size, 0, none⟩) m m] (W.alloc (.cells (madeCells #[.int .u8 0] m) 5)) fun e w' => ∃ A1 n1 c1 x, e = .returned (.tuple #[.slice A1 n1 c1, .int .i64 0]) ∧ Lt w' (A1, n1, c1) x ∧ Byt x ∧ 100 ≤ n1 ∧ n1 ≤ 70000 ∧ Below W.heap.size W w' := by
  have hl : (List.replicate m (0 : Int)).length = m := by simp
  refine (frame_calls _ m m (List.replicate m 0) _ hl (big_made W m (by omega)) (Nat.le_refl _) (by omega) (hT.below (below_alloc hb _))).mono ?_
  rintro e w' ⟨A1, c1, rfl, h1, h2, h3, h4⟩
  have hf : frT (List.replicate m 0) = (hdOf m ++ List.replicate m 0, 0) := by unfold frT; rw [if_pos (by omega), hl]
  rw [hf] at h1 h2 ⊢
  simp only at h1 h2 ⊢
  have hh := hd_len m (by omega)
  refine ⟨A1, _, c1, _, rfl, Lt_of' rfl h1 h2, Byt.app (byt_hdOf m) (byt_rep m), ?_, ?_, below_step (below_alloc (Below.refl W.heap.size W) _) h3⟩
  · rw [List.length_append, hl]; omega
  · rw [List.length_append, hl]; omega
theorem frame_more {w W : World} (hb : Below w.heap.size w W) (hT : TAB2 w) (m : Nat) (hm : m = 65537) : Calls Tryd.prog 27 #[.slice (some ⟨W.heap.size, 0, none⟩) m m] (W.alloc (.cells (madeCells #[.int .u8 0] m) 5)) fun e w' => ∃ A1 c1, e = .returned (.tuple #[.slice A1 0 c1, .int .i64 5]) ∧ Below W.heap.size W w' := by
  have hl : (List.replicate m (0 : Int)).length = m := by simp
  refine (frame_calls _ m m (List.replicate m 0) _ hl (big_made W m (by omega)) (Nat.le_refl _) (by omega) (hT.below (below_alloc hb _))).mono ?_
  rintro e w' ⟨A1, c1, rfl, h1, h2, h3, h4⟩
  have hf : frT (List.replicate m 0) = ([], 5) := by unfold frT; rw [if_neg (show ¬ (List.replicate m (0 : Int)).length ≤ 65536 by rw [hl]; omega)]
  rw [hf]
  exact ⟨A1, c1, rfl, below_step (below_alloc (Below.refl W.heap.size W) _) h3⟩
theorem make_big (m : Nat) (hm : m ≤ 1000000) (k : Int) (hk : k = (m : Int)) : ∀ W : World, (Instr.makeSlice 27 (.int .i64 k) (.int .i64 k)).run Tryd.prog W = .ok (.slice (some ⟨W.heap.size, 0, none⟩) m m) (W.alloc (.cells (madeCells #[.int .u8 0] m) 5)) := by
  subst hk
  exact print_make (P := Tryd.prog) 27 5 .u8 1 Tryd.underlying27 info5 (by decide) m (by omega)
set_option maxRecDepth 100000 in
set_option maxHeartbeats 4000000 in
theorem names_walk (w : World) (hT : TAB2 w) : Calls Tryd.prog 10 #[] w fun e w' => e = .returned (.bool true) ∧ Below w.heap.size w w' := by
  have HT := Aside0.mk hT
  have HT1 := Aside0.mk hT.tab
  have kc := fun (w : World) (C : Array Value) (n c : Nat) => Lib.run_convert_bytes_const (P := Tryd.prog) w 27 5 C n c Tryd.underlying27 Tryd.underlying5
  have HN0 := Aside0.mk (Nn.nil w)
  clear hT
  go_enter Tryd.func10, Tryd.ntmps10
  go_wp2
  go_loopw [1, 2, 3, 4] (fun p i s3 s4 wr => ∃ (q : Nat), q ≤ 2 ∧ i = .int .i64 q ∧ Aside0 (Nn wr p) ∧ Aside0 (Below w.heap.size w wr)) (fun p i s3 s4 _ => 2 - (intOf i).toNat)
  case atStart => exact ⟨0, Nat.zero_le _, rfl, HN0, ⟨Below.refl _ _⟩⟩
  case round =>
    clear HN0
    obtain ⟨q, hq, rfl, HN, HB⟩ := hrel
    by_cases hlt : q < 2
    · have t1 : decide ((q : Int) < 2) = true := decide_eq_true (by omega)
      have hw1 : wrap64 ((q : Int) + 1) = ((q + 1 : Nat) : Int) := by unfold wrap64; omega
      have HLT := Aside0.mk hlt
      clear hlt
      go_wp2_with (first
        | (go_at_call 14; (refine (write_none _ _ (fun W hW => HN.out W (by first | exact hW | exact below_step (below_alloc (Below.refl _ _) _) hW))).mono ?_); rintro e w2 ⟨rfl, b_⟩; have B2 := Aside0.mk (below_step (below_alloc (Below.refl wr.heap.size wr) _) b_); have HN2 := Aside0.mk (HN.out.below B2.out); clear b_)
        | (go_at_call 17; (with_reducible refine (left_none HN2.out).mono ?_); rintro e w_ ⟨rfl, rfl⟩)
        | (go_at_call 19; (with_reducible refine (closed_none HN2.out).mono ?_); rintro e w_ ⟨rfl, rfl⟩))
      have := HLT.out
      exact ⟨⟨q + 1, by omega, by first | (rw [hw1]) | (push_cast; rfl), ⟨Nn.new _⟩, ⟨below_alloc (HB.out.trans (B2.out.mono HB.out.size)) _⟩⟩, by first | (rw [hw1]; simp only [intOf, Int.toNat_natCast]; omega) | (simp only [intOf]; omega)⟩
    · have t1 : decide ((q : Int) < 2) = false := decide_eq_false (by omega)
      clear hlt HN
      obtain ⟨m1, hm1⟩ : ∃ m : Nat, m = 65536 := ⟨_, rfl⟩
      obtain ⟨m2, hm2⟩ : ∃ m : Nat, m = 65537 := ⟨_, rfl⟩
      have k1 := make_big m1 (by omega) 65536 (by omega)
      have k2 := make_big m2 (by omega) 65537 (by omega)
      have HM1 := Aside0.mk hm1
      have HM2 := Aside0.mk hm2
      clear hm1 hm2
      go_upto_region 11 with (first
        | (go_at_call 27; (with_reducible refine (frame_big HB.out HT.out m1 HM1.out).mono ?_); rintro e w3 ⟨A1, n1, c1, x1, rfl, l_, y_, p_, q_, b_⟩; have L3 := Aside0.mk l_; have Y3 := Aside0.mk y_; have P3 := Aside0.mk p_; have Q3 := Aside0.mk q_; have B3 := Aside0.mk (HB.out.trans (b_.mono HB.out.size)); clear l_ y_ p_ q_ b_)
        | (go_at_call 27; (with_reducible refine (frame_more B3.out HT.out m2 HM2.out).mono ?_); rintro e w4 ⟨A4, c4, rfl, b_⟩; have L4 := Aside0.mk (L3.out.below b_); have B4 := Aside0.mk (B3.out.trans (b_.mono B3.out.size)); clear b_))
      clear L3 B3 k1 k2
      obtain ⟨i0_, hi, _, hsz, _⟩ := info_parts info5
      have hn1 : n1 ≤ c1 := by have h5 := L4.out.1; have h6 := L4.out.2.1; simp only at h5 h6; omega
      have hp1 := P3.out
      have hcut : ∀ W : World, (Instr.slice 27 (.slice A1 n1 c1) none (some (.int .i64 100)) none).run Tryd.prog W = .ok (.slice A1 100 c1) W := cut_to (P := Tryd.prog) 27 5 .i64 Tryd.underlying27 hi A1 n1 c1 100 (by decide) (by omega) hn1
      have hfrom := cut_from (P := Tryd.prog) 27 5 .i64 Tryd.underlying27 hi 1 hsz A1 n1 c1 100 (by decide) (by omega)
      have e100 : (100 : Int).toNat = 100 := rfl
      rw [e100, Nat.mul_one] at hfrom
      have LT := Aside0.mk (L4.out.take 100 hp1)
      have ld := L4.out.drop 100 hp1
      obtain ⟨A5, hA5⟩ : ∃ A5, (if c1 = 100 then A1 else A1.map (·.add 100)) = A5 := ⟨_, rfl⟩
      obtain ⟨n5, hn5⟩ : ∃ n5, n1 - 100 = n5 := ⟨_, rfl⟩
      obtain ⟨c5, hc5⟩ : ∃ c5, c1 - 100 = c5 := ⟨_, rfl⟩
      rw [hA5, hn5, hc5] at hfrom ld
      have LD := Aside0.mk ld
      have Y5 := Aside0.mk (show Byt (x1.take 100) ∧ Byt (x1.drop 100) ∧ Byt x1 from ⟨fun y hy => Y3.out y (List.mem_of_mem_take hy), fun y hy => Y3.out y (List.mem_of_mem_drop hy), Y3.out⟩)
      have S5 := Aside0.mk (show 100 + n5 + n1 ≤ 2000000 by have := Q3.out; omega)
      have TW4 := Aside0.mk (HT1.out.below B4.out)
      have e0 : ((0 : Int) != 0) = false := rfl
      have e5 : ((5 : Int) != 5) = false := rfl
      clear hi hsz hn1 hp1 e100 hA5 hn5 hc5 ld
      refine wp_region_any (by kernel_rfl) ?_
      change wpAny _ _ _ _ _ _ _ (World.drew _)
      (refine wpAny_take (i := 0) (v := ?_) rfl (by kernel_rfl) (by kernel_rfl) (by kernel_rfl) (fun _ _ _ h => h) (Or.inl ⟨by rfl, ?_⟩) ?_; rotate_left; (focus (intro w_; go_simp; try with_reducible rfl)); (try simp only [List.getElem_toArray, List.getElem_cons_zero, List.getElem_cons_succ, Act.put, List.setIfInBounds_toArray, List.set_cons_zero, List.set_cons_succ]))
      (refine wpAny_take (i := 1) (v := ?_) rfl (by kernel_rfl) (by kernel_rfl) (by kernel_rfl) (fun _ _ _ h => h) (Or.inl ⟨by rfl, ?_⟩) ?_; rotate_left; (focus (intro w_; go_simp; try with_reducible rfl)); (try simp only [List.getElem_toArray, List.getElem_cons_zero, List.getElem_cons_succ, Act.put, List.setIfInBounds_toArray, List.set_cons_zero, List.set_cons_succ]))
      (refine wpAny_take (i := 2) (v := ?_) rfl (by kernel_rfl) (by kernel_rfl) (by kernel_rfl) (fun _ _ _ h => h) (Or.inl ⟨by rfl, ?_⟩) ?_; rotate_left; (focus (intro w_; go_simp; try with_reducible rfl)); (try simp only [List.getElem_toArray, List.getElem_cons_zero, List.getElem_cons_succ, Act.put, List.setIfInBounds_toArray, List.set_cons_zero, List.set_cons_succ]))
      (refine wpAny_take (i := 3) (v := ?_) rfl (by kernel_rfl) (by kernel_rfl) (by kernel_rfl) (fun _ _ _ h => h) (Or.inl ⟨by rfl, ?_⟩) ?_; rotate_left; (focus (intro w_; go_simp; try with_reducible rfl)); (try simp only [List.getElem_toArray, List.getElem_cons_zero, List.getElem_cons_succ, Act.put, List.setIfInBounds_toArray, List.set_cons_zero, List.set_cons_succ]))
      (refine wpAny_take (i := 4) (v := ?_) rfl (by kernel_rfl) (by kernel_rfl) (by kernel_rfl) (fun _ _ _ h => h) (Or.inl ⟨by rfl, ?_⟩) ?_; rotate_left; (focus (intro w_; go_simp; try with_reducible rfl)); (try simp only [List.getElem_toArray, List.getElem_cons_zero, List.getElem_cons_succ, Act.put, List.setIfInBounds_toArray, List.set_cons_zero, List.set_cons_succ]))
      (refine wpAny_take (i := 5) (v := ?_) rfl (by kernel_rfl) (by kernel_rfl) (by kernel_rfl) (fun _ _ _ h => h) (Or.inl ⟨by rfl, ?_⟩) ?_; rotate_left; (focus (intro w_; go_simp; try with_reducible rfl)); (try simp only [List.getElem_toArray, List.getElem_cons_zero, List.getElem_cons_succ, Act.put, List.setIfInBounds_toArray, List.set_cons_zero, List.set_cons_succ]))
      (refine wpAny_take (i := 6) (v := ?_) rfl (by kernel_rfl) (by kernel_rfl) (by kernel_rfl) (fun _ _ _ h => h) (Or.inl ⟨by rfl, ?_⟩) ?_; rotate_left; (focus (intro w_; go_simp; try with_reducible rfl)); (try simp only [List.getElem_toArray, List.getElem_cons_zero, List.getElem_cons_succ, Act.put, List.setIfInBounds_toArray, List.set_cons_zero, List.set_cons_succ]))
      (refine wpAny_take (i := 7) (v := ?_) rfl (by kernel_rfl) (by kernel_rfl) (by kernel_rfl) (fun _ _ _ h => h) (Or.inl ⟨by rfl, ?_⟩) ?_; rotate_left; (focus (intro w_; go_simp; try with_reducible rfl)); (try simp only [List.getElem_toArray, List.getElem_cons_zero, List.getElem_cons_succ, Act.put, List.setIfInBounds_toArray, List.set_cons_zero, List.set_cons_succ]))
      (refine wpAny_take (i := 8) (v := ?_) rfl (by kernel_rfl) (by kernel_rfl) (by kernel_rfl) (fun _ _ _ h => h) (Or.inl ⟨by rfl, ?_⟩) ?_; rotate_left; (focus (intro w_; go_simp; try with_reducible rfl)); (try simp only [List.getElem_toArray, List.getElem_cons_zero, List.getElem_cons_succ, Act.put, List.setIfInBounds_toArray, List.set_cons_zero, List.set_cons_succ]))
      (refine wpAny_take (i := 9) (v := ?_) rfl (by kernel_rfl) (by kernel_rfl) (by kernel_rfl) (fun _ _ _ h => h) (Or.inl ⟨by rfl, ?_⟩) ?_; rotate_left; (focus (intro w_; go_simp; try with_reducible rfl)); (try simp only [List.getElem_toArray, List.getElem_cons_zero, List.getElem_cons_succ, Act.put, List.setIfInBounds_toArray, List.set_cons_zero, List.set_cons_succ]))
      (refine wpAny_take (i := 10) (v := ?_) rfl (by kernel_rfl) (by kernel_rfl) (by kernel_rfl) (fun _ _ _ h => h) (Or.inl ⟨by rfl, ?_⟩) ?_; rotate_left; (focus (intro w_; go_simp; try with_reducible rfl)); (try simp only [List.getElem_toArray, List.getElem_cons_zero, List.getElem_cons_succ, Act.put, List.setIfInBounds_toArray, List.set_cons_zero, List.set_cons_succ]))
      (refine wpAny_take (i := 11) (v := ?_) rfl (by kernel_rfl) (by kernel_rfl) (by kernel_rfl) (fun _ _ _ h => h) (Or.inl ⟨by rfl, ?_⟩) ?_; rotate_left; (focus (intro w_; go_simp; try with_reducible rfl)); (try simp only [List.getElem_toArray, List.getElem_cons_zero, List.getElem_cons_succ, Act.put, List.setIfInBounds_toArray, List.set_cons_zero, List.set_cons_succ]))
      (refine wpAny_take (i := 12) (v := ?_) rfl (by kernel_rfl) (by kernel_rfl) (by kernel_rfl) (fun _ _ _ h => h) (Or.inl ⟨by rfl, ?_⟩) ?_; rotate_left; (focus (intro w_; go_simp; try with_reducible rfl)); (try simp only [List.getElem_toArray, List.getElem_cons_zero, List.getElem_cons_succ, Act.put, List.setIfInBounds_toArray, List.set_cons_zero, List.set_cons_succ]))
      (refine wpAny_take (i := 13) (v := ?_) rfl (by kernel_rfl) (by kernel_rfl) (by kernel_rfl) (fun _ _ _ h => h) (Or.inl ⟨by rfl, ?_⟩) ?_; rotate_left; (focus (intro w_; go_simp; try with_reducible rfl)); (try simp only [List.getElem_toArray, List.getElem_cons_zero, List.getElem_cons_succ, Act.put, List.setIfInBounds_toArray, List.set_cons_zero, List.set_cons_succ]))
      (refine wpAny_take (i := 14) (v := ?_) rfl (by kernel_rfl) (by kernel_rfl) (by kernel_rfl) (fun _ _ _ h => h) (Or.inl ⟨by rfl, ?_⟩) ?_; rotate_left; (focus (intro w_; go_simp; try with_reducible rfl)); (try simp only [List.getElem_toArray, List.getElem_cons_zero, List.getElem_cons_succ, Act.put, List.setIfInBounds_toArray, List.set_cons_zero, List.set_cons_succ]))
      (refine wpAny_take (i := 15) (v := ?_) rfl (by kernel_rfl) (by kernel_rfl) (by kernel_rfl) (fun _ _ _ h => h) (Or.inl ⟨by rfl, ?_⟩) ?_; rotate_left; (focus (intro w_; go_simp; try with_reducible rfl)); (try simp only [List.getElem_toArray, List.getElem_cons_zero, List.getElem_cons_succ, Act.put, List.setIfInBounds_toArray, List.set_cons_zero, List.set_cons_succ]))
      (refine wpAny_take (i := 16) (v := ?_) rfl (by kernel_rfl) (by kernel_rfl) (by kernel_rfl) (fun _ _ _ h => h) (Or.inl ⟨by rfl, ?_⟩) ?_; rotate_left; (focus (intro w_; go_simp; try with_reducible rfl)); (try simp only [List.getElem_toArray, List.getElem_cons_zero, List.getElem_cons_succ, Act.put, List.setIfInBounds_toArray, List.set_cons_zero, List.set_cons_succ]))
      refine wpAny_ready (rs := [17]) (by decide +kernel) (by simp) ?_
      refine BigFrame.allReady_want rfl (by rfl) (fun K hK => ?_) AllReady.nil
      (go_simp; refine hK _ _ ?_; clear hK K)
      refine wpAny_ready (rs := [18]) (by decide +kernel) (by simp) ?_
      refine BigFrame.allReady_want rfl (by rfl) (fun K hK => ?_) AllReady.nil
      (go_simp; go_at_call 3; (with_reducible refine (reads3d LT.out LD.out L4.out (by repeat (first | (with_reducible exact Below.refl _ _) | apply below_drew | apply pw_below_drewN)) TW4.out Y5.out S5.out).mono ?_); rintro e w5 ⟨rfl, b_⟩; have B5 := Aside0.mk (show Below w4.heap.size w4 w5 from b_); clear b_; refine hK _ _ ?_; clear hK K)
      (refine wpAny_take (i := 19) (v := ?_) rfl (by kernel_rfl) (by kernel_rfl) (by kernel_rfl) (fun _ _ _ h => h) (Or.inl ⟨by rfl, ?_⟩) ?_; rotate_left; (focus (intro w_; go_simp; try with_reducible rfl)); (try simp only [List.getElem_toArray, List.getElem_cons_zero, List.getElem_cons_succ, Act.put, List.setIfInBounds_toArray, List.set_cons_zero, List.set_cons_succ]))
      (refine wpAny_take (i := 20) (v := ?_) rfl (by kernel_rfl) (by kernel_rfl) (by kernel_rfl) (fun _ _ _ h => h) (Or.inl ⟨by rfl, ?_⟩) ?_; rotate_left; (focus (intro w_; go_simp; try with_reducible rfl)); (try simp only [List.getElem_toArray, List.getElem_cons_zero, List.getElem_cons_succ, Act.put, List.setIfInBounds_toArray, List.set_cons_zero, List.set_cons_succ]))
      refine wpAny_done (by decide +kernel) ?_ _
      have BW5 := Aside0.mk (B4.out.trans (B5.out.mono B4.out.size))
      clear hcut hfrom LT LD L4 Y5 S5 TW4 Y3 P3 Q3 B4 B5 HM1 HM2 e0 e5 t1 HB
      go_wp2
      have hs0 := heap_alloc_new w5 (.cells ssN 9)
      have hbl := below_alloc (Below.refl w5.heap.size w5) (.cells ssN 9)
      obtain ⟨wl, hwl⟩ : ∃ wl, w5.alloc (.cells ssN 9) = wl := ⟨_, rfl⟩
      obtain ⟨gl, hgl⟩ : ∃ gl, w5.heap.size = gl := ⟨_, rfl⟩
      rw [hwl] at hs0 hbl
      have hlt5 : w5.heap.size < wl.heap.size := (Array.getElem?_eq_some_iff.1 hs0).1
      have BWL := Aside0.mk (BW5.out.trans (hbl.mono BW5.out.size))
      unfold ssN at hwl
      rw [hwl]
      rw [hgl] at hs0 hlt5 ⊢
      have HS0 := Aside0.mk hs0
      have HLT5 := Aside0.mk hlt5
      clear hwl hbl hs0 hgl hlt5 BW5
      go_loopw [10, 11, 12] (fun i b k wr => ∃ (q2 : Nat), q2 ≤ 6 ∧ i = .int .i64 q2 ∧ Aside0 (Below wl.heap.size wl wr)) (fun i b k _ => 6 - (intOf i).toNat)
      case atStart => exact ⟨0, Nat.zero_le _, rfl, ⟨Below.refl _ _⟩⟩
      case round =>
        obtain ⟨q2, hq2, rfl, HB2⟩ := hrel
        have BWR := Aside0.mk (BWL.out.trans (HB2.out.mono BWL.out.size))
        by_cases hlt2 : q2 < 6
        · obtain ⟨s, hs1, hs2, hs3⟩ := ss_facts q2 hlt2
          have hce : wr.cell? ⟨gl, q2, none⟩ = some (.string s) := (HB2.out.cell (p := ⟨gl, q2, none⟩) HLT5.out).trans ((blk_cell HS0.out q2).trans hs1)
          have HZ := Aside0.mk (show s.size ≤ 140737488355328 by omega)
          have HZ2 := Aside0.mk hs2
          have HYS := Aside0.mk hs3
          have t1 : decide ((q2 : Int) < 6) = true := decide_eq_true (by omega)
          have i1 : (q2 : Int) < 6 := by omega
          have i0 : (0 : Int) ≤ (q2 : Int) := by omega
          have hw2 : wrap64 ((q2 : Int) + 1) = ((q2 + 1 : Nat) : Int) := by unfold wrap64; omega
          have HLT2 := Aside0.mk hlt2
          clear hs1 hs2 hs3 hlt2
          go_wp2_with ((with_reducible refine gate_dst (N := 84) rfl ?_); refine conv_sp rfl (.tmp 83) rfl s rfl HZ.out ?_; intro cap hsp hb_; have LB := Aside0.mk (Lt_of' (by rw [bytesOf_length]) hsp.C hsp.le); have BB := Aside0.mk hb_; clear hsp hb_)
          obtain ⟨sn, hsn⟩ : ∃ sn, s.size = sn := ⟨_, rfl⟩
          obtain ⟨xb, hxb⟩ : ∃ xb, bytesOf s = xb := ⟨_, rfl⟩
          rw [hsn, hxb] at LB
          rw [hxb] at HYS
          rw [hsn] at HZ2 ⊢
          have BW6 := Aside0.mk (BWR.out.trans (BB.out.mono BWR.out.size))
          have BL6 := Aside0.mk (HB2.out.trans (BB.out.mono HB2.out.size))
          have hbs : ∀ W : World, wr.heap.size = W.heap.size → True := fun _ _ => trivial
          clear hbs hsn hxb HZ BB
          generalize Lib.bytesWorld wr 5 s = wb at LB BW6 BL6 ⊢
          obtain ⟨ab, hab⟩ : ∃ ab : Option Addr, some ⟨wr.heap.size, 0, none⟩ = ab := ⟨_, rfl⟩
          rw [hab] at LB ⊢
          clear hab hce BWR HB2
          go_loopw [12] (fun k wx => ∃ j : Nat, j ≤ sn + 1 ∧ k = .int .i64 j ∧ Aside0 (Below wb.heap.size wb wx)) (fun k _ => sn + 1 - (intOf k).toNat)
          case atStart => exact ⟨0, Nat.zero_le _, rfl, ⟨Below.refl _ _⟩⟩
          case round =>
            obtain ⟨j, hj, rfl, HB3⟩ := hrel
            by_cases hlj : j ≤ sn
            · have t3 : decide (j ≤ sn) = true := decide_eq_true hlj
              obtain ⟨i0_, hi, _, hsz, _⟩ := info_parts info5
              have hnc : sn ≤ cap := by have h5 := LB.out.1; have h6 := LB.out.2.1; simp only at h5 h6; omega
              have hcut := cut_to (P := Tryd.prog) 27 5 .i64 Tryd.underlying27 hi ab sn cap (j : Int) (by omega) (by omega) hnc
              have hfrom := cut_from (P := Tryd.prog) 27 5 .i64 Tryd.underlying27 hi 1 hsz ab sn cap (j : Int) (by omega) (by omega)
              simp only [Int.toNat_natCast, Nat.mul_one] at hcut hfrom
              have LT := Aside0.mk (LB.out.take j hlj)
              have ld := LB.out.drop j hlj
              obtain ⟨A5, hA5⟩ : ∃ A5, (if cap = j then ab else ab.map (·.add j)) = A5 := ⟨_, rfl⟩
              obtain ⟨n5, hn5⟩ : ∃ n5, sn - j = n5 := ⟨_, rfl⟩
              obtain ⟨c5, hc5⟩ : ∃ c5, cap - j = c5 := ⟨_, rfl⟩
              rw [hA5, hn5, hc5] at hfrom ld
              have LD := Aside0.mk ld
              have Y5 := Aside0.mk (show Byt (xb.take j) ∧ Byt (xb.drop j) ∧ Byt xb from ⟨fun y hy => HYS.out y (List.mem_of_mem_take hy), fun y hy => HYS.out y (List.mem_of_mem_drop hy), HYS.out⟩)
              have S5 := Aside0.mk (show j + n5 + sn ≤ 2000000 by have := HZ2.out; omega)
              have TWB := Aside0.mk (HT1.out.below BW6.out)
              have hw3 : wrap64 ((j : Int) + 1) = ((j + 1 : Nat) : Int) := by have := HZ2.out; unfold wrap64; omega
              have HLJ := Aside0.mk hlj
              clear hi hsz hnc hA5 hn5 hc5 ld hlj
              go_wp2
              refine wp_region_any (by kernel_rfl) ?_
              change wpAny _ _ _ _ _ _ _ (World.drew _)
              (refine wpAny_take (i := 0) (v := ?_) rfl (by kernel_rfl) (by kernel_rfl) (by kernel_rfl) (fun _ _ _ h => h) (Or.inl ⟨by rfl, ?_⟩) ?_; rotate_left; (focus (intro w_; go_simp; try with_reducible rfl)); (try simp only [List.getElem_toArray, List.getElem_cons_zero, List.getElem_cons_succ, Act.put, List.setIfInBounds_toArray, List.set_cons_zero, List.set_cons_succ]))
              (refine wpAny_take (i := 1) (v := ?_) rfl (by kernel_rfl) (by kernel_rfl) (by kernel_rfl) (fun _ _ _ h => h) (Or.inl ⟨by rfl, ?_⟩) ?_; rotate_left; (focus (intro w_; go_simp; try with_reducible rfl)); (try simp only [List.getElem_toArray, List.getElem_cons_zero, List.getElem_cons_succ, Act.put, List.setIfInBounds_toArray, List.set_cons_zero, List.set_cons_succ]))
              (refine wpAny_take (i := 2) (v := ?_) rfl (by kernel_rfl) (by kernel_rfl) (by kernel_rfl) (fun _ _ _ h => h) (Or.inl ⟨by rfl, ?_⟩) ?_; rotate_left; (focus (intro w_; go_simp; try with_reducible rfl)); (try simp only [List.getElem_toArray, List.getElem_cons_zero, List.getElem_cons_succ, Act.put, List.setIfInBounds_toArray, List.set_cons_zero, List.set_cons_succ]))
              (refine wpAny_take (i := 3) (v := ?_) rfl (by kernel_rfl) (by kernel_rfl) (by kernel_rfl) (fun _ _ _ h => h) (Or.inl ⟨by rfl, ?_⟩) ?_; rotate_left; (focus (intro w_; go_simp; try with_reducible rfl)); (try simp only [List.getElem_toArray, List.getElem_cons_zero, List.getElem_cons_succ, Act.put, List.setIfInBounds_toArray, List.set_cons_zero, List.set_cons_succ]))
              (refine wpAny_take (i := 4) (v := ?_) rfl (by kernel_rfl) (by kernel_rfl) (by kernel_rfl) (fun _ _ _ h => h) (Or.inl ⟨by rfl, ?_⟩) ?_; rotate_left; (focus (intro w_; go_simp; try with_reducible rfl)); (try simp only [List.getElem_toArray, List.getElem_cons_zero, List.getElem_cons_succ, Act.put, List.setIfInBounds_toArray, List.set_cons_zero, List.set_cons_succ]))
              (refine wpAny_take (i := 5) (v := ?_) rfl (by kernel_rfl) (by kernel_rfl) (by kernel_rfl) (fun _ _ _ h => h) (Or.inl ⟨by rfl, ?_⟩) ?_; rotate_left; (focus (intro w_; go_simp; try with_reducible rfl)); (try simp only [List.getElem_toArray, List.getElem_cons_zero, List.getElem_cons_succ, Act.put, List.setIfInBounds_toArray, List.set_cons_zero, List.set_cons_succ]))
              (refine wpAny_take (i := 6) (v := ?_) rfl (by kernel_rfl) (by kernel_rfl) (by kernel_rfl) (fun _ _ _ h => h) (Or.inl ⟨by rfl, ?_⟩) ?_; rotate_left; (focus (intro w_; go_simp; try with_reducible rfl)); (try simp only [List.getElem_toArray, List.getElem_cons_zero, List.getElem_cons_succ, Act.put, List.setIfInBounds_toArray, List.set_cons_zero, List.set_cons_succ]))
              refine wpAny_ready (rs := [7]) (by decide +kernel) (by simp) ?_
              refine BigFrame.allReady_want rfl (by rfl) (fun K hK => ?_) AllReady.nil
              (go_simp; refine hK _ _ ?_; clear hK K)
              refine wpAny_ready (rs := [8]) (by decide +kernel) (by simp) ?_
              refine BigFrame.allReady_want rfl (by rfl) (fun K hK => ?_) AllReady.nil
              (go_simp; go_at_call 3; (with_reducible refine (reads3d LT.out LD.out LB.out HB3.out TWB.out Y5.out S5.out).mono ?_); rintro e w7 ⟨rfl, b_⟩; have B7 := Aside0.mk b_; have B37 := Aside0.mk (HB3.out.trans (b_.mono HB3.out.size)); clear b_; refine hK _ _ ?_; clear hK K)
              (refine wpAny_take (i := 9) (v := ?_) rfl (by kernel_rfl) (by kernel_rfl) (by kernel_rfl) (fun _ _ _ h => h) (Or.inl ⟨by rfl, ?_⟩) ?_; rotate_left; (focus (intro w_; go_simp; try with_reducible rfl)); (try simp only [List.getElem_toArray, List.getElem_cons_zero, List.getElem_cons_succ, Act.put, List.setIfInBounds_toArray, List.set_cons_zero, List.set_cons_succ]))
              (refine wpAny_take (i := 10) (v := ?_) rfl (by kernel_rfl) (by kernel_rfl) (by kernel_rfl) (fun _ _ _ h => h) (Or.inl ⟨by rfl, ?_⟩) ?_; rotate_left; (focus (intro w_; go_simp; try with_reducible rfl)); (try simp only [List.getElem_toArray, List.getElem_cons_zero, List.getElem_cons_succ, Act.put, List.setIfInBounds_toArray, List.set_cons_zero, List.set_cons_succ]))
              (refine wpAny_take (i := 11) (v := ?_) rfl (by kernel_rfl) (by kernel_rfl) (by kernel_rfl) (fun _ _ _ h => h) (Or.inl ⟨by rfl, ?_⟩) ?_; rotate_left; (focus (intro w_; go_simp; try with_reducible rfl)); (try simp only [List.getElem_toArray, List.getElem_cons_zero, List.getElem_cons_succ, Act.put, List.setIfInBounds_toArray, List.set_cons_zero, List.set_cons_succ]))
              (refine wpAny_take (i := 12) (v := ?_) rfl (by kernel_rfl) (by kernel_rfl) (by kernel_rfl) (fun _ _ _ h => h) (Or.inl ⟨by rfl, ?_⟩) ?_; rotate_left; (focus (intro w_; go_simp; try with_reducible rfl)); (try simp only [List.getElem_toArray, List.getElem_cons_zero, List.getElem_cons_succ, Act.put, List.setIfInBounds_toArray, List.set_cons_zero, List.set_cons_succ]))
              (refine wpAny_take (i := 13) (v := ?_) rfl (by kernel_rfl) (by kernel_rfl) (by kernel_rfl) (fun _ _ _ h => h) (Or.inl ⟨by rfl, ?_⟩) ?_; rotate_left; (focus (intro w_; go_simp; try with_reducible rfl)); (try simp only [List.getElem_toArray, List.getElem_cons_zero, List.getElem_cons_succ, Act.put, List.setIfInBounds_toArray, List.set_cons_zero, List.set_cons_succ]))
              (refine wpAny_take (i := 14) (v := ?_) rfl (by kernel_rfl) (by kernel_rfl) (by kernel_rfl) (fun _ _ _ h => h) (Or.inl ⟨by rfl, ?_⟩) ?_; rotate_left; (focus (intro w_; go_simp; try with_reducible rfl)); (try simp only [List.getElem_toArray, List.getElem_cons_zero, List.getElem_cons_succ, Act.put, List.setIfInBounds_toArray, List.set_cons_zero, List.set_cons_succ]))
              refine wpAny_ready (rs := [15]) (by decide +kernel) (by simp) ?_
              refine BigFrame.allReady_want rfl (by rfl) (fun K hK => ?_) AllReady.nil
              (go_simp; go_at_call 4; (with_reducible refine (all4 _ LT.out B37.out TWB.out Y5.out.1 (by have := S5.out; omega)).mono ?_); rintro e w8 ⟨rfl, b_⟩; have B8 := Aside0.mk b_; clear b_; refine hK _ _ ?_; clear hK K)
              (refine wpAny_take (i := 16) (v := ?_) rfl (by kernel_rfl) (by kernel_rfl) (by kernel_rfl) (fun _ _ _ h => h) (Or.inl ⟨by rfl, ?_⟩) ?_; rotate_left; (focus (intro w_; go_simp; try with_reducible rfl)); (try simp only [List.getElem_toArray, List.getElem_cons_zero, List.getElem_cons_succ, Act.put, List.setIfInBounds_toArray, List.set_cons_zero, List.set_cons_succ]))
              (refine wpAny_take (i := 17) (v := ?_) rfl (by kernel_rfl) (by kernel_rfl) (by kernel_rfl) (fun _ _ _ h => h) (Or.inl ⟨by rfl, ?_⟩) ?_; rotate_left; (focus (intro w_; go_simp; try with_reducible rfl)); (try simp only [List.getElem_toArray, List.getElem_cons_zero, List.getElem_cons_succ, Act.put, List.setIfInBounds_toArray, List.set_cons_zero, List.set_cons_succ]))
              refine wpAny_done (by decide +kernel) ?_ _
              go_wp2
              have := HLJ.out
              refine ⟨⟨j + 1, by omega, by rw [hw3], ⟨HB3.out.trans ((B7.out.trans (B8.out.mono B7.out.size)).mono HB3.out.size)⟩⟩, ?_⟩
              rw [hw3]
              simp only [intOf, Int.toNat_natCast]
              omega
            · have t3 : decide (j ≤ sn) = false := decide_eq_false hlj
              clear hlj
              go_wp2
              have := HLT2.out
              try rw [hw2]
              refine ⟨⟨q2 + 1, HLT2.out, by push_cast; rfl, ⟨BL6.out.trans (HB3.out.mono BL6.out.size)⟩⟩, ?_⟩
              simp only [intOf, Int.toNat_natCast]
              omega
        · have t1 : decide ((q2 : Int) < 6) = false := decide_eq_false (by omega)
          obtain ⟨m3, hm3⟩ : ∃ m : Nat, m = 511 := ⟨_, rfl⟩
          obtain ⟨m4, hm4⟩ : ∃ m : Nat, m = 1 := ⟨_, rfl⟩
          have k3 := make_big m3 (by omega) 511 (by omega)
          have k4 := make_big m4 (by omega) 1 (by omega)
          have HM3 := Aside0.mk (show m3 ≤ 1000 by omega)
          have HM4 := Aside0.mk (show m4 ≤ 1000 by omega)
          clear hlt2 hm3 hm4
          go_wp2
          refine wp_region_any (by kernel_rfl) ?_
          change wpAny _ _ _ _ _ _ _ (World.drew _)
          (refine wpAny_take (i := 0) (v := ?_) rfl (by kernel_rfl) (by kernel_rfl) (by kernel_rfl) (fun _ _ _ h => h) (Or.inl ⟨by rfl, ?_⟩) ?_; rotate_left; (focus (intro w_; go_simp; try with_reducible rfl)); (try simp only [List.getElem_toArray, List.getElem_cons_zero, List.getElem_cons_succ, Act.put, List.setIfInBounds_toArray, List.set_cons_zero, List.set_cons_succ]))
          refine wpAny_ready (rs := [1]) (by decide +kernel) (by simp) ?_
          refine BigFrame.allReady_want rfl (by rfl) (fun K hK => ?_) AllReady.nil
          (go_simp; go_at_call 21; (with_reducible refine (awake_calls HT1.out (by first | exact BWR.out | exact below_drew BWR.out)).mono ?_); rintro e w9 ⟨rfl, b_⟩; have B9 := Aside0.mk b_; clear b_; refine hK _ _ ?_; clear hK K)
          (refine wpAny_take (i := 2) (v := ?_) rfl (by kernel_rfl) (by kernel_rfl) (by kernel_rfl) (fun _ _ _ h => h) (Or.inl ⟨by rfl, ?_⟩) ?_; rotate_left; (focus (intro w_; go_simp; try with_reducible rfl)); (try simp only [List.getElem_toArray, List.getElem_cons_zero, List.getElem_cons_succ, Act.put, List.setIfInBounds_toArray, List.set_cons_zero, List.set_cons_succ]))
          (refine wpAny_take (i := 3) (v := ?_) rfl (by kernel_rfl) (by kernel_rfl) (by kernel_rfl) (fun _ _ _ h => h) (Or.inl ⟨by rfl, ?_⟩) ?_; rotate_left; (focus (intro w_; go_simp; try with_reducible rfl)); (try simp only [List.getElem_toArray, List.getElem_cons_zero, List.getElem_cons_succ, Act.put, List.setIfInBounds_toArray, List.set_cons_zero, List.set_cons_succ]))
          refine wpAny_ready (rs := [4]) (by decide +kernel) (by simp) ?_
          refine BigFrame.allReady_want rfl (by rfl) (fun K hK => ?_) AllReady.nil
          (go_simp; go_at_call 7; (with_reducible refine (makes_nil (HT.out.below B9.out)).mono ?_); rintro e w10 ⟨rfl, b_⟩; have B10 := Aside0.mk (B9.out.trans (b_.mono B9.out.size)); clear b_; refine hK _ _ ?_; clear hK K)
          (refine wpAny_take (i := 5) (v := ?_) rfl (by kernel_rfl) (by kernel_rfl) (by kernel_rfl) (fun _ _ _ h => h) (Or.inl ⟨by rfl, ?_⟩) ?_; rotate_left; (focus (intro w_; go_simp; try with_reducible rfl)); (try simp only [List.getElem_toArray, List.getElem_cons_zero, List.getElem_cons_succ, Act.put, List.setIfInBounds_toArray, List.set_cons_zero, List.set_cons_succ]))
          (refine wpAny_take (i := 6) (v := ?_) rfl (by kernel_rfl) (by kernel_rfl) (by kernel_rfl) (fun _ _ _ h => h) (Or.inl ⟨by rfl, ?_⟩) ?_; rotate_left; (focus (intro w_; go_simp; try with_reducible rfl)); (try simp only [List.getElem_toArray, List.getElem_cons_zero, List.getElem_cons_succ, Act.put, List.setIfInBounds_toArray, List.set_cons_zero, List.set_cons_succ]))
          refine wpAny_ready (rs := [7, 8]) (by decide +kernel) (by simp) ?_
          refine BigFrame.allReady_want rfl (by rfl) (fun K hK => ?_) (BigFrame.allReady_want rfl (by rfl) (fun K hK => ?_) AllReady.nil)
          · (go_simp; refine hK _ _ ?_; clear hK K)
            refine wpAny_ready (rs := [8]) (by decide +kernel) (by simp) ?_
            refine BigFrame.allReady_want rfl (by rfl) (fun K hK => ?_) AllReady.nil
            (go_simp; refine hK _ _ ?_; clear hK K)
            refine wpAny_ready (rs := [9]) (by decide +kernel) (by simp) ?_
            refine BigFrame.allReady_want rfl (by rfl) (fun K hK => ?_) AllReady.nil
            (go_simp; refine hK _ _ ?_; clear hK K)
            refine wpAny_ready (rs := [10]) (by decide +kernel) (by simp) ?_
            refine BigFrame.allReady_want rfl (by rfl) (fun K hK => ?_) AllReady.nil
            (go_simp; go_at_call 3; (with_reducible refine (reads_z1 B10.out HT1.out m3 m4 HM3.out HM4.out).mono ?_); rintro e w11 ⟨rfl, b_⟩; have B11 := Aside0.mk (B10.out.trans (b_.mono B10.out.size)); clear b_; refine hK _ _ ?_; clear hK K)
            (refine wpAny_take (i := 11) (v := ?_) rfl (by kernel_rfl) (by kernel_rfl) (by kernel_rfl) (fun _ _ _ h => h) (Or.inl ⟨by rfl, ?_⟩) ?_; rotate_left; (focus (intro w_; go_simp; try with_reducible rfl)); (try simp only [List.getElem_toArray, List.getElem_cons_zero, List.getElem_cons_succ, Act.put, List.setIfInBounds_toArray, List.set_cons_zero, List.set_cons_succ]))
            (refine wpAny_take (i := 12) (v := ?_) rfl (by kernel_rfl) (by kernel_rfl) (by kernel_rfl) (fun _ _ _ h => h) (Or.inl ⟨by rfl, ?_⟩) ?_; rotate_left; (focus (intro w_; go_simp; try with_reducible rfl)); (try simp only [List.getElem_toArray, List.getElem_cons_zero, List.getElem_cons_succ, Act.put, List.setIfInBounds_toArray, List.set_cons_zero, List.set_cons_succ]))
            refine wpAny_done (by decide +kernel) ?_ _
            go_wp2
            go_ret
            exact ⟨rfl, B11.out⟩
          · (go_simp; refine hK _ _ ?_; clear hK K)
            refine wpAny_ready (rs := [7]) (by decide +kernel) (by simp) ?_
            refine BigFrame.allReady_want rfl (by rfl) (fun K hK => ?_) AllReady.nil
            (go_simp; refine hK _ _ ?_; clear hK K)
            refine wpAny_ready (rs := [9]) (by decide +kernel) (by simp) ?_
            refine BigFrame.allReady_want rfl (by rfl) (fun K hK => ?_) AllReady.nil
            (go_simp; refine hK _ _ ?_; clear hK K)
            refine wpAny_ready (rs := [10]) (by decide +kernel) (by simp) ?_
            refine BigFrame.allReady_want rfl (by rfl) (fun K hK => ?_) AllReady.nil
            (go_simp; go_at_call 3; (with_reducible refine (reads_z2 B10.out HT1.out m3 m4 HM3.out HM4.out).mono ?_); rintro e w11 ⟨rfl, b_⟩; have B11 := Aside0.mk (B10.out.trans (b_.mono B10.out.size)); clear b_; refine hK _ _ ?_; clear hK K)
            (refine wpAny_take (i := 11) (v := ?_) rfl (by kernel_rfl) (by kernel_rfl) (by kernel_rfl) (fun _ _ _ h => h) (Or.inl ⟨by rfl, ?_⟩) ?_; rotate_left; (focus (intro w_; go_simp; try with_reducible rfl)); (try simp only [List.getElem_toArray, List.getElem_cons_zero, List.getElem_cons_succ, Act.put, List.setIfInBounds_toArray, List.set_cons_zero, List.set_cons_succ]))
            (refine wpAny_take (i := 12) (v := ?_) rfl (by kernel_rfl) (by kernel_rfl) (by kernel_rfl) (fun _ _ _ h => h) (Or.inl ⟨by rfl, ?_⟩) ?_; rotate_left; (focus (intro w_; go_simp; try with_reducible rfl)); (try simp only [List.getElem_toArray, List.getElem_cons_zero, List.getElem_cons_succ, Act.put, List.setIfInBounds_toArray, List.set_cons_zero, List.set_cons_succ]))
            refine wpAny_done (by decide +kernel) ?_ _
            go_wp2
            go_ret
            exact ⟨rfl, B11.out⟩
end Go.Proofs.YthkmacgjekienaaDoor.P
