/- The document's reader: New, Left, Write. -/
import Derived.Test.YthkmacgjekienaaDoorG14
import Derived.Test.YthkmacgjekienaaDoorGB
import Derived.BigQuiet
import Derived.Deep.QuietTactic
namespace Go.Proofs.YthkmacgjekienaaDoor.P
attribute [-simp] List.length_drop List.length_take ByteArray.size_append
open Go.RowKit Go.Shelf Go.Proofs.YthkmacgjekienaaDoor.Pure Go.Proofs.YthkmacgjekienaaDoorW.PrintWords Go.Proofs.YthkmacgjekienaaDoorW.PrintLast Go.Proofs.YthkmacgjekienaaDoorW.PrintMore
set_option linter.unusedVariables false
set_option linter.unusedSimpArgs false
/-- the document's reader: block g; its bytes lie in a row of its own -/
structure Rm (lo : Nat) (w : World) (g : Nat) (v : Value) (B : List Int) (cl : Bool) : Prop where
  blk : w.heap[g]? = some (.cells #[v, .bool cl] 36 (0, 0))
  row : Kd.R (Kd.int .u8) 5 w lo (fun _ => True) v B
  lo : lo ≤ g
theorem Rm.c1 {lo : Nat} {w : World} {g : Nat} {v : Value} {B : List Int} {cl : Bool} (h : Rm lo w g v B cl) : w.cell? ⟨g, 1, none⟩ = some (.bool cl) := (blk_cell h.blk 1).trans rfl
theorem Rm.c0 {lo : Nat} {w : World} {g : Nat} {v : Value} {B : List Int} {cl : Bool} (h : Rm lo w g v B cl) : w.cell? ⟨g, 0, none⟩ = some v := (blk_cell h.blk 0).trans rfl
theorem Rm.lt {lo : Nat} {w : World} {g : Nat} {v : Value} {B : List Int} {cl : Bool} (h : Rm lo w g v B cl) : g < w.heap.size := blk_lt h.blk
theorem Rm.below {lo : Nat} {w w' : World} {g : Nat} {v : Value} {B : List Int} {cl : Bool} (h : Rm lo w g v B cl) (hb : Below w.heap.size w w') : Rm lo w' g v B cl :=
  ⟨(hb.block g h.lt).trans h.blk, Kd.R_below h.row hb, h.lo⟩
theorem new2_calls (w : World) : Calls Tryd.prog 12 #[] w fun e w' => e = .returned (.pointer (some ⟨w.heap.size, 0, none⟩)) ∧ w' = w.alloc (.cells #[.slice none 0 0, .bool false] 36) := by
  go_enter Tryd.func12, Tryd.ntmps12
  go_wp2
  go_ret
  exact ⟨rfl, rfl⟩
theorem left2_calls {lo : Nat} {w : World} {g : Nat} {v : Value} {B : List Int} {cl : Bool} (h : Rm lo w g v B cl) : Calls Tryd.prog 18 #[.pointer (some ⟨g, 0, none⟩)] w fun e w' => e = .returned (.int .i64 B.length) ∧ w = w' := by
  have h0 := h.c0
  obtain ⟨A, c, rfl⟩ := Kd.R_slice h.row
  clear h
  go_enter Tryd.func18, Tryd.ntmps18
  go_wp2
  go_ret
  exact ⟨rfl, rfl⟩
theorem bodies2 {w : World} {A : Option Addr} {n c : Nat} {l : List Int} (hn : l.length = n) (h1 : Kd.C (Kd.int .u8) w A n l) (hc : n ≤ c) (hb : Byt l) (hl : n ≤ 5000000000000) (bs : List (List Int)) (left : List Int) (er : Int) (hbod : bodT l = (bs, left, er)) :
    Calls Tryd.prog 22 #[.slice A n c] w fun e w' => ∃ v0 A1 c1, e = .returned (.tuple #[v0, .slice A1 left.length c1, .int .i64 er]) ∧ Kd.R (Kd.slice 5 (Kd.int .u8)) 27 w' w.heap.size (fun _ => True) v0 bs ∧ Kd.R (Kd.int .u8) 5 w' w.heap.size (fun _ => True) (.slice A1 left.length c1) left ∧ Below w.heap.size w w' := by
  subst hn
  obtain ⟨k, hk⟩ := (bodies_loop l [] hb (by simpa using hl)).rounds
  have e1 : (bodT l).1 = bs := by rw [hbod]
  have e2 : (bodT l).2.1 = left := by rw [hbod]
  have e3 : (bodT l).2.2 = er := by rw [hbod]
  rw [e1, e2, e3] at hk
  refine (colophonref07_Bodies.calls k (fun k_ => k_ < w.heap.size) A c l bs left er w (Kd.V_mk hc (Kd.C_F ⟨fun _ h => h⟩ h1)) (by unfold colophonref07_Bodies.f; rw [hk]; rfl)).mono ?_
  rintro e w' ⟨v0, v1, rfl, h2, h3, h4⟩
  obtain ⟨A1, c1, rfl⟩ := Kd.R_slice h3
  exact ⟨v0, A1, c1, rfl, Kd.R_mono (Kd.S_R h2) (fun _ _ => trivial), Kd.R_mono h3 (fun _ _ => trivial), h4⟩
theorem write2_closed {lo : Nat} {w : World} {g : Nat} {v : Value} {B : List Int} (hR : Rm lo w g v B true) (A : Value) :
    Calls Tryd.prog 15 #[.pointer (some ⟨g, 0, none⟩), A] w fun e w' => e = .returned (.tuple #[.slice none 0 0, .int .i64 70]) ∧ w = w' := by
  have h1 := hR.c1
  clear hR
  go_enter Tryd.func15, Tryd.ntmps15
  go_wp2
  go_ret2
  exact ⟨rfl, rfl⟩
set_option maxRecDepth 100000 in
set_option maxHeartbeats 4000000 in
theorem write2_walk {lo : Nat} {w : World} {g : Nat} {v : Value} {B : List Int} (hR : Rm lo w g v B false) (A : Option Addr) (n c : Nat) (l : List Int) (hn : l.length = n) (hl : Kd.C (Kd.int .u8) w A n l) (hc : n ≤ c) (hlo : lo ≤ w.heap.size)
    (hby : Byt (B ++ l)) (hsz : (B ++ l).length ≤ 5000000000000) (bs : List (List Int)) (left : List Int) (er : Int) (hbod : bodT (B ++ l) = (bs, left, er)) :
    Calls Tryd.prog 15 #[.pointer (some ⟨g, 0, none⟩), .slice A n c] w fun e w' => ∃ vo v', e = .returned (.tuple #[vo, .int .i64 (if er = 3 then 0 else er)]) ∧
      Kd.R (Kd.slice 5 (Kd.int .u8)) 27 w' w.heap.size (fun _ => True) vo bs ∧
      Rm lo w' g v' (if er = 3 then left else []) (decide (er ≠ 3)) ∧ (∀ k, v'.ownBlock = some k → w.heap.size ≤ k) ∧ Below lo w w' ∧ (∀ k, k < w.heap.size → k ≠ g → w'.heap[k]? = w.heap[k]?) := by
  obtain ⟨X, hX⟩ : ∃ X, B ++ l = X := ⟨_, rfl⟩
  have HSa := Aside0.mk (show B.length + n ≤ 5000000000000 by rw [List.length_append] at hsz; omega)
  rw [hX] at hby hsz hbod
  have HX := Aside0.mk hX
  have HBOD := Aside0.mk hbod
  have HL := Aside0.mk hl
  have HBy := Aside0.mk hby
  have HSZ := Aside0.mk hsz
  obtain ⟨Av, cv, rfl⟩ := Kd.R_slice hR.row
  have h0 := hR.c0
  have h1 := hR.c1
  have HR := Aside0.mk hR
  have HRR := Aside0.mk (Kd.R_reads' hR.row)
  have HLO := Aside0.mk hlo
  have HNC := Aside0.mk hc
  clear hX hbod hl hby hsz hR hlo hc
  go_enter Tryd.func15, Tryd.ntmps15
  go_upto_region 4 with (first
    | (go_at_call 13; (with_reducible refine (copy_calls rfl HRR.out.2.2 HRR.out.2.1 (by have := HSa.out; omega)).mono ?_); rintro e w1 ⟨A1, c1, rfl, r_, b_⟩; have R1 := Aside0.mk r_; have B1 := Aside0.mk b_; clear r_ b_)
    | (at_builtin; refine Kd.R_append_row (Value.int .u8) 0 (w0 := w) w.heap.size rfl _ _ 27 5 (.int .u8 0) 1 rfl Tryd.underlying27 info5 rfl (by decide) _ _ l _ _ _ (fun _ => True) rfl rfl (fun _ _ => trivial) R1.out (Kd.C_below HL.out B1.out) B1.out (by have := B1.out.size; simp; omega) (by have := HSa.out; omega) ?_; intro v2 w2 o_ b_ g_ a_; rw [HX.out] at o_; obtain ⟨A2, c2, rfl⟩ := Kd.R_slice o_; have R2 := Aside0.mk o_; have B2 := Aside0.mk b_; clear o_ b_ g_ a_)
    | (go_at_call 22; (refine (bodies2 rfl (Kd.R_reads' R2.out).2.2 (Kd.R_reads' R2.out).2.1 HBy.out HSZ.out bs left er HBOD.out).mono ?_); rintro e w3 ⟨v3, A3, c3, rfl, r_, q_, b_⟩; have R3 := Aside0.mk r_; have L3 := Aside0.mk q_; have B3 := Aside0.mk b_; clear r_ q_ b_))
  have hb3 : Below w.heap.size w w3 := B2.out.trans (B3.out.mono B2.out.size)
  have HB3 := Aside0.mk hb3
  have hgl := HR.out.lt
  have kg := (hb3.block g hgl).trans HR.out.blk
  have kf := blk_frozen kg 0
  have kc0 := blk_cell kg 0
  simp at kc0
  have kg1 := blk_set kg 0 (.slice A3 left.length c3)
  have hg2 : g < w2.heap.size := Nat.lt_of_lt_of_le hgl B2.out.size
  have hrow : ∀ (W : World), (∀ k, w2.heap.size ≤ k → W.heap[k]? = w3.heap[k]?) → Kd.R (Kd.slice 5 (Kd.int .u8)) 27 W w.heap.size (fun _ => True) v3 bs ∧ Kd.R (Kd.int .u8) 5 W lo (fun _ => True) (.slice A3 left.length c3) left := fun W hW =>
    ⟨Kd.R_mono (Kd.R_lower (Kd.R_step (Kd.R_bound R3.out) fun k hk _ => hW k hk.2.1) B2.out.size) fun _ _ => trivial, Kd.R_mono (Kd.R_lower (Kd.R_step (Kd.R_bound L3.out) fun k hk _ => hW k hk.2.1) (Nat.le_trans HLO.out B2.out.size)) fun _ _ => trivial⟩
  have HROW := Aside0.mk hrow
  have hnew : ∀ k, (Value.slice A3 left.length c3).ownBlock = some k → w.heap.size ≤ k := fun k hk => Nat.le_trans B2.out.size (Kd.R_base L3.out k hk)
  have HNEW := Aside0.mk hnew
  have HG2 := Aside0.mk hg2
  have HGL := Aside0.mk hgl
  have hk0 : ∀ k, k < w.heap.size → w3.heap[k]? = w.heap[k]? := hb3.block
  have HK0 := Aside0.mk hk0
  by_cases he : er = 3
  · subst he
    have t2 : ((3 : Int) == 3) = true := rfl
    have KG := Aside0.mk kg1
    clear hb3 hrow hnew kg1 hg2 hk0 hgl kg
    go_wp2
    go_ret2
    obtain ⟨r1, r2⟩ := HROW.out (w3.setCell ⟨g, 0, none⟩ (.slice A3 left.length c3)) fun k hk => Below.heap_setCell w3 ⟨g, 0, none⟩ _ k (by have := HG2.out; show k ≠ g; omega)
    exact ⟨v3, rfl, r1, .slice A3 left.length c3, ⟨by have := KG.out; simpa using this, r2, HR.out.lo⟩, HNEW.out, (HB3.out.mono HLO.out).setCell (p := ⟨g, 0, none⟩) HR.out.lo _, fun k hk hne => (Below.heap_setCell w3 ⟨g, 0, none⟩ _ k hne).trans (HK0.out k hk)⟩
  · have t2 : (er == 3) = false := by simpa using he
    have kf1 := blk_frozen kg1 0
    have kg2 := blk_set kg1 0 (.slice none 0 0)
    have kf2 := blk_frozen kg2 1
    have kg3 := blk_set kg2 1 (.bool true)
    have KG := Aside0.mk kg3
    have kc1 := blk_cell kg1 0
    have kc2 := blk_cell kg2 1
    simp at kc1 kc2
    clear hb3 hrow hnew kg1 kg2 kg3 hg2 hk0 hgl
    go_wp2
    go_ret2
    obtain ⟨r1, _⟩ := HROW.out (((w3.setCell ⟨g, 0, none⟩ (.slice A3 left.length c3)).setCell ⟨g, 0, none⟩ (.slice none 0 0)).setCell ⟨g, 1, none⟩ (.bool true)) fun k hk => by
      have hne : k ≠ g := by have := HG2.out; omega
      exact (Below.heap_setCell _ ⟨g, 1, none⟩ _ k hne).trans ((Below.heap_setCell _ ⟨g, 0, none⟩ _ k hne).trans (Below.heap_setCell w3 ⟨g, 0, none⟩ _ k hne))
    refine ⟨v3, by first | rfl | (rw [if_neg he]; rfl), r1, .slice none 0 0, ⟨by have := KG.out; simpa [he] using this, by first | exact Kd.R_nil _ _ _ _ _ | (rw [if_neg he]; exact Kd.R_nil _ _ _ _ _), HR.out.lo⟩, (fun k hk => by cases hk), (((HB3.out.mono HLO.out).setCell (p := ⟨g, 0, none⟩) HR.out.lo _).setCell (p := ⟨g, 0, none⟩) HR.out.lo _).setCell (p := ⟨g, 1, none⟩) HR.out.lo _, fun k hk hne => ?_⟩
    exact (Below.heap_setCell _ ⟨g, 1, none⟩ _ k hne).trans ((Below.heap_setCell _ ⟨g, 0, none⟩ _ k hne).trans ((Below.heap_setCell w3 ⟨g, 0, none⟩ _ k hne).trans (HK0.out k hk)))
end Go.Proofs.YthkmacgjekienaaDoor.P
/- FrameReads: what both readers answer to a piece; memory that is spoilt byte by byte. -/
namespace Go.Proofs.YthkmacgjekienaaDoor.P
attribute [-simp] List.length_drop List.length_take ByteArray.size_append
open Go.RowKit Go.Shelf Go.Proofs.YthkmacgjekienaaDoor.Pure Go.Proofs.YthkmacgjekienaaDoorW.PrintWords Go.Proofs.YthkmacgjekienaaDoorW.PrintLast Go.Proofs.YthkmacgjekienaaDoorW.PrintMore
set_option linter.unusedVariables false
set_option linter.unusedSimpArgs false
/-- a piece, to a reader: bodies, error, what is left, whether it is closed -/
noncomputable def wrF (cl : Bool) (B l : List Int) : List (List Int) × Int × List Int × Bool :=
  if cl then ([], 70, [], true) else ((bodT (B ++ l)).1, if (bodT (B ++ l)).2.2 = 3 then 0 else (bodT (B ++ l)).2.2, if (bodT (B ++ l)).2.2 = 3 then (bodT (B ++ l)).2.1 else [], decide ((bodT (B ++ l)).2.2 ≠ 3))
theorem wrF_facts {cl c2 : Bool} {B l B2 : List Int} {bs : List (List Int)} {E : Int} (h : wrF cl B l = (bs, E, B2, c2)) (hby : Byt (B ++ l)) :
    Byt B2 ∧ B2.length ≤ (B ++ l).length ∧ (c2 = true → B2 = []) ∧ bs.length ≤ (B ++ l).length ∧ ∀ x ∈ bs, x.length ≤ (B ++ l).length := by
  unfold wrF at h
  cases cl with
  | true =>
    simp at h
    obtain ⟨rfl, rfl, rfl, rfl⟩ := h
    exact ⟨(fun x hx => by cases hx), by simp, (fun _ => rfl), by simp, fun x hx => by cases hx⟩
  | false =>
    simp only [Bool.false_eq_true, if_false, Prod.mk.injEq] at h
    obtain ⟨rfl, rfl, rfl, rfl⟩ := h
    refine ⟨?_, ?_, ?_, bod_count _, bod_mem _⟩
    · split
      · exact (bod_left _ hby).1
      · exact fun x hx => by cases hx
    · split
      · exact (bod_left _ hby).2
      · simp
    · intro hc
      rw [if_neg (by simpa using hc)]
theorem rdw {w0 w : World} {g : Nat} {v : Value} {B : List Int} {cl : Bool} (hR : Rd w0.heap.size w g v B cl) (hcl : cl = true → B = []) (A : Option Addr) (n c : Nat) (x : List Int) (hn : x.length = n) (hl : Kd.C (Kd.int .u8) w A n x) (hc : n ≤ c) (hT : TAB w0) (hB : Below w0.heap.size w0 w)
    (hby : Byt (B ++ x)) (hsz : (B ++ x).length ≤ 5000000000000) (bs : List (List Int)) (E : Int) (B2 : List Int) (c2 : Bool) (k : Nat) (h : wrF cl B x = (bs, E, B2, c2)) (hk : bs.length = k) :
    Calls Tryd.prog 14 #[.pointer (some ⟨g, 0, none⟩), .slice A n c] w fun e w' => ∃ Ao co v', e = .returned (.tuple #[.slice Ao k co, .int .i64 E]) ∧
      Kd.R (Kd.slice 5 (Kd.int .u8)) 27 w' w.heap.size (fun q => w.heap.size ≤ q ∧ some q ≠ v'.ownBlock) (.slice Ao k co) bs ∧
      Rd w0.heap.size w' g v' B2 c2 ∧ (∀ q, v'.ownBlock = some q → w.heap.size ≤ q ∨ v.ownBlock = some q) ∧ Below w0.heap.size w0 w' ∧ (∀ q, q < w.heap.size → q ≠ g → some q ≠ v.ownBlock → w'.heap[q]? = w.heap[q]?) := by
  subst hk
  unfold wrF at h
  cases cl with
  | true =>
    simp at h
    obtain ⟨rfl, rfl, rfl, rfl⟩ := h
    obtain rfl := hcl rfl
    refine (write_closed hR _).mono ?_
    rintro e w' ⟨rfl, b⟩
    exact ⟨none, 0, v, rfl, Kd.R_nil _ _ _ _ _, hR.below b, fun q hq => .inr hq, hB.trans (b.mono hB.size), fun q hq _ _ => b.block q hq⟩
  | false =>
    obtain ⟨b0, l0, e0, h0⟩ : ∃ b l e, bodT (B ++ x) = (b, l, e) := ⟨_, _, _, rfl⟩
    have hct := bod_count (B ++ x)
    rw [h0] at h hct
    simp only [Bool.false_eq_true, if_false, Prod.mk.injEq] at h hct
    obtain ⟨rfl, rfl, rfl, rfl⟩ := h
    refine (write_walk hR A n c x hn hl hc hT hB hby (by omega) b0 l0 e0 h0 (by omega)).mono ?_
    rintro e w' ⟨vo, v', rfl, r1, r2, r3, r4, r5⟩
    obtain ⟨Ao, co, rfl⟩ := Kd.R_slice r1
    exact ⟨Ao, co, v', rfl, r1, r2, fun q hq => .inl (r3 q hq), r4, r5⟩
theorem rmw {lo : Nat} {w : World} {g : Nat} {v : Value} {B : List Int} {cl : Bool} (hR : Rm lo w g v B cl) (hcl : cl = true → B = []) (A : Option Addr) (n c : Nat) (x : List Int) (hn : x.length = n) (hl : Kd.C (Kd.int .u8) w A n x) (hc : n ≤ c) (hlo : lo ≤ w.heap.size)
    (hby : Byt (B ++ x)) (hsz : (B ++ x).length ≤ 5000000000000) (bs : List (List Int)) (E : Int) (B2 : List Int) (c2 : Bool) (k : Nat) (h : wrF cl B x = (bs, E, B2, c2)) (hk : bs.length = k) :
    Calls Tryd.prog 15 #[.pointer (some ⟨g, 0, none⟩), .slice A n c] w fun e w' => ∃ Ao co v', e = .returned (.tuple #[.slice Ao k co, .int .i64 E]) ∧
      (k ≤ co ∧ Kd.C (Kd.slice 5 (Kd.int .u8)) w' Ao k bs) ∧
      Rm lo w' g v' B2 c2 ∧ (∀ q, v'.ownBlock = some q → w.heap.size ≤ q ∨ v.ownBlock = some q) ∧ Below lo w w' ∧ (∀ q, q < w.heap.size → q ≠ g → w'.heap[q]? = w.heap[q]?) := by
  subst hk
  unfold wrF at h
  cases cl with
  | true =>
    simp at h
    obtain ⟨rfl, rfl, rfl, rfl⟩ := h
    obtain rfl := hcl rfl
    refine (write2_closed hR _).mono ?_
    rintro e w' ⟨rfl, rfl⟩
    exact ⟨none, 0, v, rfl, ⟨Nat.le_refl _, (Kd.R_reads' (Kd.R_nil (Kd.slice 5 (Kd.int .u8)) 27 w 0 (fun _ => True))).2.2⟩, hR, fun q hq => .inr hq, Below.refl _ _, fun q hq _ => rfl⟩
  | false =>
    obtain ⟨b0, l0, e0, h0⟩ : ∃ b l e, bodT (B ++ x) = (b, l, e) := ⟨_, _, _, rfl⟩
    rw [h0] at h
    simp only [Bool.false_eq_true, if_false, Prod.mk.injEq] at h
    obtain ⟨rfl, rfl, rfl, rfl⟩ := h
    refine (write2_walk hR A n c x hn hl hc hlo hby hsz b0 l0 e0 h0).mono ?_
    rintro e w' ⟨vo, v', rfl, r1, r2, r3, r4, r5⟩
    obtain ⟨Ao, co, rfl⟩ := Kd.R_slice r1
    exact ⟨Ao, co, v', rfl, (Kd.R_reads' r1).2, r2, fun q hq => .inl (r3 q hq), r4, r5⟩
/-- block g begins with n bytes -/
def El (W : World) (g n : Nat) : Prop := ∃ cells, W.heap[g]? = some (.cells cells 5 (0, 0)) ∧ ∀ j, j < n → ∃ y, cells[j]? = some (.int .u8 y)
theorem El.cell {W : World} {g n : Nat} (h : El W g n) (j : Nat) (hj : j < n) : (∃ y, W.cell? ⟨g, j, none⟩ = some (.int .u8 y)) ∧ W.frozen? ⟨g, j, none⟩ = false := by
  obtain ⟨cells, h1, h2⟩ := h
  obtain ⟨y, hy⟩ := h2 j hj
  exact ⟨⟨y, (blk_cell h1 j).trans hy⟩, blk_frozen h1 j⟩
theorem El.of_R {W : World} {base g n c : Nat} {ok : Nat → Prop} {xs : List Int} (h : Kd.R (Kd.int .u8) 5 W base ok (.slice (some ⟨g, 0, none⟩) n c) xs) : El W g n := by
  obtain ⟨rfl, h2, h3⟩ := Kd.R_reads' h
  obtain ⟨cells, hc⟩ := Kd.R_typed h g rfl
  refine ⟨cells, hc, fun j hj => ?_⟩
  obtain ⟨h4, _⟩ := Kd.R_cell (0 : Int) h (j : Int) (by omega) (by omega)
  have e : ((j : Int)).toNat = j := rfl
  rw [e] at h4
  have h5 := blk_cell hc j
  rw [h4] at h5
  exact ⟨_, h5.symm⟩
/-- only blocks of S have changed, and only bytes to bytes -/
structure Spo (S : Nat → Prop) (A B : World) : Prop where
  os : B.os = A.os
  tape : B.tape = A.tape
  output : B.output = A.output
  size : B.heap.size = A.heap.size
  keep : ∀ k, ¬ S k → B.heap[k]? = A.heap[k]?
  el : ∀ (g n : Nat), El A g n → El B g n
  oth : ∀ (g : Nat) (cells : Array Value), A.heap[g]? = some (Obj.cells cells 27 (0, 0)) → B.heap[g]? = some (Obj.cells cells 27 (0, 0))
theorem Spo.refl (S : Nat → Prop) (A : World) : Spo S A A := ⟨rfl, rfl, rfl, rfl, fun _ _ => rfl, fun _ _ h => h, fun _ _ h => h⟩
theorem Spo.trans {S : Nat → Prop} {A B C : World} (h : Spo S A B) (k : Spo S B C) : Spo S A C :=
  ⟨k.os.trans h.os, k.tape.trans h.tape, k.output.trans h.output, k.size.trans h.size, fun i hi => (k.keep i hi).trans (h.keep i hi), fun g n e => k.el g n (h.el g n e), fun g c e => k.oth g c (h.oth g c e)⟩
theorem Spo.set {S : Nat → Prop} {A : World} {g n j : Nat} (hS : S g) (h : El A g n) (hj : j < n) (y : Int) : Spo S A (A.setCell ⟨g, j, none⟩ (.int .u8 y)) := by
  obtain ⟨cells, h1, h2⟩ := h
  have hs := blk_set h1 j (.int .u8 y)
  refine ⟨rfl, rfl, rfl, by simp [World.setCell], fun k hk => Below.heap_setCell _ _ _ _ (fun e => hk (by have e2 : k = g := e; rw [e2]; exact hS)), fun g' n' h' => ?_, fun g' cells' h' => ?_⟩
  · by_cases e : g' = g
    · subst e
      obtain ⟨cells', h3, h4⟩ := h'
      rw [h1] at h3
      cases h3
      refine ⟨_, hs, fun i hi => ?_⟩
      by_cases e2 : i = j
      · subst e2
        obtain ⟨z, hz⟩ := h4 i hi
        have hlt := (Array.getElem?_eq_some_iff.1 hz).1
        exact ⟨y, by simp [hlt]⟩
      · obtain ⟨z, hz⟩ := h4 i hi
        exact ⟨z, by rw [Array.getElem?_setIfInBounds_ne (by omega)]; exact hz⟩
    · obtain ⟨cells', h3, h4⟩ := h'
      exact ⟨cells', (Below.heap_setCell A ⟨g, j, none⟩ _ g' e).trans h3, h4⟩
  · refine (Below.heap_setCell A ⟨g, j, none⟩ _ g' fun e => ?_).trans h'
    have e2 : g' = g := e
    rw [e2, h1] at h'
    cases h'
end Go.Proofs.YthkmacgjekienaaDoor.P
/- FrameReads: a round's memory. -/
namespace Go.Proofs.YthkmacgjekienaaDoor.P
attribute [-simp] List.length_drop List.length_take ByteArray.size_append
open Go.RowKit Go.Shelf Go.Proofs.YthkmacgjekienaaDoor.Pure Go.Proofs.YthkmacgjekienaaDoorW.PrintWords Go.Proofs.YthkmacgjekienaaDoorW.PrintLast Go.Proofs.YthkmacgjekienaaDoorW.PrintMore
set_option linter.unusedVariables false
set_option linter.unusedSimpArgs false
theorem Rm.moved {lo : Nat} {w W : World} {g : Nat} {v : Value} {B : List Int} {cl : Bool} (h : Rm lo w g v B cl) (hg : W.heap[g]? = w.heap[g]?) (hr : ∀ k, v.ownBlock = some k → W.heap[k]? = w.heap[k]?) : Rm lo W g v B cl := by
  refine ⟨hg.trans h.blk, ?_, h.lo⟩
  have h1 := Kd.R_tight (d := Kd.int .u8) rfl h.row
  exact Kd.R_mono (Kd.R_step h1 fun k hk _ => hr k hk.symm) fun _ _ => trivial
/-- between two rounds -/
structure FI (w wr : World) (g1 g2 n : Nat) (B : List Int) (cl : Bool) (v vm : Value) : Prop where
  rd : Rd w.heap.size wr g1 v B cl
  rm : Rm w.heap.size wr g2 vm B cl
  dis : ∀ k, v.ownBlock = some k → vm.ownBlock = some k → False
  be : Below w.heap.size w wr
  byt : Byt B
  le : B.length ≤ n
  cl0 : cl = true → B = []
/-- within a round: wr is where it began; the copy (vi) and what was answered (va) are new, and neither reader's -/
structure FX (w wr W : World) (g1 g2 : Nat) (B1 : List Int) (c1 : Bool) (v : Value) (B2 : List Int) (c2 : Bool) (vm vi : Value) (x : List Int) (va : Value) (bs : List (List Int)) : Prop where
  rd : Rd w.heap.size W g1 v B1 c1
  rm : Rm w.heap.size W g2 vm B2 c2
  dis : ∀ k, v.ownBlock = some k → vm.ownBlock = some k → False
  be : Below w.heap.size w W
  rin : Kd.R (Kd.int .u8) 5 W wr.heap.size (fun k => some k ≠ v.ownBlock ∧ some k ≠ vm.ownBlock) vi x
  ra : Kd.R (Kd.slice 5 (Kd.int .u8)) 27 W wr.heap.size (fun k => some k ≠ v.ownBlock ∧ some k ≠ vm.ownBlock) va bs
theorem FX.below {w wr W W' : World} {g1 g2 : Nat} {B1 : List Int} {c1 : Bool} {v : Value} {B2 : List Int} {c2 : Bool} {vm vi : Value} {x : List Int} {va : Value} {bs : List (List Int)} (h : FX w wr W g1 g2 B1 c1 v B2 c2 vm vi x va bs) (hb : Below W.heap.size W W') : FX w wr W' g1 g2 B1 c1 v B2 c2 vm vi x va bs :=
  ⟨h.rd.below hb, h.rm.below hb, h.dis, h.be.trans (hb.mono h.be.size), Kd.R_below h.rin hb, Kd.R_below h.ra hb⟩
theorem FI.ne {w wr : World} {g1 g2 n : Nat} {B : List Int} {cl : Bool} {v vm : Value} (h : FI w wr g1 g2 n B cl v vm) : g1 ≠ g2 := by
  rintro rfl
  have h1 := h.rd.blk
  rw [h.rm.blk] at h1
  cases h1
/-- r.Write -/
theorem step14 {w wr w2 : World} {g1 g2 n : Nat} {B : List Int} {cl : Bool} {v vm : Value} (h : FI w wr g1 g2 n B cl v vm) (hb : Below wr.heap.size wr w2) {A : Option Addr} {xn c : Nat} {x : List Int} (hn : x.length = xn) (hi : Kd.R (Kd.int .u8) 5 w2 wr.heap.size (fun _ => True) (.slice A xn c) x) (hT : TAB w)
    (hby : Byt (B ++ x)) (hsz : (B ++ x).length ≤ 5000000000000) (bs : List (List Int)) (E : Int) (B2 : List Int) (c2 : Bool) (k : Nat) (hw : wrF cl B x = (bs, E, B2, c2)) (hk : bs.length = k) :
    Calls Tryd.prog 14 #[.pointer (some ⟨g1, 0, none⟩), .slice A xn c] w2 fun e W1 => ∃ Ao co v1, e = .returned (.tuple #[.slice Ao k co, .int .i64 E]) ∧ FX w wr W1 g1 g2 B2 c2 v1 B cl vm (.slice A xn c) x (.slice Ao k co) bs := by
  obtain ⟨_, z1, z2⟩ := Kd.R_reads' hi
  rw [hn] at z2
  have hww : w.heap.size ≤ wr.heap.size := h.be.size
  have hne := h.ne
  have hg1 := h.rd.lt
  have hg2 := h.rm.lt
  have hvl : ∀ k, v.ownBlock = some k → k < wr.heap.size := Kd.R_lt h.rd.row
  have hml : ∀ k, vm.ownBlock = some k → k < wr.heap.size := Kd.R_lt h.rm.row
  have hs2 := hb.size
  have hm2 := h.rm.below hb
  refine (rdw (h.rd.below hb) h.cl0 A xn c x hn z2 z1 hT (h.be.trans (hb.mono hww)) hby hsz bs E B2 c2 k hw hk).mono ?_
  rintro e W1 ⟨Ao, co, v1, rfl, r1, r2, r3, r4, r5⟩
  refine ⟨Ao, co, v1, rfl, r2, ?_, ?_, r4, ?_, ?_⟩
  · refine hm2.moved (r5 g2 (by omega) (fun e => hne e.symm) ?_) fun q hq => r5 q (by have := hml q hq; omega) ?_ ?_
    · exact Kd.R_ne h.rd.row h.rm.blk (by decide)
    · rintro rfl
      exact Kd.R_ne h.rm.row h.rd.blk (by decide) hq.symm
    · exact fun e => h.dis q e.symm hq
  · intro q hq hq2
    rcases r3 q hq with h1 | h1
    · have := hml q hq2; omega
    · exact h.dis q h1 hq2
  · refine Kd.R_mono (Kd.R_step (Kd.R_bound hi) fun q hq hlt => r5 q hlt ?_ ?_) fun q hq => ⟨?_, ?_⟩
    · have := hq.2.1; omega
    · intro e; have := hvl q e.symm; have := hq.2.1; omega
    · intro e
      rcases r3 q e.symm with h1 | h1
      · have := hq.2.2.1; omega
      · have := hvl q h1; have := hq.2.1; omega
    · intro e; have := hml q e.symm; have := hq.2.1; omega
  · refine Kd.R_mono (Kd.R_lower r1 hs2) fun q hq => ⟨hq.2, fun e => ?_⟩
    have := hml q e.symm; have := hq.1; omega
/-- m.Write -/
theorem step15 {w wr W1 : World} {g1 g2 n : Nat} {B : List Int} {cl : Bool} {v vm : Value} (h : FI w wr g1 g2 n B cl v vm) {B2 : List Int} {c2 : Bool} {v1 vi va : Value} {x : List Int} {bs : List (List Int)} (hx : FX w wr W1 g1 g2 B2 c2 v1 B cl vm vi x va bs) {A : Option Addr} {xn c : Nat} (hn : x.length = xn) (hl : Kd.C (Kd.int .u8) W1 A xn x) (hc : xn ≤ c)
    (hby : Byt (B ++ x)) (hsz : (B ++ x).length ≤ 5000000000000) (E : Int) (k : Nat) (hw : wrF cl B x = (bs, E, B2, c2)) (hk : bs.length = k) :
    Calls Tryd.prog 15 #[.pointer (some ⟨g2, 0, none⟩), .slice A xn c] W1 fun e W2 => ∃ Ab cb vm1, e = .returned (.tuple #[.slice Ab k cb, .int .i64 E]) ∧ FX w wr W2 g1 g2 B2 c2 v1 B2 c2 vm1 vi x va bs ∧ k ≤ cb ∧ Kd.C (Kd.slice 5 (Kd.int .u8)) W2 Ab k bs := by
  have hww : w.heap.size ≤ wr.heap.size := h.be.size
  have hne := h.ne
  have hg1 := h.rd.lt
  have hg2 := h.rm.lt
  have hml : ∀ k, vm.ownBlock = some k → k < wr.heap.size := Kd.R_lt h.rm.row
  have hv1 : ∀ k, v1.ownBlock = some k → k < W1.heap.size := Kd.R_lt hx.rd.row
  refine (rmw hx.rm h.cl0 A xn c x hn hl hc hx.be.size hby hsz bs E B2 c2 k hw hk).mono ?_
  rintro e W2 ⟨Ab, cb, vm1, rfl, ⟨r0, r1⟩, r2, r3, r4, r5⟩
  have hs2 : W1.heap.size ≤ W2.heap.size := r4.size
  refine ⟨Ab, cb, vm1, rfl, ⟨?_, r2, ?_, hx.be.trans r4, ?_, ?_⟩, r0, r1⟩
  · refine hx.rd.moved (r5 g1 hx.rd.lt hne) fun q hq => r5 q (hv1 q hq) ?_
    rintro rfl
    exact Kd.R_ne hx.rd.row hx.rm.blk (by decide) hq.symm
  · intro q hq hq2
    rcases r3 q hq2 with h1 | h1
    · have := hv1 q hq; omega
    · exact hx.dis q hq h1
  · refine Kd.R_mono (Kd.R_step (Kd.R_bound hx.rin) fun q hq hlt => r5 q hlt ?_) fun q hq => ⟨hq.1.1, fun e => ?_⟩
    · have := hq.2.1; omega
    · rcases r3 q e.symm with h1 | h1
      · have := hq.2.2.1; omega
      · exact hq.1.2 h1.symm
  · refine Kd.R_mono (Kd.R_step (Kd.R_bound hx.ra) fun q hq hlt => r5 q hlt ?_) fun q hq => ⟨hq.1.1, fun e => ?_⟩
    · have := hq.2.1; omega
    · rcases r3 q e.symm with h1 | h1
      · have := hq.2.2.1; omega
      · exact hq.1.2 h1.symm
/-- what a round may spoil -/
def Sx (wr : World) (v vm : Value) (k : Nat) : Prop := wr.heap.size ≤ k ∧ some k ≠ v.ownBlock ∧ some k ≠ vm.ownBlock
theorem FI.next {w wr W wz : World} {g1 g2 n n2 : Nat} {B : List Int} {cl : Bool} {v vm : Value} (h : FI w wr g1 g2 n B cl v vm) {B2 : List Int} {c2 : Bool} {v1 vm1 vi va : Value} {x : List Int} {bs : List (List Int)} (hx : FX w wr W g1 g2 B2 c2 v1 B2 c2 vm1 vi x va bs) (hz : Spo (Sx wr v1 vm1) W wz) (hby : Byt B2) (hle : B2.length ≤ n2) (hc : c2 = true → B2 = []) :
    FI w wz g1 g2 n2 B2 c2 v1 vm1 := by
  have hww : w.heap.size ≤ wr.heap.size := h.be.size
  have hg1 := h.rd.lt
  have hg2 := h.rm.lt
  refine ⟨hx.rd.moved (hz.keep g1 fun e => ?_) fun q hq => hz.keep q fun e => e.2.1 hq.symm, hx.rm.moved (hz.keep g2 fun e => ?_) fun q hq => hz.keep q fun e => e.2.2 hq.symm, hx.dis, hx.be.trans ⟨hz.os, hz.tape, hz.output, Nat.le_of_eq hz.size.symm, fun q hq => hz.keep q fun e => ?_⟩, hby, hle, hc⟩
  · have := e.1; omega
  · have := e.1; omega
  · have := e.1; omega
/-- the copy, to be spoilt -/
theorem FX.el {w wr W : World} {g1 g2 : Nat} {B1 : List Int} {c1 : Bool} {v : Value} {B2 : List Int} {c2 : Bool} {vm va : Value} {x : List Int} {bs : List (List Int)} {A : Option Addr} {xn c : Nat} (h : FX w wr W g1 g2 B1 c1 v B2 c2 vm (.slice A xn c) x va bs) (h0 : 0 < xn) : ∃ g, A = some ⟨g, 0, none⟩ ∧ Sx wr v vm g ∧ El W g xn := by
  obtain ⟨z1, z2, z3⟩ := Kd.R_reads' h.rin
  obtain ⟨ad, rfl, _⟩ := z3.2.2 (by omega)
  obtain ⟨g, rfl⟩ := Kd.R_head h.rin
  exact ⟨g, rfl, ⟨Kd.R_base h.rin g rfl, h.rin.1 g rfl⟩, El.of_R h.rin⟩
/-- an element of what was answered, to be spoilt -/
theorem FX.ela {w wr W : World} {g1 g2 : Nat} {B1 : List Int} {c1 : Bool} {v : Value} {B2 : List Int} {c2 : Bool} {vm vi : Value} {x : List Int} {bs : List (List Int)} {A : Option Addr} {k c : Nat} (h : FX w wr W g1 g2 B1 c1 v B2 c2 vm vi x (.slice A k c) bs) (p : Nat) (hp : p < k) :
    ∃ ga Ai ni ci, A = some ⟨ga, 0, none⟩ ∧ (∃ cells, W.heap[ga]? = some (.cells cells 27 (0, 0))) ∧ W.cell? ⟨ga, p, none⟩ = some (.slice Ai ni ci) ∧ ni ≤ ci ∧ ni ≤ 9223372036854775807 ∧ (0 < ni → ∃ g, Ai = some ⟨g, 0, none⟩ ∧ Sx wr v vm g ∧ El W g ni) := by
  obtain ⟨z1, z2, z3⟩ := Kd.R_reads' h.ra
  obtain ⟨ad, rfl, _⟩ := z3.2.2 (by omega)
  obtain ⟨ga, rfl⟩ := Kd.R_head h.ra
  obtain ⟨cs, h1, ⟨vi', rfl, hR⟩, h3, h4⟩ := Kd.R_elem h.ra ([] : List Int) (p : Int) (by omega) (by omega)
  have e : ((p : Int)).toNat = p := rfl
  rw [e] at hR h3 h4
  have hcell := h3 0 vi' rfl
  rw [show p * (Kd.slice 5 (Kd.int .u8)).sz + 0 = p from by show p * 1 + 0 = p; omega] at hcell
  obtain ⟨Ai, ci, rfl⟩ := Kd.R_slice hR
  obtain ⟨_, y2, y3⟩ := Kd.R_reads' hR
  refine ⟨ga, Ai, _, ci, rfl, Kd.R_typed h.ra ga rfl, hcell, y2, ?_, fun h0 => ?_⟩
  · obtain ⟨inner, ho⟩ := Kd.R_own hR
    rcases ho.2 with ⟨e1, e2⟩ | ⟨g, cap, cur, e1, _, _, hnc, hmx, _⟩
    · omega
    · injection e1 with _ e3 e4
      simp only [maxLen] at hmx
      omega
  · obtain ⟨ad, rfl, _⟩ := y3.2.2 h0
    obtain ⟨g, rfl⟩ := Kd.R_head hR
    exact ⟨g, rfl, ⟨Kd.R_base hR g rfl, (hR.1 g rfl).1⟩, El.of_R hR⟩
end Go.Proofs.YthkmacgjekienaaDoor.P
/- FrameReads: the walk. -/
namespace Go.Proofs.YthkmacgjekienaaDoor.P
attribute [-simp] List.length_drop List.length_take ByteArray.size_append
open Go.RowKit Go.Shelf Go.Proofs.YthkmacgjekienaaDoor.Pure Go.Proofs.YthkmacgjekienaaDoorW.PrintWords Go.Proofs.YthkmacgjekienaaDoorW.PrintLast Go.Proofs.YthkmacgjekienaaDoorW.PrintMore
set_option linter.unusedVariables false
set_option linter.unusedSimpArgs false
theorem Spo.cell27 {S : Nat → Prop} {A B : World} {g p : Nat} {v : Value} (hz : Spo S A B) (h : ∃ cells, A.heap[g]? = some (.cells cells 27 (0, 0))) (hc : A.cell? ⟨g, p, none⟩ = some v) : B.cell? ⟨g, p, none⟩ = some v := by
  obtain ⟨cells, h⟩ := h
  rw [blk_cell (hz.oth g cells h) p, ← blk_cell h p]
  exact hc
theorem Spo.drew {S : Nat → Prop} {A B : World} (h : Spo S A B) : Spo S A B.drew := ⟨h.os, h.tape, h.output, h.size, h.keep, h.el, h.oth⟩
theorem take_rd (l : List (List Int)) (q : Nat) (h : q < l.length) : l.take (q + 1) = l.take q ++ [rd_L1 l (q : Int)] := by
  rw [List.take_add_one]
  congr 1
  unfold rd_L1
  rw [Int.toNat_natCast]
  simp [List.getD, h]
theorem FI.start {w : World} (n g1 g2 : Nat) (h1 : w.heap.size = g1) (h2 : (w.alloc (.cells #[.slice none 0 0, .bool true, .bool false] 57)).heap.size = g2) : FI w ((w.alloc (.cells #[.slice none 0 0, .bool true, .bool false] 57)).alloc (.cells #[.slice none 0 0, .bool false] 36)) g1 g2 n [] false (.slice none 0 0) (.slice none 0 0) := by
  have k1 := heap_alloc_new w (.cells #[.slice none 0 0, .bool true, .bool false] 57)
  have k2 := heap_alloc_new (w.alloc (.cells #[.slice none 0 0, .bool true, .bool false] 57)) (.cells #[.slice none 0 0, .bool false] 36)
  have hs : w.heap.size < g2 := by rw [← h2, World.size_alloc]; omega
  rw [h2] at k2
  rw [h1] at k1
  refine ⟨⟨(Below.heap_alloc _ _ _ (by rw [h2]; omega)).trans k1, Kd.R_nil _ _ _ _ _, by omega⟩, ⟨k2, Kd.R_nil _ _ _ _ _, by omega⟩, (fun k hk => by cases hk), below_alloc (below_alloc (Below.refl _ w) _) _, (fun x hx => by cases hx), Nat.zero_le _, fun h => by cases h⟩
set_option maxRecDepth 100000 in
set_option maxHeartbeats 4000000 in
theorem law_walk (ps : List (List Int)) (A : Option Addr) (n c : Nat) (w : World) (hn : ps.length = n) (hr : Kd.C (Kd.slice 5 (Kd.int .u8)) w A n ps) (hby : Byt ps.flatten) (hsz : ps.flatten.length ≤ 2000000) (hnb : n ≤ 9000000000000000000) (hT : TAB w) :
    Calls Tryd.prog 3 #[.slice A n c] w fun e w' => e = .returned (.bool true) ∧ Below w.heap.size w w' := by
  have HN := Aside0.mk hn
  have HR := Aside0.mk hr
  have HBy := Aside0.mk hby
  have HSZ := Aside0.mk hsz
  have HT := Aside0.mk hT
  clear hn hr hby hsz hT
  go_enter Tryd.func3, Tryd.ntmps3
  go_wp2_with (first
    | (go_at_call 11; (with_reducible refine (new_calls w).mono ?_); rintro e wn ⟨rfl, rfl⟩)
    | (go_at_call 12; (with_reducible refine (new2_calls _).mono ?_); rintro e wm ⟨rfl, rfl⟩))
  obtain ⟨g1, hg1⟩ : ∃ g, w.heap.size = g := ⟨_, rfl⟩
  obtain ⟨g2, hg2⟩ : ∃ g, (w.alloc (.cells #[.slice none 0 0, .bool true, .bool false] 57)).heap.size = g := ⟨_, rfl⟩
  have HF0 := Aside0.mk (FI.start (w := w) 0 g1 g2 hg1 hg2)
  rw [show w.heap.size + 1 = g2 from by rw [← hg2, World.size_alloc], hg1]
  clear hg1 hg2
  generalize (w.alloc (.cells #[.slice none 0 0, .bool true, .bool false] 57)).alloc (.cells #[.slice none 0 0, .bool false] 36) = wn at HF0 ⊢
  go_loopw [5, 6, 7, 8, 9, 10, 11, 12, 13] (fun i s6 s7 s8 s9 s10 s11 s12 s13 wr => ∃ (q : Nat) (B : List Int) (cl : Bool) (v vm : Value), q ≤ n ∧ q ≤ 40 ∧ i = .int .i64 q ∧ Aside0 (FI w wr g1 g2 (ps.take q).flatten.length B cl v vm)) (fun i s6 s7 s8 s9 s10 s11 s12 s13 _ => n - (intOf i).toNat)
  case atStart => exact ⟨0, [], false, _, _, Nat.zero_le _, Nat.zero_le _, rfl, ⟨by simpa using HF0.out⟩⟩
  case round =>
    obtain ⟨q, B, cl, v, vm, hq, hq4, rfl, HF⟩ := hrel
    clear HF0
    by_cases hlt : q < n ∧ q < 40
    · obtain ⟨h1, h2⟩ := hlt
      obtain ⟨ad, A0, c0, hA, hcell, hc0, hC⟩ := at_L1 HR.out (q : Int) (by omega) (by omega)
      subst hA
      have htk := take_rd ps q (by rw [HN.out]; omega)
      obtain ⟨x, hx⟩ : ∃ x, rd_L1 ps (q : Int) = x := ⟨_, rfl⟩
      rw [hx] at hcell hc0 hC htk
      obtain ⟨xn, hxn⟩ : ∃ n, x.length = n := ⟨_, rfl⟩
      rw [hxn] at hcell hc0 hC
      simp only [Int.toNat_natCast] at hcell
      have hfl : (ps.take (q + 1)).flatten = (ps.take q).flatten ++ x := by rw [htk]; simp
      have hpre : (ps.take (q + 1)).flatten ++ (ps.drop (q + 1)).flatten = ps.flatten := by rw [← List.flatten_append, List.take_append_drop]
      have hbx : Byt x := fun y hy => HBy.out y (by rw [← hpre, hfl]; exact List.mem_append_left _ (List.mem_append_right _ hy))
      have hlx : (ps.take q).flatten.length + xn ≤ 2000000 := by
        have h3 := HSZ.out
        rw [← hpre, List.length_append, hfl, List.length_append, hxn] at h3
        omega
      obtain ⟨bs, E, B2, c2, hw⟩ : ∃ bs E B2 c2, wrF cl B x = (bs, E, B2, c2) := ⟨_, _, _, _, rfl⟩
      obtain ⟨k, hk⟩ : ∃ k, bs.length = k := ⟨_, rfl⟩
      have hby2 : Byt (B ++ x) := Byt.app HF.out.byt hbx
      have hl2 : (B ++ x).length ≤ (ps.take q).flatten.length + xn := by rw [List.length_append, hxn]; have := HF.out.le; omega
      obtain ⟨f1, f2, f3, f4, f5⟩ := wrF_facts hw hby2
      obtain ⟨m2, hm2⟩ : ∃ m, B2.length = m := ⟨_, rfl⟩
      have CW := Aside0.mk (fun (W : World) (hb : Below w.heap.size w W) => (hb.cell (p := ad.add q) (World.block_lt_of_cell? _ _ hcell)).trans hcell)
      have CX := Aside0.mk (fun (W : World) (hb : Below w.heap.size w W) => Kd.C_below hC hb)
      have HC0 := Aside0.mk hc0
      have HXN := Aside0.mk hxn
      have HFL := Aside0.mk hfl
      have HLX := Aside0.mk hlx
      have HW := Aside0.mk hw
      have HK := Aside0.mk hk
      have HBY := Aside0.mk hby2
      have HL2 := Aside0.mk hl2
      have HM2 := Aside0.mk hm2
      have HB2 := Aside0.mk (show Byt B2 ∧ B2.length ≤ (ps.take (q + 1)).flatten.length ∧ (c2 = true → B2 = []) from ⟨f1, by rw [hfl, List.length_append, hxn]; omega, f3⟩)
      have HKL := Aside0.mk (show k ≤ 2000000 by omega)
      have HMEM := Aside0.mk (fun y (hy : y ∈ bs) => (show y.length ≤ 140737488353792 by have := f5 y hy; omega))
      have hcr := CW.out wr HF.out.be
      have t1 : decide (q < n) = true := decide_eq_true h1
      have t2 : decide ((q : Int) < 40) = true := decide_eq_true (by omega)
      have i1 : (q : Int) < (n : Int) := by omega
      have i0 : (0 : Int) ≤ (q : Int) := by omega
      have H1 := Aside0.mk h1
      have H4 := Aside0.mk h2
      have b1 : (E != E) = false := by simp
      have b2 : ((m2 : Int) != (m2 : Int)) = false := by simp
      have b3 : (c2 != c2) = false := by simp
      clear hC hc0 hx hxn htk hfl hpre hbx hlx hw hk hby2 hl2 f1 f2 f3 f4 f5 hm2 h1 h2 hcell
      go_upto_region 8 with (first
        | (go_at_call 13; (with_reducible refine (copy_calls HXN.out (CX.out wr HF.out.be) HC0.out (by have := HLX.out; omega)).mono ?_); rintro e w2 ⟨Ai, ci, rfl, r_, b_⟩; have RI := Aside0.mk r_; have BI := Aside0.mk b_; clear r_ b_)
        | (go_at_call 14; (with_reducible refine (step14 HF.out BI.out HXN.out RI.out HT.out HBY.out (by have := HL2.out; have := HLX.out; omega) bs E B2 c2 k HW.out HK.out).mono ?_); rintro e W1 ⟨Ao, co, v1, rfl, x_⟩; have FX1 := Aside0.mk x_; have hc7 := CW.out W1 x_.be; clear x_)
        | (go_at_call 15; (with_reducible refine (step15 HF.out FX1.out HXN.out (CX.out W1 FX1.out.be) HC0.out HBY.out (by have := HL2.out; have := HLX.out; omega) E k HW.out HK.out).mono ?_); rintro e W2 ⟨Ab, cb, vm1, rfl, x_, k1_, k2_⟩; have FX2 := Aside0.mk x_; have KB := Aside0.mk k1_; have KC := Aside0.mk k2_; have hc8 := CW.out W2 x_.be; have hIs := x_.rm.c1; clear x_ k1_ k2_))
      have RA := Aside0.mk (show k ≤ co ∧ Kd.C (Kd.slice 5 (Kd.int .u8)) W2 Ao k bs from by have h5 := (Kd.R_reads' FX2.out.ra).2; rw [HK.out] at h5; exact h5)
      have RI2 := Aside0.mk (show xn ≤ ci ∧ Kd.C (Kd.int .u8) W2 Ai xn x from by have h5 := (Kd.R_reads' FX2.out.rin).2; rw [HXN.out] at h5; exact h5)
      have L17 := Aside0.mk (fun (W : World) (hb : Below W2.heap.size W2 W) => (show Calls Tryd.prog 17 #[.pointer (some ⟨g1, 0, none⟩)] W fun e w' => e = .returned (.int .i64 m2) ∧ w' = W from (left_calls (FX2.out.rd.below hb)).mono fun e w' h => ⟨by rw [h.1, HM2.out], h.2.symm⟩))
      have L18 := Aside0.mk (fun (W : World) (hb : Below W2.heap.size W2 W) => (show Calls Tryd.prog 18 #[.pointer (some ⟨g2, 0, none⟩)] W fun e w' => e = .returned (.int .i64 m2) ∧ w' = W from (left2_calls (FX2.out.rm.below hb)).mono fun e w' h => ⟨by rw [h.1, HM2.out], h.2.symm⟩))
      have L19 := Aside0.mk (fun (W : World) (hb : Below W2.heap.size W2 W) => (show Calls Tryd.prog 19 #[.pointer (some ⟨g1, 0, none⟩)] W fun e w' => e = .returned (.bool c2) ∧ w' = W from (closed_calls (FX2.out.rd.below hb)).mono fun e w' h => ⟨h.1, h.2.symm⟩))
      go_quiet (first
        | (go_at_call 16; refine Calls.quiet_of (same_calls HK.out (by have := HKL.out; omega) HMEM.out (Kd.C_drewN RA.out.2 _) RA.out.1 (Kd.C_drewN KC.out _) KB.out))
        | (go_at_call 17; refine Calls.quiet_of_same (L17.out _ (pw_below_drewN (Below.refl _ _) _)))
        | (go_at_call 18; refine Calls.quiet_of_same (L18.out _ (pw_below_drewN (Below.refl _ _) _)))
        | (go_at_call 19; refine Calls.quiet_of_same (L19.out _ (pw_below_drewN (Below.refl _ _) _)))
        | (go_at_call 20; refine Calls.quiet_of (eq_calls HXN.out (Kd.C_drewN RI2.out.2 _) RI2.out.1 (Kd.C_drewN (CX.out W2 FX2.out.be) _) HC0.out (by have := HLX.out; omega))))
      have FX3 := Aside0.mk (FX2.out.below (pw_below_drewN (Below.refl W2.heap.size W2) nq))
      clear FX1 FX2 RA RI2 L17 L18 L19 KB KC hc8 hIs hc7 hcr BI RI b1 b2 b3 t1 t2 i1 i0
      generalize W2.drewN nq = Wm at FX3 ⊢
      obtain ⟨SX, hSX⟩ : ∃ S, Sx wr v1 vm1 = S := ⟨_, rfl⟩
      have HSX := Aside0.mk hSX
      have HNX := Aside0.mk (fun (wz : World) (hz : Spo SX Wm wz) => HF.out.next FX3.out (by rw [hSX]; exact hz) HB2.out.1 HB2.out.2.1 HB2.out.2.2)
      clear hSX
      go_wp2
      go_loopw [11] (fun i wz => ∃ j : Nat, j ≤ xn ∧ i = .int .i64 j ∧ Aside0 (Spo SX Wm wz)) (fun i _ => xn - (intOf i).toNat)
      case atStart => exact ⟨0, Nat.zero_le _, rfl, ⟨Spo.refl _ _⟩⟩
      case round =>
        obtain ⟨j, hj, rfl, HZ⟩ := hrel
        by_cases hlt : j < xn
        · obtain ⟨g, hg, hS, hE⟩ := FX3.out.el (by omega)
          subst hg
          obtain ⟨⟨y, q1⟩, q2⟩ := (HZ.out.el g xn hE).cell j hlt
          have t1 : decide (j < xn) = true := decide_eq_true hlt
          have z1 : (j : Int) < (xn : Int) := by omega
          have z0 : (0 : Int) ≤ (j : Int) := by omega
          have hw1 : wrap64 ((j : Int) + 1) = ((j + 1 : Nat) : Int) := by have := HLX.out; unfold wrap64; omega
          have HS := Aside0.mk (show SX g by rw [← HSX.out]; exact hS)
          have HE := Aside0.mk hE
          have HLT := Aside0.mk hlt
          clear hS hE hlt
          go_wp2
          refine ⟨⟨j + 1, HLT.out, by rw [hw1], ⟨HZ.out.trans (Spo.set HS.out (HZ.out.el g xn HE.out) HLT.out _)⟩⟩, ?_⟩
          have := HLT.out
          rw [hw1]
          simp only [intOf, Int.toNat_natCast]
          omega
        · have t1 : decide (j < xn) = false := decide_eq_false hlt
          clear hlt
          go_wp2
          go_loopw [12, 13] (fun i i13 wy => ∃ p : Nat, p ≤ k ∧ i = .int .i64 p ∧ Aside0 (Spo SX Wm wy)) (fun i i13 _ => k - (intOf i).toNat)
          case atStart => exact ⟨0, Nat.zero_le _, rfl, HZ⟩
          case round =>
            clear HZ
            obtain ⟨p, hp, rfl, HZ⟩ := hrel
            by_cases hlt : p < k
            · obtain ⟨ga, Ae, ne, ce, hga, hty, hce, hnc, hnl, hel⟩ := FX3.out.ela p hlt
              subst hga
              have hcy := HZ.out.cell27 hty hce
              have t1 : decide (p < k) = true := decide_eq_true hlt
              have z1 : (p : Int) < (k : Int) := by omega
              have z0 : (0 : Int) ≤ (p : Int) := by omega
              have hw1 : wrap64 ((p : Int) + 1) = ((p + 1 : Nat) : Int) := by have := HKL.out; unfold wrap64; omega
              have HLT := Aside0.mk hlt
              have HTY := Aside0.mk hty
              have HCE := Aside0.mk hce
              have HNC := Aside0.mk hnc
              have HNL := Aside0.mk hnl
              have HEL := Aside0.mk hel
              clear hlt hty hce hnc hnl hel
              go_wp2
              go_loopw [13] (fun i wx => ∃ j : Nat, j ≤ ne ∧ i = .int .i64 j ∧ Aside0 (Spo SX Wm wx)) (fun i _ => ne - (intOf i).toNat)
              case atStart => exact ⟨0, Nat.zero_le _, rfl, HZ⟩
              case round =>
                clear HZ hcy
                obtain ⟨j, hj, rfl, HZ⟩ := hrel
                have hcx := HZ.out.cell27 HTY.out HCE.out
                by_cases hlj : j < ne
                · obtain ⟨g, hg, hS, hE⟩ := HEL.out (by omega)
                  subst hg
                  obtain ⟨⟨y, q1⟩, q2⟩ := (HZ.out.el g ne hE).cell j hlj
                  have t3 : decide (j < ne) = true := decide_eq_true hlj
                  have y1 : (j : Int) < (ne : Int) := by omega
                  have y0 : (0 : Int) ≤ (j : Int) := by omega
                  have hw2 : wrap64 ((j : Int) + 1) = ((j + 1 : Nat) : Int) := by have := HNL.out; unfold wrap64; omega
                  have HS := Aside0.mk (show SX g by rw [← HSX.out]; exact hS)
                  have HE := Aside0.mk hE
                  have HLJ := Aside0.mk hlj
                  clear hS hE hlj
                  go_wp2
                  go_region
                  go_wp2
                  refine ⟨⟨j + 1, HLJ.out, by rw [hw2], ⟨HZ.out.drew.trans (Spo.set HS.out (HZ.out.drew.el g ne HE.out) HLJ.out _)⟩⟩, ?_⟩
                  have := HLJ.out
                  rw [hw2]
                  simp only [intOf, Int.toNat_natCast]
                  omega
                · have t3 : decide (j < ne) = false := decide_eq_false hlj
                  clear hlj
                  go_wp2
                  refine ⟨⟨p + 1, HLT.out, by rw [hw1], HZ⟩, ?_⟩
                  have := HLT.out
                  rw [hw1]
                  simp only [intOf, Int.toNat_natCast]
                  omega
            · have t1 : decide (p < k) = false := decide_eq_false hlt
              have hw1 : wrap64 ((q : Int) + 1) = ((q + 1 : Nat) : Int) := by have := H4.out; unfold wrap64; omega
              clear hlt
              go_wp2
              have h1 := H1.out
              have h4 := H4.out
              try rw [hw1]
              refine ⟨⟨q + 1, B2, c2, v1, vm1, h1, h4, by push_cast; rfl, ⟨HNX.out _ HZ.out⟩⟩, ?_⟩
              simp only [intOf, Int.toNat_natCast]
              omega
    · have hc : (q < n ∧ ¬ q < 40) ∨ ¬ q < n := by omega
      rcases hc with ⟨h1, h2⟩ | h1
      · have t1 : decide (q < n) = true := decide_eq_true h1
        have t2 : decide ((q : Int) < 40) = false := decide_eq_false (by omega)
        have h1' : (q : Int) < (n : Int) := by omega
        have TW := Aside0.mk HF.out.be
        clear h1 h2 hlt
        go_wp2_with (go_at_call 21; (with_reducible refine (awake_calls HT.out TW.out).mono ?_); rintro e w9 ⟨rfl, b_⟩; have B9 := Aside0.mk b_; clear b_)
        go_ret
        exact ⟨rfl, B9.out⟩
      · have t1 : decide (q < n) = false := decide_eq_false h1
        have TW := Aside0.mk HF.out.be
        clear h1 hlt
        go_wp2_with (go_at_call 21; (with_reducible refine (awake_calls HT.out TW.out).mono ?_); rintro e w9 ⟨rfl, b_⟩; have B9 := Aside0.mk b_; clear b_)
        go_ret
        exact ⟨rfl, B9.out⟩
end Go.Proofs.YthkmacgjekienaaDoor.P
