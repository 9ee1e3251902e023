/- A table of pieces: what lies in memory; what its methods do. -/
import Derived.Test.YtfedlanbmibhkaaS5b
namespace Go.Proofs.Ytfedlanbmibhkaa.P
open Go.RowKit Go.Proofs.YtfedlanbmibhkaaW.PrintWords Go.Proofs.YtfedlanbmibhkaaW.PrintLast Go.Proofs.YtfedlanbmibhkaaW.PrintMore
set_option linter.unusedVariables false
set_option linter.unusedSimpArgs false
/-- a slice of numbers, told by its block -/
def Bl_b (w : World) (C : Nat → Prop) (v : Value) (p : List Int) : Prop :=
  ∃ g o c cs, v = .slice (some ⟨g, o, none⟩) p.length c ∧ C g ∧ w.heap[g]? = some (.cells cs 5 (0, 0)) ∧ p.length ≤ c ∧ c ≤ 9223372036854775807 ∧ ∀ j x, p[j]? = some x → cs[o + j]? = some (.int .u8 x)
/-- a table -/
structure Tab_b (B : Nat) (w : World) (t : Nat) (C : Nat → Prop) (v : Value) (ps : List (List Int)) : Prop where
  lo : B ≤ t
  box : w.heap[t]? = some (.cells #[.bool true, v] 71 (0, 0))
  row : ∃ vs : List Value, w.ownsRow B 22 1 v ps.length vs ∧ All2 (Bl_b w C) vs ps
  full : Full ps
theorem Bl_b.move {w w' : World} {C C' : Nat → Prop} {v : Value} {p : List Int} (h : Bl_b w C v p) (hC : ∀ g, C g → C' g) (hm : ∀ g, g < w.heap.size → C g → w'.heap[g]? = w.heap[g]?) : Bl_b w' C' v p := by
  obtain ⟨g, o, c, cs, e, hc, hb, h1, h2, h3⟩ := h
  exact ⟨g, o, c, cs, e, hC g hc, (hm g (blk_lt hb) hc).trans hb, h1, h2, h3⟩
theorem Bl_b.one {w : World} {C : Nat → Prop} {v : Value} {p : List Int} (h : Bl_b w C v p) : v.oneCell' = true := by
  obtain ⟨g, o, c, cs, rfl, _⟩ := h; rfl
theorem Bl_b.reads {w : World} {C : Nat → Prop} {v : Value} {p : List Int} (h : Bl_b w C v p) : ∃ A c, v = .slice A p.length c ∧ p.length ≤ c ∧ c ≤ 9223372036854775807 ∧ Kd.C (Kd.int .u8) w A p.length p := by
  obtain ⟨g, o, c, cs, rfl, hc, hb, h1, h2, h3⟩ := h
  refine ⟨_, c, rfl, h1, h2, rfl, by omega, fun hp => ⟨⟨g, o, none⟩, rfl, fun j x hx => ⟨[.int .u8 x], rfl, rfl, fun i u hu => ?_⟩⟩⟩
  cases i with
  | zero => cases hu; show w.cell? ((⟨g, o, none⟩ : Addr).add (j * 1 + 0)) = _; rw [Nat.mul_one, Nat.add_zero, add_at, blk_cell hb]; exact h3 j x hx
  | succ i => cases hu
theorem Tab_b.move {B : Nat} {w w' : World} {t : Nat} {C : Nat → Prop} {v : Value} {ps : List (List Int)} (h : Tab_b B w t C v ps) (hm : ∀ g, g < w.heap.size → g = t ∨ v.ownBlock = some g ∨ C g → w'.heap[g]? = w.heap[g]?) : Tab_b B w' t C v ps := by
  obtain ⟨vs, ho, hr⟩ := h.row
  refine ⟨h.lo, (hm t (blk_lt h.box) (.inl rfl)).trans h.box, ⟨vs, ?_, hr.imp fun u p hb => hb.move (fun _ a => a) (fun g hg hc => hm g hg (.inr (.inr hc)))⟩, h.full⟩
  rcases own_rowAt ho with ⟨rfl, h0, rfl⟩ | ⟨g, cap, cur, rfl, hR⟩
  · rw [h0]; exact World.ownsRow_nil _ _ _ _
  · exact (hR.move (hm g (blk_lt hR.blk) (.inr (.inl rfl)))).own
theorem Tab_b.below {B : Nat} {w w' : World} {t : Nat} {C : Nat → Prop} {v : Value} {ps : List (List Int)} (h : Tab_b B w t C v ps) (hb : Below w.heap.size w w') : Tab_b B w' t C v ps := h.move (fun g hg _ => hb.block g hg)
theorem Tab_b.cells {B : Nat} {w : World} {t : Nat} {C : Nat → Prop} {v : Value} {ps : List (List Int)} (h : Tab_b B w t C v ps) : w.cell? ⟨t, 0, none⟩ = some (.bool true) ∧ w.cell? ⟨t, 1, none⟩ = some v ∧ w.frozen? ⟨t, 1, none⟩ = false :=
  ⟨blk_cell h.box 0, blk_cell h.box 1, blk_frozen h.box 1⟩

set_option maxHeartbeats 1000000 in
theorem none_calls_b {B : Nat} {w : World} {t : Nat} {C : Nat → Prop} {v : Value} {ps : List (List Int)} (h : Tab_b B w t C v ps) : Calls Try.prog 37 #[.pointer (some ⟨t, 0, none⟩)] w fun e w' => e = .returned (.bool false) ∧ w = w' := by
  obtain ⟨h0, -, -⟩ := h.cells
  clear h
  go_enter Try.func37, Try.ntmps37
  go_wp2
  go_ret
  exact ⟨rfl, rfl⟩
--b
set_option maxHeartbeats 1000000 in
theorem pieces_calls_b {B : Nat} {w : World} {t : Nat} {C : Nat → Prop} {v : Value} {ps : List (List Int)} (h : Tab_b B w t C v ps) : Calls Try.prog 26 #[.pointer (some ⟨t, 0, none⟩)] w fun e w' => e = .returned (.int .i64 (ps.length : Int)) ∧ w = w' := by
  obtain ⟨-, h1, -⟩ := h.cells
  obtain ⟨vs, ho, hr⟩ := h.row
  obtain ⟨A, c, rfl⟩ := own_slice ho
  have H := Aside0.mk h
  clear h ho hr
  go_enter Try.func26, Try.ntmps26
  go_wp2_with (go_at_call 37; refine (none_calls_b H.out).mono ?_; rintro e w' ⟨rfl, rfl⟩)
  go_ret
  exact ⟨rfl, rfl⟩
--end
set_option maxHeartbeats 1000000 in
theorem len_calls_b {B : Nat} {w : World} {t : Nat} {C : Nat → Prop} {v : Value} {ps : List (List Int)} (h : Tab_b B w t C v ps) (hs : ps.flatten.length ≤ 4611686018427387904) (N : Nat) (hN : ps.flatten.length = N) : Calls Try.prog 25 #[.pointer (some ⟨t, 0, none⟩)] w fun e w' => e = .returned (.int .i64 (N : Int)) ∧ w = w' := by
  subst hN
  obtain ⟨-, h1, -⟩ := h.cells
  obtain ⟨vs, ho, hr⟩ := h.row
  obtain ⟨A, c, rfl⟩ := own_slice ho
  have H := Aside0.mk h
  have HR := Aside0.mk hr
  have HO := Aside0.mk ho
  have hm := full_le h.full
  have hm' : ps.length ≤ 9223372036854775807 := by omega
  clear h ho hr hm
  go_enter Try.func25, Try.ntmps25
  go_wp2_with (go_at_call 37; refine (none_calls_b H.out).mono ?_; rintro e w' ⟨rfl, rfl⟩)
  go_loop [3, 13] (fun m i => ∃ q : Nat, q ≤ ps.length ∧ i = .int .i64 q ∧ m = .int .i64 ((ps.take q).flatten.length : Int)) (fun _ i => ps.length - (intOf i).toNat)
  case atStart => exact ⟨0, Nat.zero_le _, rfl, by simp⟩
  case round =>
    obtain ⟨q, hq, rfl, rfl⟩ := hrel
    by_cases hlt : q < ps.length
    · obtain ⟨p, hp⟩ := getElem_lt hlt
      obtain ⟨u, hu⟩ := getElem_lt (show q < vs.length by have := HO.out.1; omega)
      obtain ⟨g, o, c', cs, rfl, -, -, -⟩ := HR.out.get q u p hu hp
      obtain ⟨g1, cap, cur, e1, hR⟩ : ∃ g1 cap cur, (Value.slice A ps.length c) = .slice (some ⟨g1, 0, none⟩) ps.length cap ∧ RowAt w B g1 ps.length cap 22 cur vs := by
        rcases own_rowAt HO.out with ⟨e, h0, -⟩ | h
        · omega
        · exact h
      injection e1 with e1 _ e3
      subst e1; subst e3
      have hcell := hR.cell q _ hu
      have hts := flat_take_succ hp
      have htl := flat_take_le ps (q + 1)
      generalize hM : (ps.take q).flatten.length = M at hts ⊢
      have HT := Aside0.mk hts
      have hb1 : (M : Int) + (p.length : Int) ≤ 9223372036854775807 := by omega
      clear hR hts hM hp hu htl
      go_wp2
      go_round
      case rel => exact ⟨q + 1, by omega, by go_num, by rw [HT.out]; go_num⟩
      case measure => simp [intOf]; omega
    · obtain rfl : q = ps.length := by omega
      rw [List.take_length] 
      go_wp2
      go_ret
      exact ⟨rfl, rfl⟩
/-- what a method turns: its box and its row of pieces -/
structure Eff_b (t : Nat) (own : Option Nat) (w w' : World) : Prop where
  os : w'.os = w.os
  tape : w'.tape = w.tape
  output : w'.output = w.output
  size : w.heap.size ≤ w'.heap.size
  blk : ∀ g, g < w.heap.size → g ≠ t → some g ≠ own → w'.heap[g]? = w.heap[g]?
theorem Eff_b.refl (t : Nat) (own : Option Nat) (w : World) : Eff_b t own w w := ⟨rfl, rfl, rfl, Nat.le_refl _, fun _ _ _ _ => rfl⟩
theorem Eff_b.trans {t : Nat} {own own1 : Option Nat} {w w1 w2 : World} (h : Eff_b t own w w1) (k : Eff_b t own1 w1 w2) (ho : own1 = own ∨ ∃ b, own1 = some b ∧ w.heap.size ≤ b) : Eff_b t own w w2 :=
  ⟨k.os.trans h.os, k.tape.trans h.tape, k.output.trans h.output, Nat.le_trans h.size k.size, fun g hg h1 h2 => (k.blk g (Nat.lt_of_lt_of_le hg h.size) h1 (by
    rcases ho with rfl | ⟨c, rfl, hc⟩
    · exact h2
    · intro e; injection e with e; omega)).trans (h.blk g hg h1 h2)⟩
theorem Eff_b.of_below {t : Nat} {own : Option Nat} {w w' : World} (h : Below w.heap.size w w') : Eff_b t own w w' := ⟨h.os, h.tape, h.output, h.size, fun g hg _ _ => h.block g hg⟩
theorem Eff_b.of_grown {t : Nat} {own : Option Nat} {w w' : World} (h : w.grownBy w' own) : Eff_b t own w w' := ⟨h.os, h.tape, h.output, h.size, fun g hg _ h2 => h.block g hg h2⟩
theorem Eff_b.set {t : Nat} {own : Option Nat} {w w' : World} (h : Eff_b t own w w') (o : Nat) (u : Value) : Eff_b t own w (w'.setCell ⟨t, o, none⟩ u) :=
  ⟨h.os, h.tape, h.output, by simpa [World.setCell] using h.size, fun g hg h1 h2 => (Below.heap_setCell w' ⟨t, o, none⟩ u g h1).trans (h.blk g hg h1 h2)⟩
theorem Eff_b.to_below {B t : Nat} {own : Option Nat} {w w' : World} (h : Eff_b t own w w') (ht : B ≤ t) (ho : ∀ b, own = some b → B ≤ b) {w0 : World} (hb : Below B w0 w) (hB : B ≤ w.heap.size) : Below B w0 w' :=
  ⟨h.os.trans hb.os, h.tape.trans hb.tape, h.output.trans hb.output, Nat.le_trans hb.size h.size, fun g hg => (h.blk g (by omega) (by omega) (fun e => by have := ho g e.symm; omega)).trans (hb.block g hg)⟩
theorem Tab_b.ownB {B : Nat} {w : World} {t : Nat} {C : Nat → Prop} {v : Value} {ps : List (List Int)} (h : Tab_b B w t C v ps) : ∀ b, v.ownBlock = some b → B ≤ b ∧ b < w.heap.size ∧ b ≠ t := fun b hb => by
  obtain ⟨vs, ho, -⟩ := h.row
  rcases own_rowAt ho with ⟨rfl, h0, rfl⟩ | ⟨g, cap, cur, rfl, hR⟩
  · cases hb
  · cases hb
    exact ⟨hR.lo, blk_lt hR.blk, blk_ne hR.blk h.box (by decide)⟩
theorem bl_made_b {w : World} {base : Nat} {A : Option Addr} {c : Nat} {xs : List Int} (h0 : 0 < xs.length) (ho : w.ownsRow base 5 1 (.slice A xs.length c) xs.length (nums .u8 xs)) {C : Nat → Prop} (hC : ∀ g, base ≤ g → g < w.heap.size → C g) : Bl_b w C (.slice A xs.length c) xs := by
  rcases own_rowAt ho with ⟨-, h, -⟩ | ⟨g, cap, cur, e, hR⟩
  · omega
  · injection e with e1 _ e3
    subst e1; subst e3
    refine ⟨g, 0, c, cur, rfl, hC g hR.lo (blk_lt hR.blk), hR.blk, hR.nc, hR.cm, fun j x hx => ?_⟩
    rw [Nat.zero_add, ← blk_cell hR.blk]
    exact hR.cell j _ (nums_get hx)
theorem put_close_b {B : Nat} {w : World} {t : Nat} {C : Nat → Prop} {v : Value} {ps : List (List Int)} (h : Tab_b B w t C v ps) {vs : List Value} (HO : w.ownsRow B 22 1 v ps.length vs) (HV : All2 (Bl_b w C) vs ps) (i : Nat) (hi : i ≤ ps.length) (xs : List Int) (h0 : 0 < xs.length)
    {w1 : World} {A1 : Option Addr} {c1 : Nat} (O1 : w1.ownsRow w.drew.heap.size 5 1 (.slice A1 xs.length c1) xs.length (nums .u8 xs)) (S1 : Below w.drew.heap.size w.drew w1)
    {w2 : World} {A2 : Option Addr} {c2 : Nat} {o : Obj} (O2 : w2.ownsRow B 22 1 (.slice A2 (ps.length + 1) c2) (ps.length + 1) (vs.take i ++ .slice A1 xs.length c1 :: vs.drop i)) (S2 : (w1.alloc o).grownBy w2 v.ownBlock) (N2 : (Value.slice A2 (ps.length + 1) c2).ownBlock = v.ownBlock ∨ ∃ b, (Value.slice A2 (ps.length + 1) c2).ownBlock = some b ∧ (w1.alloc o).heap.size ≤ b) :
    ∃ v', Tab_b B (w2.setCell ⟨t, 1, none⟩ (.slice A2 (ps.length + 1) c2)) t (fun g => C g ∨ w.heap.size ≤ g) v' (putS ps i xs) ∧ Eff_b t v.ownBlock w (w2.setCell ⟨t, 1, none⟩ (.slice A2 (ps.length + 1) c2)) ∧ (v'.ownBlock = v.ownBlock ∨ ∃ b, v'.ownBlock = some b ∧ w.heap.size ≤ b) := by
  have s1 : Below w.heap.size w w1 := ⟨S1.os, S1.tape, S1.output, S1.size, S1.block⟩
  have s2 : Below w.heap.size w (w1.alloc o) := below_alloc s1 o
  have hox : w.heap.size ≤ (w1.alloc o).heap.size := s2.size
  have hbox := h.box
  have ht := blk_lt hbox
  have hown : ∀ b, v.ownBlock = some b → b ≠ t := fun b hb => (h.ownB b hb).2.2
  have hb2 : w2.heap[t]? = some (.cells #[.bool true, v] 71 (0, 0)) := (S2.block t (Nat.lt_of_lt_of_le ht hox) (fun e => hown t e.symm rfl)).trans ((s2.block t ht).trans hbox)
  have eff : Eff_b t v.ownBlock w w2 := (Eff_b.of_below s2).trans (Eff_b.of_grown S2) (.inl rfl)
  have hb3 := blk_set hb2 1 (.slice A2 (ps.length + 1) c2)
  have hne := own_ne O2 hb2 (by decide)
  have O3 := own_setCell O2 (p := ⟨t, 1, none⟩) hne (.slice A2 (ps.length + 1) c2)
  have old : ∀ u p, Bl_b w C u p → Bl_b (w2.setCell ⟨t, 1, none⟩ (.slice A2 (ps.length + 1) c2)) (fun g => C g ∨ w.heap.size ≤ g) u p := by
    intro u p hb
    obtain ⟨g, o', c, cs, e, hc, hb, h1, h2, h3⟩ := hb
    have n1 : g ≠ t := blk_ne hb hbox (by decide)
    have n2 : some g ≠ v.ownBlock := by
      rcases own_rowAt HO with ⟨rfl, -, -⟩ | ⟨g2, cap, cur, rfl, hR⟩
      · simp [Value.ownBlock]
      · intro e; cases e; exact absurd rfl (blk_ne hb hR.blk (by decide))
    exact ⟨g, o', c, cs, e, .inl hc, ((eff.set 1 _).blk g (blk_lt hb) n1 n2).trans hb, h1, h2, h3⟩
  have hw1 : w1.heap.size ≤ (w1.alloc o).heap.size := by rw [World.size_alloc]; exact Nat.le_succ _
  have new : Bl_b (w2.setCell ⟨t, 1, none⟩ (.slice A2 (ps.length + 1) c2)) (fun g => C g ∨ w.heap.size ≤ g) (.slice A1 xs.length c1) xs := by
    refine (bl_made_b h0 O1 (C := fun g => w.heap.size ≤ g) (fun g hg _ => hg)).move (fun g hg => .inr hg) (fun g hg hc => ?_)
    have n1 : g ≠ t := by have : w.heap.size ≤ g := hc; omega
    refine (Below.heap_setCell w2 ⟨t, 1, none⟩ _ g n1).trans ((S2.block g (Nat.lt_of_lt_of_le hg hw1) (fun e => ?_)).trans (Below.heap_alloc w1 o g hg))
    have := (h.ownB g e.symm).2.1
    have : w.heap.size ≤ g := hc
    omega
  refine ⟨.slice A2 (ps.length + 1) c2, ⟨h.lo, hb3, ⟨vs.take i ++ .slice A1 xs.length c1 :: vs.drop i, ?_, ?_⟩, full_put h.full⟩, eff.set 1 _, ?_⟩
  · rw [putS_cons h0, show (ps.take i ++ xs :: ps.drop i).length = ps.length + 1 by rw [List.length_append, List.length_take, List.length_cons, List.length_drop]; omega]
    exact O3
  · rw [putS_cons h0]
    have H := HV.imp old
    exact (H.take i).append (.cons new (H.drop i))
  · rcases N2 with e | ⟨b, e, hb⟩
    · exact .inl e
    · exact .inr ⟨b, e, Nat.le_trans hox hb⟩

set_option maxHeartbeats 2000000 in
set_option maxRecDepth 100000 in
theorem put_some_b {B : Nat} {w : World} {t : Nat} {C : Nat → Prop} {v : Value} {ps : List (List Int)} (h : Tab_b B w t C v ps) (i : Nat) (hi : i ≤ ps.length) (hn : ps.length ≤ 1000000) (A : Option Addr) (c : Nat) (xs : List Int) (hr : Kd.C (Kd.int .u8) w A xs.length xs) (h0 : 0 < xs.length) (hx : xs.length * 1 ≤ 140737488355328) (hB : B ≤ w.heap.size) :
    Calls Try.prog 36 #[.pointer (some ⟨t, 0, none⟩), .int .i64 i, .slice A xs.length c] w fun e w' => e = .returned (.tuple #[]) ∧ ∃ v', Tab_b B w' t (fun g => C g ∨ w.heap.size ≤ g) v' (putS ps i xs) ∧ Eff_b t v.ownBlock w w' ∧ (v'.ownBlock = v.ownBlock ∨ ∃ b, v'.ownBlock = some b ∧ w.heap.size ≤ b) := by
  obtain ⟨-, hc1, hf1⟩ := h.cells
  obtain ⟨vs, ho, hrs⟩ := h.row
  have HT := Aside0.mk h
  have HS : Aside0 (w.cell? ⟨t, 1, none⟩ = some v ∧ w.frozen? ⟨t, 1, none⟩ = false) := ⟨⟨hc1, hf1⟩⟩
  have HO := Aside0.mk ho
  have HV := Aside0.mk hrs
  have HC := Aside0.mk hr
  have h1 : decide ((0 : Int) < (xs.length : Int)) = true := by simp; omega
  have HX : Aside0 (∀ x ∈ vs, x.oneCell' = true) := ⟨hrs.left fun _ _ hb => hb.one⟩
  clear h ho hrs hr hc1 hf1
  go_enter Try.func36, Try.ntmps36
  go_wp2
  obtain ⟨k0c, k0f⟩ := HS.out
  go_region_with ((first
      | (go_at_call 50; refine (cloneb_calls_b _ _ xs _ (Kd.C_drew HC.out) h0 hx).mono ?_; rintro e w1 ⟨u, rfl, ho1, hb1⟩; obtain ⟨A1, c1, rfl⟩ := own_slice ho1; have O1 := Aside0.mk ho1; have S1 := Aside0.mk hb1; have k1 := slot_grown (grown_of_below hb1 none) (by simp) HS.out; obtain ⟨k1c, k1f⟩ := k1; have k1b := slot_alloc (Obj.cells #[.slice A1 xs.length c1] 22) ⟨k1c, k1f⟩; obtain ⟨k1d, k1g⟩ := k1b; clear ho1 hb1)
      | (go_at_call 49; refine (insert_calls_b B ps.length i _ v vs (.slice A1 xs.length c1) _ (pw_own_below (pw_own_below HO.out.drew S1.out) (below_alloc (Below.refl _ w1) _)) hi hn (heap_alloc_new w1 _) (fun e_ => absurd (HT.out.ownB _ e_.symm).2.1 (Nat.not_lt.mpr S1.out.size)) HX.out rfl (Nat.le_trans hB (Nat.le_trans S1.out.size (by rw [World.size_alloc]; exact Nat.le_succ _)))).mono ?_; rintro e w2 ⟨v2, rfl, ho2, hg2, ha2⟩; obtain ⟨A2, c2, rfl⟩ := own_slice ho2; have O2 := Aside0.mk ho2; have S2 := Aside0.mk hg2; have N2 := Aside0.mk ha2; have k2 := slot_grown hg2 (fun e_ => (HT.out.ownB _ e_.symm).2.2 rfl) (slot_alloc (Obj.cells #[.slice A1 xs.length c1] 22) ⟨k1c, k1f⟩); obtain ⟨k2c, k2f⟩ := k2; clear ho2 hg2 ha2)))
  all_goals go_wp2
  all_goals go_end0
  all_goals exact ⟨rfl, put_close_b HT.out HO.out HV.out i hi xs h0 O1.out S1.out O2.out S2.out N2.out⟩
end Go.Proofs.Ytfedlanbmibhkaa.P
