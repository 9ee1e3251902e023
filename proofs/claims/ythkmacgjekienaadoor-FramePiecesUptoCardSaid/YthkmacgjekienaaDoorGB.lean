/- Bytes in pieces: rows of rows that share what came in. -/
import Derived.Test.YthkmacgjekienaaDoorG5
import Derived.Test.YthkmacgjekienaaDoorO
namespace Go.Proofs.YthkmacgjekienaaDoor.P
attribute [-simp] List.length_drop List.length_take ByteArray.size_append
open Go.RowKit Go.Shelf Go.Proofs.YthkmacgjekienaaDoor.Pure Go.Proofs.YthkmacgjekienaaDoorW.PrintWords Go.Proofs.YthkmacgjekienaaDoorW.PrintLast Go.Proofs.YthkmacgjekienaaDoorW.PrintMore
set_option linter.unusedVariables false
set_option linter.unusedSimpArgs false
/-- a slice's three words -/
abbrev Tr := Option Addr × Nat × Nat
def encT (t : Tr) : Value := .slice t.1 t.2.1 t.2.2
theorem encT_one (t : Tr) : (encT t).oneCell' = true := rfl
def KT : Kd Tr := Kd.scalar encT encT_one
/-- it reads as x, in all worlds behind w that keep what lay there -/
def Lt (w : World) (t : Tr) (x : List Int) : Prop := t.2.1 = x.length ∧ x.length ≤ t.2.2 ∧ ∀ W, Below w.heap.size w W → Kd.C (Kd.int .u8) W t.1 x.length x
def Lts (w : World) (ts : List Tr) (ps : List (List Int)) : Prop := ts.length = ps.length ∧ ∀ (i : Nat) t x, ts[i]? = some t → ps[i]? = some x → Lt w t x
theorem Lts.nil (w : World) : Lts w [] [] := ⟨rfl, fun i t x h => by simp at h⟩
theorem Lts.snoc {w : World} {ts : List Tr} {ps : List (List Int)} {t : Tr} {x : List Int} (h : Lts w ts ps) (hx : Lt w t x) : Lts w (ts ++ [t]) (ps ++ [x]) := by
  obtain ⟨h1, h2⟩ := h
  refine ⟨by simp [h1], fun i t' x' ht hx' => ?_⟩
  rcases Nat.lt_or_ge i ts.length with hi | hi
  · rw [List.getElem?_append_left hi] at ht
    rw [List.getElem?_append_left (by omega)] at hx'
    exact h2 i t' x' ht hx'
  · rw [List.getElem?_append_right hi] at ht
    rw [List.getElem?_append_right (by omega)] at hx'
    have h0 : i - ts.length = 0 := by
      rcases Nat.eq_zero_or_pos (i - ts.length) with h0 | h0
      · exact h0
      · rw [List.getElem?_eq_none (by simp; omega)] at ht; cases ht
    rw [h0] at ht
    rw [← h1, h0] at hx'
    cases ht; cases hx'
    exact hx
theorem Lt.take {w : World} {A : Option Addr} {n c : Nat} {x : List Int} (h : Lt w (A, n, c) x) (j : Nat) (hj : j ≤ n) : Lt w (A, j, c) (x.take j) := by
  obtain ⟨h1, h2, h3⟩ := h
  simp only at h1 h2 h3
  have hl : (x.take j).length = j := by rw [List.length_take]; omega
  exact ⟨hl.symm, by simp only; omega, fun W hW => Kd.C_take (h3 W hW) (by omega)⟩
theorem Lt.drop {w : World} {A : Option Addr} {n c : Nat} {x : List Int} (h : Lt w (A, n, c) x) (j : Nat) (hj : j ≤ n) : Lt w (if c = j then A else A.map (·.add j), n - j, c - j) (x.drop j) := by
  obtain ⟨h1, h2, h3⟩ := h
  simp only at h1 h2 h3
  have hl : (x.drop j).length = n - j := by rw [List.length_drop]; omega
  refine ⟨hl.symm, by simp only; omega, fun W hW => ?_⟩
  have := Kd.C_drop (m := j) (h3 W hW) (by omega) h2
  rw [show j * (Kd.int .u8).sz = j from Nat.mul_one j] at this
  exact this
/-- a row of such words, of one's own -/
structure RT (w W : World) (v : Value) (ts : List Tr) : Prop where
  row : Kd.R KT 27 W w.heap.size (fun _ => True) v ts
  be : Below w.heap.size w W
theorem RT.new (w : World) : RT w w (.slice none 0 0) [] := ⟨Kd.R_nil _ _ _ _ _, Below.refl _ _⟩
theorem RT.below {w W W1 : World} {v : Value} {ts : List Tr} (h : RT w W v ts) (hb : Below W.heap.size W W1) : RT w W1 v ts := ⟨Kd.R_below h.row hb, h.be.trans (hb.mono h.be.size)⟩
theorem RT.slice {w W : World} {v : Value} {ts : List Tr} (h : RT w W v ts) : ∃ A c, v = .slice A ts.length c := Kd.R_slice h.row
/-- such a row is read as a row of rows -/
theorem RT.C {w W : World} {A : Option Addr} {n c : Nat} {ts : List Tr} {ps : List (List Int)} (h : RT w W (.slice A n c) ts) (hp : ∀ (i : Nat) t x, ts[i]? = some t → ps[i]? = some x → t.2.1 = x.length ∧ x.length ≤ t.2.2 ∧ Kd.C (Kd.int .u8) W t.1 x.length x) (hl : ts.length = ps.length) : n = ps.length ∧ n ≤ c ∧ Kd.C (Kd.slice 5 (Kd.int .u8)) W A ps.length ps := by
  obtain ⟨h1, h2, h3⟩ := Kd.R_reads' h.row
  refine ⟨by omega, h2, rfl, by have := h3.2.1; omega, fun hn => ?_⟩
  obtain ⟨ad, rfl, hc⟩ := h3.2.2 (by omega)
  refine ⟨ad, rfl, fun j x hx => ?_⟩
  have hj : j < ts.length := by have := (List.getElem?_eq_some_iff.1 hx).1; omega
  obtain ⟨cs, e1, e2, e3⟩ := hc j ts[j] (List.getElem?_eq_getElem hj)
  obtain ⟨a1, a2, a3⟩ := hp j ts[j] x (List.getElem?_eq_getElem hj) hx
  refine ⟨cs, e1, ⟨ts[j].1, ts[j].2.2, ?_, a2, a3⟩, e3⟩
  rw [show cs = [encT ts[j]] from e2]
  unfold encT
  rw [a1]
section
variable {ops : Array Oper} {rest : List Oper} {o : Oper} {a : Act} {Q : Exit → Act → World → Prop} {w W : World}
theorem push_T (hg : o.guard = none) (s x : Operand) (ho : o.op = Op.call { callee := Callee.builtin Builtin.append, args := #[s, x], argTypes := #[22, 22] }) (v : Value) (ts : List Tr) (A : Option Addr) (n c k : Nat) (hs : a.eval s = v) (hx : a.eval x = .slice (some ⟨W.heap.size, 0, none⟩) 1 1) (HO : RT w W v ts) (hk : ts.length + 1 = k) (hl : k ≤ 1000000)
    (h : ∀ A1 c1 w1, RT w w1 (.slice A1 k c1) (ts ++ [(A, n, c)]) → wpList Tryd.prog ops Q rest (a.put o.dst (.slice A1 k c1)) w1) : wpList Tryd.prog ops Q (o :: rest) a (W.alloc (.cells #[.slice A n c] 27)) := by
  refine print_append_of (w0 := w) encT w.heap.size hg s x 22 27 (.slice none 0 0) 24 ho Tryd.underlying22 info22 rfl (by decide) v ts (A, n, c) hs hx rfl (Kd.own_of_R HO.row) HO.be HO.be.size (by omega) ?_
  intro v1 w1 ho1 hb1 hg1 ha1
  have hr : RT w w1 v1 (ts ++ [(A, n, c)]) := ⟨Kd.R_of_own ho1 (fun _ _ => trivial), hb1⟩
  obtain ⟨A1, c1, rfl⟩ := hr.slice
  have hk2 : (ts ++ [(A, n, c)]).length = k := by rw [List.length_append]; simpa using hk
  rw [hk2] at hr ⊢
  exact h A1 c1 w1 hr
end
theorem bring_nat (a : Int) (nb : Nat) (hn : nb ≤ 140737488355000) (w : World) : ∃ j : Nat, j ≤ nb ∧ ∀ w : World, Calls Tryd.prog 23 #[.int .i64 a, .int .i64 (nb + 1)] w fun e w' => e = .returned (.int .i64 j) ∧ Drawn0 w w' := by
  obtain ⟨t, h1, h2, h3⟩ := bring_some a (nb + 1) (by omega) (by omega)
  obtain ⟨j, rfl⟩ := Int.eq_ofNat_of_zero_le h2
  exact ⟨j, by omega, fun w => colophonref00_Bring.calls a (nb + 1) j w h1⟩
end Go.Proofs.YthkmacgjekienaaDoor.P
/- Bytes in pieces: the walk. -/
namespace Go.Proofs.YthkmacgjekienaaDoor.P
attribute [-simp] List.length_drop List.length_take ByteArray.size_append
open Go.RowKit Go.Shelf Go.Proofs.YthkmacgjekienaaDoor.Pure Go.Proofs.YthkmacgjekienaaDoorW.PrintWords Go.Proofs.YthkmacgjekienaaDoorW.PrintLast Go.Proofs.YthkmacgjekienaaDoorW.PrintMore
set_option linter.unusedVariables false
set_option linter.unusedSimpArgs false
/-- between two rounds of cut -/
structure Ct (w W : World) (v : Value) (q nt : Nat) (t : Tr) (l : List Int) : Prop where
  ex : ∃ ts ps x, RT w W v ts ∧ Lts w ts ps ∧ ps.flatten ++ x = l ∧ Lt w t x ∧ ts.length = nt
  le : nt ≤ q
set_option maxRecDepth 100000 in
set_option maxHeartbeats 4000000 in
theorem cut_walk (A : Option Addr) (n c : Nat) (l : List Int) (A1 : Option Addr) (m c1 : Nat) (l1 : List Int) (w : World) (hl : Lt w (A, n, c) l) (hnb : n ≤ 140737488355000) (h1 : Kd.C (Kd.int .i64) w A1 m l1) :
    Calls Tryd.prog 26 #[.slice A n c, .slice A1 m c1] w fun e w' => ∃ A2 n2 c2 ts ps, e = .returned (.slice A2 n2 c2) ∧ RT w w' (.slice A2 n2 c2) ts ∧ Lts w ts ps ∧ ps.flatten = l ∧ ts.length = n2 ∧ n2 ≤ 61 := by
  have H1 := Aside0.mk h1
  have HS := Aside0.mk (⟨⟨[], [], l, RT.new w, Lts.nil w, by simp, hl, rfl⟩, Nat.le_refl _⟩ : Ct w w (.slice none 0 0) 0 0 (A, n, c) l)
  clear h1 hl
  go_enter Tryd.func26, Tryd.ntmps26
  go_wp2
  go_loopw [0, 5, 6, 7] (fun b v i u wr => ∃ (q nb cb nt ct : Nat) (Ab At : Option Addr), q ≤ m ∧ q ≤ 60 ∧ nb ≤ n ∧ i = .int .i64 q ∧ b = .slice Ab nb cb ∧ v = .slice At nt ct ∧ Aside0 (Ct w wr (.slice At nt ct) q nt (Ab, nb, cb) l)) (fun b v i u _ => 60 - (intOf i).toNat)
  case atStart => exact ⟨0, n, c, 0, 0, A, none, Nat.zero_le _, Nat.zero_le _, Nat.le_refl _, rfl, rfl, rfl, HS⟩
  case round =>
    obtain ⟨q, nb, cb, nt, ct, Ab, At, hq, hq60, hnb2, rfl, rfl, rfl, HC⟩ := hrel
    clear HS
    obtain ⟨⟨ts, ps, x, r0, l0, hf, lx, htl⟩, hntq⟩ := HC.out
    have R0 := Aside0.mk r0
    have L0 := Aside0.mk l0
    have LX := Aside0.mk lx
    have HF := Aside0.mk hf
    have HTL := Aside0.mk htl
    have hbl : x.length = nb ∧ nb ≤ cb := ⟨lx.1.symm, by have := lx.1; have := lx.2.1; simp only at *; omega⟩
    have HBL := Aside0.mk hbl
    have HNQ := Aside0.mk hntq
    clear r0 l0 lx hf htl hbl hntq HC
    by_cases hlt : q < m ∧ q < 60 ∧ 0 < nb
    · obtain ⟨ad, hA, hcell⟩ := Kd.at_int (Kd.C_below H1.out R0.out.be) (q : Int) (by omega) (by omega)
      subst hA
      obtain ⟨s, hs⟩ : ∃ s, rd l1 (q : Int) = s := ⟨_, rfl⟩
      rw [hs] at hcell
      obtain ⟨j, hj, hB⟩ := bring_nat s nb (by omega) wr
      have HBR := Aside0.mk hB
      obtain ⟨i0, hi, _, hsz, _⟩ := info_parts info5
      have hcut := cut_to (P := Tryd.prog) 27 5 .i64 Tryd.underlying27 hi Ab nb cb (j : Int) (by omega) (by omega) HBL.out.2
      have hfrom := cut_from (P := Tryd.prog) 27 5 .i64 Tryd.underlying27 hi 1 hsz Ab nb cb (j : Int) (by omega) (by omega)
      simp only [Int.toNat_natCast, Nat.mul_one] at hcell hcut hfrom
      have h1 : (q : Int) < (m : Int) := by omega
      have h0 : (0 : Int) ≤ (q : Int) := by omega
      have t1 : decide (q < m) = true := decide_eq_true hlt.1
      have t2 : decide ((q : Int) < 60) = true := decide_eq_true (by omega)
      have t3 : decide (0 < nb) = true := decide_eq_true hlt.2.2
      have hw1 : wrap64 ((q : Int) + 1) = ((q + 1 : Nat) : Int) := by unfold wrap64; omega
      have hw2 : wrap64 ((nb : Int) + 1) = (nb : Int) + 1 := by unfold wrap64; omega
      obtain ⟨A2, hA2⟩ : ∃ A2, (if cb = j then Ab else Ab.map (·.add j)) = A2 := ⟨_, rfl⟩
      obtain ⟨n2, hn2⟩ : ∃ n2, nb - j = n2 := ⟨_, rfl⟩
      obtain ⟨c2, hc2⟩ : ∃ c2, cb - j = c2 := ⟨_, rfl⟩
      rw [hA2, hn2, hc2] at hfrom
      have LT := Aside0.mk (LX.out.take j hj)
      have ld := LX.out.drop j hj
      rw [hA2, hn2, hc2] at ld
      have LD := Aside0.mk ld
      have hn2n : n2 ≤ n := hn2 ▸ Nat.le_trans (Nat.sub_le nb j) hnb2
      have HN2 := Aside0.mk hn2n
      clear hs hB hi hsz hA2 hn2 hc2 hj hn2n ld
      go_wp2_with (first
        | (go_at_call 23; (with_reducible refine (HBR.out _).mono ?_); rintro e w2 ⟨rfl, ⟨nd, rfl⟩⟩)
        | (at_builtin; refine push_T rfl (.tmp 31) (.tmp 35) rfl _ ts Ab j cb (nt + 1) rfl rfl (R0.out.below (by repeat (first | (with_reducible exact Below.refl _ _) | apply below_drew | apply pw_below_drewN))) (by rw [HTL.out]) (by have := HNQ.out; omega) ?_; intro A3 c3 w3 r_; have R3 := Aside0.mk r_; clear r_))
      refine ⟨⟨q + 1, n2, c2, nt + 1, c3, A2, A3, by omega, by omega, HN2.out, by simp, rfl, rfl, ⟨⟨ts ++ [(Ab, j, cb)], ps ++ [x.take j], x.drop j, R3.out, L0.out.snoc LT.out, ?_, LD.out, by simp [HTL.out]⟩, by have := HNQ.out; omega⟩⟩, by simp [intOf]; omega⟩
      rw [← HF.out]
      simp
    · have hout : (q < m) = False ∨ ((q < m) = True ∧ ((q : Int) < 60) = False) ∨ ((q < m) = True ∧ ((q : Int) < 60) = True ∧ (0 < nb) = False) := by
        rcases Nat.lt_or_ge q m with h | h
        · rcases Nat.lt_or_ge q 60 with h' | h'
          · exact .inr (.inr ⟨eq_true h, eq_true (by omega), eq_false (by omega)⟩)
          · exact .inr (.inl ⟨eq_true h, eq_false (by omega)⟩)
        · exact .inl (eq_false (by omega))
      have HQ := Aside0.mk hq60
      clear hlt hq hq60
      rcases hout with k1 | ⟨k1, k2⟩ | ⟨k1, k2, k3⟩
      all_goals
        go_wp2_with (at_builtin; refine push_T rfl (.tmp 40) (.tmp 42) rfl _ ts Ab nb cb (nt + 1) rfl rfl R0.out (by rw [HTL.out]) (by have := HNQ.out; have := HQ.out; omega) ?_; intro A3 c3 w3 r_; have R3 := Aside0.mk r_; clear r_)
        go_ret
        exact ⟨A3, nt + 1, c3, ts ++ [(Ab, nb, cb)], ps ++ [x], rfl, R3.out, L0.out.snoc LX.out, by rw [← HF.out]; simp, by simp [HTL.out], by have := HNQ.out; have := HQ.out; omega⟩
end Go.Proofs.YthkmacgjekienaaDoor.P
/- What bytes that come in pieces are taken as: as all of them together. -/
namespace Go.Proofs.YthkmacgjekienaaDoor.P
attribute [-simp] List.length_drop List.length_take ByteArray.size_append
open Go.RowKit Go.Shelf Go.Proofs.YthkmacgjekienaaDoor.Pure Go.Proofs.YthkmacgjekienaaDoorW.PrintWords Go.Proofs.YthkmacgjekienaaDoorW.PrintLast Go.Proofs.YthkmacgjekienaaDoorW.PrintMore
set_option linter.unusedVariables false
set_option linter.unusedSimpArgs false
/-- what the header says does not change by what comes behind -/
theorem hp_more {a x : List Int} (hb : Byt (a ++ x)) (hl : (a ++ x).length ≤ 140737488353792) (h : (hp a).2.2 ≠ 3) : hp (a ++ x) = hp a := by
  have hba : Byt a := fun y hy => hb y (List.mem_append_left _ hy)
  have hla : a.length ≤ 140737488353792 := by rw [List.length_append] at hl; omega
  have ht : (a ++ x).take a.length = a := by simp
  rcases settled (a ++ x) hb (by omega) a.length (by rw [List.length_append]; omega) with ⟨_, h1⟩ | ⟨r, h1, h2, _⟩
  · rw [ht] at h1
    rw [hp_is h1] at h
    exact absurd rfl h
  · rw [ht] at h1
    rw [hp_is h1, hp_is h2]
theorem ok1_more {a x : List Int} (hb : Byt (a ++ x)) (hl : (a ++ x).length ≤ 140737488353792) (h : ok1 a) : ok1 (a ++ x) ∧ body1 (a ++ x) = body1 a ∧ rest1 (a ++ x) = rest1 a ++ x := by
  obtain ⟨h0, h1, h2⟩ := h
  have e := hp_more hb hl (by rw [h0]; decide)
  have e1 : sz (a ++ x) = sz a := by unfold sz; rw [e]
  have e2 : bn (a ++ x) = bn a := by unfold bn; rw [e]
  refine ⟨⟨by rw [e]; exact h0, by rw [e1, e2, List.length_append]; omega, by rw [e1]; exact h2⟩, ?_, ?_⟩
  · unfold body1
    rw [e1, e2, List.take_append_of_le_length h1]
  · unfold rest1
    rw [e1, e2, List.drop_append_of_le_length h1]
theorem bod_more (x : List Int) (a : List Int) : Byt (a ++ x) → (a ++ x).length ≤ 140737488353792 →
    ((bodT a).2.2 = 3 → bodT (a ++ x) = ((bodT a).1 ++ (bodT ((bodT a).2.1 ++ x)).1, (bodT ((bodT a).2.1 ++ x)).2)) ∧ ((bodT a).2.2 ≠ 3 → bodT (a ++ x) = ((bodT a).1, (bodT a).2.1 ++ x, (bodT a).2.2)) := by
  refine bod_ind (p := fun a => Byt (a ++ x) → (a ++ x).length ≤ 140737488353792 →
    ((bodT a).2.2 = 3 → bodT (a ++ x) = ((bodT a).1 ++ (bodT ((bodT a).2.1 ++ x)).1, (bodT ((bodT a).2.1 ++ x)).2)) ∧ ((bodT a).2.2 ≠ 3 → bodT (a ++ x) = ((bodT a).1, (bodT a).2.1 ++ x, (bodT a).2.2))) (fun a ho ih hb hl => ?_) (fun a ho hb hl => ?_) a
  · obtain ⟨k1, k2, k3⟩ := ok1_more hb hl ho
    have hr : Byt (rest1 a ++ x) := by rw [← k3]; exact hb.rest1
    have hrl : (rest1 a ++ x).length ≤ 140737488353792 := by rw [← k3]; have := rest1_lt k1; omega
    obtain ⟨i1, i2⟩ := ih hr hrl
    rw [bodT_ok k1, k2, k3, bodT_ok ho]
    refine ⟨fun h => ?_, fun h => ?_⟩
    · rw [i1 h]; simp
    · rw [i2 h]
  · rw [bodT_no ho]
    refine ⟨fun h => by simp, fun h => ?_⟩
    simp only at h ⊢
    have hne : (hp a).2.2 ≠ 3 ∧ (hp a).2.2 ≠ 0 := by
      unfold err1 at h
      split at h
      · exact absurd rfl h
      · rename_i h0; exact ⟨h, h0⟩
    have e := hp_more hb hl hne.1
    have hno : ¬ ok1 (a ++ x) := fun h1 => by have := h1.1; rw [e] at this; exact hne.2 this
    rw [bodT_no hno]
    unfold err1
    rw [e]
/-- words of slices, and what they read as; what they lead to lies in ok -/
def Ltf (W : World) (ok : Nat → Prop) (ts : List Tr) (ps : List (List Int)) : Prop := ts.length = ps.length ∧ ∀ (i : Nat) t x, ts[i]? = some t → ps[i]? = some x → t.2.1 = x.length ∧ x.length ≤ t.2.2 ∧ Kd.F (Kd.int .u8) W ok t.1 x.length x
theorem Ltf.nil (W : World) (ok : Nat → Prop) : Ltf W ok [] [] := ⟨rfl, fun i t x h => by simp at h⟩
theorem Ltf.map {W W1 : World} {ok ok1 : Nat → Prop} {ts : List Tr} {ps : List (List Int)} (h : Ltf W ok ts ps) (hm : ∀ A n x, Kd.F (Kd.int .u8) W ok A n x → Kd.F (Kd.int .u8) W1 ok1 A n x) : Ltf W1 ok1 ts ps := ⟨h.1, fun i t x ht hx => ⟨(h.2 i t x ht hx).1, (h.2 i t x ht hx).2.1, hm _ _ _ (h.2 i t x ht hx).2.2⟩⟩
theorem Ltf.app {W : World} {ok : Nat → Prop} {ts tb : List Tr} {ps pb : List (List Int)} (h : Ltf W ok ts ps) (hb : Ltf W ok tb pb) : Ltf W ok (ts ++ tb) (ps ++ pb) := by
  obtain ⟨h1, h2⟩ := h
  obtain ⟨g1, g2⟩ := hb
  refine ⟨by simp [h1, g1], fun i t x ht hx => ?_⟩
  rcases Nat.lt_or_ge i ts.length with hi | hi
  · rw [List.getElem?_append_left hi] at ht
    rw [List.getElem?_append_left (by omega)] at hx
    exact h2 i t x ht hx
  · rw [List.getElem?_append_right hi] at ht
    rw [List.getElem?_append_right (by omega), ← h1] at hx
    exact g2 _ t x ht hx
/-- a row of rows of one's own, by its words -/
theorem words_of {W : World} {base : Nat} {ok : Nat → Prop} {A : Option Addr} {n c : Nat} {bs : List (List Int)} (h : Kd.R (Kd.slice 5 (Kd.int .u8)) 27 W base ok (.slice A n c) bs) : ∃ tb : List Tr, tb.length = n ∧ Kd.C KT W A n tb ∧ Ltf W ok tb bs := by
  obtain ⟨h1, h2, h3⟩ := Kd.R_reads' h
  have hF := Kd.R_F h
  subst h1
  have key : ∀ i, i < bs.length → ∃ t : Tr, ∃ ad x, A = some ad ∧ bs[i]? = some x ∧ W.cell? (ad.add i) = some (encT t) ∧ t.2.1 = x.length ∧ x.length ≤ t.2.2 ∧ Kd.F (Kd.int .u8) W ok t.1 x.length x := fun i hi => by
    obtain ⟨ad, rfl, hc⟩ := h3.2.2 (by omega)
    have hx : bs[i]? = some bs[i] := List.getElem?_eq_getElem hi
    obtain ⟨cs, k1, ⟨A0, c0, k2, k3, k4⟩, k5⟩ := hc i bs[i] hx
    subst k2
    have hcell : W.cell? (ad.add i) = some (.slice A0 bs[i].length c0) := by
      have := k5 0 _ rfl
      simpa [Kd.slice] using this
    refine ⟨(A0, bs[i].length, c0), ad, bs[i], rfl, hx, hcell, rfl, k3, fun W' hW' => ?_⟩
    have hC' := hF W' hW'
    obtain ⟨ad', e, hc'⟩ := hC'.2.2 (by omega)
    cases e
    obtain ⟨cs', j1, ⟨A1, c1, j2, j3, j4⟩, j5⟩ := hc' i bs[i] hx
    subst j2
    have hcell' : W'.cell? (ad.add i) = some (.slice A1 bs[i].length c1) := by
      have := j5 0 _ rfl
      simpa [Kd.slice] using this
    obtain ⟨g, hg⟩ := Kd.R_head h
    obtain rfl : ad = ⟨g, 0, none⟩ := by simpa using hg
    have hgb : W'.heap[g]? = W.heap[g]? := hW' g (h.1 g rfl) (World.block_lt_of_cell? _ _ (by rw [add_plain] at hcell; exact hcell))
    have : W'.cell? ((⟨g, 0, none⟩ : Addr).add i) = W.cell? ((⟨g, 0, none⟩ : Addr).add i) := by
      rw [add_plain]
      unfold World.cell?
      rw [hgb]
    rw [this, hcell] at hcell'
    cases hcell'
    exact j4
  obtain ⟨tb, hl, hp⟩ := list_ofO bs.length key
  refine ⟨tb, hl, ⟨by rw [hl], h3.2.1, fun hn => ?_⟩, by rw [hl], fun i t x ht hx => ?_⟩
  · obtain ⟨ad, rfl, _⟩ := h3.2.2 (by omega)
    refine ⟨ad, rfl, fun j t ht => ?_⟩
    obtain ⟨ad', x, e, _, hcell, _⟩ := hp j t ht
    cases e
    exact ⟨[encT t], rfl, rfl, fun i u hu => by
      cases i with
      | zero => cases hu; show W.cell? (ad.add (j * 1 + 0)) = _; rw [Nat.mul_one, Nat.add_zero]; exact hcell
      | succ i => cases hu⟩
  · obtain ⟨_, x', _, hx', _, k1, k2, k3⟩ := hp i t ht
    rw [hx] at hx'
    cases hx'
    exact ⟨k1, k2, k3⟩
end Go.Proofs.YthkmacgjekienaaDoor.P
/- reads. -/
namespace Go.Proofs.YthkmacgjekienaaDoor.P
attribute [-simp] List.length_drop List.length_take ByteArray.size_append
open Go.RowKit Go.Shelf Go.Proofs.YthkmacgjekienaaDoor.Pure Go.Proofs.YthkmacgjekienaaDoorW.PrintWords Go.Proofs.YthkmacgjekienaaDoorW.PrintLast Go.Proofs.YthkmacgjekienaaDoorW.PrintMore
set_option linter.unusedVariables false
set_option linter.unusedSimpArgs false
/-- an error, as it is told -/
def lst (er : Int) : Int := if er = 3 then 0 else er
/-- a reader that was told a, and the row vo of what it answered -/
structure Rs (w W : World) (g : Nat) (v vo : Value) (ts : List Tr) (bs : List (List Int)) (left : List Int) (er : Int) : Prop where
  rd : Rd w.heap.size W g v (if er = 3 then left else []) (decide (er ≠ 3))
  row : Kd.R KT 27 W w.heap.size (fun k => k ≠ g ∧ some k ≠ v.ownBlock) vo ts
  bod : Ltf W (fun k => (k ≠ g ∧ some k ≠ v.ownBlock) ∧ some k ≠ vo.ownBlock) ts bs
  be : Below w.heap.size w W
/-- behind a Write: what it answered beside it -/
structure Rb (w W : World) (g : Nat) (v vo : Value) (ts : List Tr) (bs : List (List Int)) (left : List Int) (er : Int) (A : Option Addr) (n : Nat) (tb : List Tr) (bb : List (List Int)) : Prop where
  rs : Rs w W g v vo ts bs left er
  rtb : Kd.C KT W A n tb
  rbb : Ltf W (fun k => (k ≠ g ∧ some k ≠ v.ownBlock) ∧ some k ≠ vo.ownBlock) tb bb
theorem Rs.write {w W : World} {g : Nat} {v vo : Value} {ts : List Tr} {bs : List (List Int)} {left : List Int} (h : Rs w W g v vo ts bs left 3) (A : Option Addr) (n c : Nat) (l : List Int) (hn : l.length = n) (hl : Kd.C (Kd.int .u8) W A n l) (hc : n ≤ c) (hT : TAB w)
    (hby : Byt (left ++ l)) (hsz : (left ++ l).length ≤ 140737488353792) (b2 : List (List Int)) (left2 : List Int) (er2 : Int) (hbod : bodT (left ++ l) = (b2, left2, er2)) (hcnt : b2.length ≤ 5000000000000) :
    Calls Tryd.prog 14 #[.pointer (some ⟨g, 0, none⟩), .slice A n c] W fun e w' => ∃ Ab nb cb tb v2, e = .returned (.tuple #[.slice Ab nb cb, .int .i64 (lst er2)]) ∧ nb = b2.length ∧ Rb w w' g v2 vo ts bs left2 er2 Ab nb tb b2 := by
  obtain ⟨hrd, hrow, hbo, hbe⟩ := h
  rw [if_pos rfl, decide_eq_false (by decide)] at hrd
  refine (write_walk hrd A n c l hn hl hc hT hbe hby hsz b2 left2 er2 hbod hcnt).mono ?_
  rintro e w' ⟨vb, v2, rfl, h1, h2, h3, h4, h5⟩
  obtain ⟨Ab, cb, rfl⟩ := Kd.R_slice h1
  obtain ⟨tb, k1, k2, k3⟩ := words_of h1
  have hgl := hrd.lt
  have hvo : ∀ k, vo.ownBlock = some k → k < W.heap.size := fun k hk => by
    obtain ⟨cells, hc⟩ := Kd.R_typed hrow k hk
    exact blk_lt hc
  refine ⟨Ab, _, cb, tb, v2, rfl, rfl, ⟨h2, ?_, ?_, h4⟩, k2, ?_⟩
  · refine Kd.R_mono (Kd.R_step (Kd.R_bound hrow) fun k hk hlt => h5 k hlt hk.1.1 hk.1.2) fun k hk => ⟨hk.1.1, fun e => ?_⟩
    have := h3 k e.symm
    have := hk.2.2.1
    omega
  · refine hbo.map fun A' n' x' hF => ?_
    refine Kd.F_mono (Kd.F_step (Kd.F_bound hF) fun k hk hlt => h5 k hlt hk.1.1.1 hk.1.1.2) fun k hk => ⟨⟨hk.1.1.1, fun e => ?_⟩, hk.1.2⟩
    have := h3 k e.symm
    have := hk.2
    omega
  · refine k3.map fun A' n' x' hF => Kd.F_mono hF fun k hk => ⟨⟨by have := hk.1; omega, hk.2⟩, fun e => ?_⟩
    have := hvo k e.symm
    have := hk.1
    omega
theorem Rs.writeC {w W : World} {g : Nat} {v vo : Value} {ts : List Tr} {bs : List (List Int)} {left : List Int} {er : Int} (he : er ≠ 3) (h : Rs w W g v vo ts bs left er) (A : Value) :
    Calls Tryd.prog 14 #[.pointer (some ⟨g, 0, none⟩), A] W fun e w' => e = .returned (.tuple #[.slice none 0 0, .int .i64 70]) ∧ Rb w w' g v vo ts bs left er none 0 [] [] := by
  obtain ⟨hrd, hrow, hbo, hbe⟩ := h
  have hrd2 := hrd
  rw [if_neg he, decide_eq_true he] at hrd2
  refine (write_closed hrd2 A).mono ?_
  rintro e w' ⟨rfl, hb⟩
  exact ⟨rfl, ⟨hrd.below hb, Kd.R_below hrow hb, hbo.map fun A' n' x' hF => Kd.F_below hF hb, hbe.trans (hb.mono hbe.size)⟩, ⟨rfl, by decide, fun hn => absurd hn (by decide)⟩, Ltf.nil _ _⟩
theorem Rb.append {ops : Array Oper} {rest : List Oper} {o : Oper} {a : Act} {Q : Exit → Act → World → Prop} {w W : World} {g : Nat} {v vo : Value} {ts : List Tr} {bs : List (List Int)} {left : List Int} {er : Int} {A : Option Addr} {n c : Nat} {tb : List Tr} {bb : List (List Int)} (h : Rb w W g v vo ts bs left er A n tb bb)
    (hg : o.guard = none) (s x : Operand) (ho : o.op = Op.call { callee := Callee.builtin Builtin.append, args := #[s, x], argTypes := #[22, 22] }) (k : Nat) (hs : a.eval s = vo) (hx : a.eval x = .slice A n c) (hk : (ts ++ tb).length = k) (hl : k ≤ 5000000000000)
    (hK : ∀ A1 c1 w1, Rs w w1 g v (.slice A1 k c1) (ts ++ tb) (bs ++ bb) left er → wpList Tryd.prog ops Q rest (a.put o.dst (.slice A1 k c1)) w1) : wpList Tryd.prog ops Q (o :: rest) a W := by
  obtain ⟨⟨hrd, hrow, hbo, hbe⟩, htb, hbb⟩ := h
  have hn := htb.1
  rw [List.length_append] at hk
  have hv : ∀ k, v.ownBlock = some k → k < W.heap.size := fun k hk => by
    obtain ⟨cells, hc⟩ := Kd.R_typed hrd.row k hk
    exact blk_lt hc
  have hgl := hrd.lt
  refine Kd.R_append_row encT (none, 0, 0) (w0 := w) w.heap.size hg s x 22 27 (.slice none 0 0) 24 ho Tryd.underlying22 info22 rfl (by decide) vo ts tb A n c _ hs hx (fun k hk => ⟨by omega, fun e => by have := hv k e.symm; omega⟩) hrow htb hbe hbe.size (by omega) ?_
  intro v1 w1 ho1 hb1 hg1 ha1
  have hr1 : Kd.R KT 27 w1 w.heap.size (fun k => k ≠ g ∧ some k ≠ v.ownBlock) v1 (ts ++ tb) := ho1
  obtain ⟨A1, c1, rfl⟩ := Kd.R_slice hr1
  have hk2 : (ts ++ tb).length = k := by rw [List.length_append]; exact hk
  rw [hk2] at hr1 ha1 ⊢
  refine hK A1 c1 w1 ⟨⟨blk_grown hrd.blk hg1 (Kd.R_ne hrow hrd.blk (by decide)), Kd.R_grown2 hrd.row rfl hg1 (fun j hj e => ?_), hrd.lo⟩, hr1, ?_, hb1⟩
  · exact (hrow.1 j hj).2 e
  · exact (hbo.app hbb).map fun A' n' x' hF => Kd.F_after hF hg1 ha1
end Go.Proofs.YthkmacgjekienaaDoor.P
/- reads: the walk. -/
namespace Go.Proofs.YthkmacgjekienaaDoor.P
attribute [-simp] List.length_drop List.length_take ByteArray.size_append
open Go.RowKit Go.Shelf Go.Proofs.YthkmacgjekienaaDoor.Pure Go.Proofs.YthkmacgjekienaaDoorW.PrintWords Go.Proofs.YthkmacgjekienaaDoorW.PrintLast Go.Proofs.YthkmacgjekienaaDoorW.PrintMore
set_option linter.unusedVariables false
set_option linter.unusedSimpArgs false
/-- what is left, in number -/
noncomputable def lft (a : List Int) : Nat := if (bodT a).2.2 = 3 then (bodT a).2.1.length else 0
structure In (w W : World) (g : Nat) (vo : Value) (k : Nat) (a : List Int) : Prop where
  ex : ∃ v ts bs left er, bodT a = (bs, left, er) ∧ Rs w W g v vo ts bs left er ∧ ts.length = k
structure Ib (w W : World) (g : Nat) (vo : Value) (kn : Nat) (a : List Int) (A : Option Addr) (n : Nat) : Prop where
  ex : ∃ v ts bs left er tb bb, bodT a = (bs ++ bb, left, er) ∧ Rb w W g v vo ts bs left er A n tb bb ∧ (ts ++ tb).length = kn
theorem In.count {w W : World} {g : Nat} {vo : Value} {k : Nat} {a : List Int} (h : In w W g vo k a) : k ≤ a.length := by
  obtain ⟨v, ts, bs, left, er, h1, h2, h3⟩ := h.ex
  have := bod_count a
  rw [h1] at this
  have := h2.bod.1
  simp only at *
  omega
theorem Ib.count {w W : World} {g : Nat} {vo : Value} {k n : Nat} {A : Option Addr} {a : List Int} (h : Ib w W g vo k a A n) : k ≤ a.length := by
  obtain ⟨v, ts, bs, left, er, tb, bb, h1, h2, h3⟩ := h.ex
  have := bod_count a
  rw [h1] at this
  have e1 := h2.rs.bod.1
  have e2 := h2.rbb.1
  rw [List.length_append] at h3
  simp only [List.length_append] at this
  omega
theorem In.write {w W : World} {g : Nat} {vo : Value} {k : Nat} {a : List Int} (h : In w W g vo k a) (A : Option Addr) (n c : Nat) (x : List Int) (hn : x.length = n) (hl : Kd.C (Kd.int .u8) W A n x) (hc : n ≤ c) (hT : TAB w) (hby : Byt (a ++ x)) (hsz : (a ++ x).length ≤ 5000000000000) :
    ∃ e2 : Int, ((e2 = 0 ∨ e2 = 70) ∧ lst (bodT (a ++ x)).2.2 = lst (bodT a).2.2 ∨ (e2 ≠ 0 ∧ e2 ≠ 70) ∧ lst (bodT (a ++ x)).2.2 = e2) ∧
      Calls Tryd.prog 14 #[.pointer (some ⟨g, 0, none⟩), .slice A n c] W fun e w' => ∃ Ab nb cb, e = .returned (.tuple #[.slice Ab nb cb, .int .i64 e2]) ∧ Ib w w' g vo (k + nb) (a ++ x) Ab nb := by
  obtain ⟨v, ts, bs, left, er, h1, h2, h3⟩ := h.ex
  obtain ⟨m1, m2⟩ := bod_more x a hby (by omega)
  rw [h1] at m1 m2
  simp only at m1 m2
  by_cases he : er = 3
  · subst he
    have hbl : Byt (left ++ x) ∧ (left ++ x).length ≤ (a ++ x).length := by
      have := bod_left a (fun y hy => hby y (List.mem_append_left _ hy))
      rw [h1] at this
      exact ⟨Byt.app this.1 fun y hy => hby y (List.mem_append_right _ hy), by have := this.2; simp only [List.length_append] at *; omega⟩
    obtain ⟨b2, left2, er2, hb2⟩ : ∃ b2 left2 er2, bodT (left ++ x) = (b2, left2, er2) := ⟨_, _, _, rfl⟩
    have hcnt := bod_count (left ++ x)
    have herr := bod_err (left ++ x) hbl.1 (by omega)
    rw [hb2] at hcnt herr
    simp only at hcnt herr
    have hall := m1 rfl
    rw [hb2] at hall
    simp only at hall
    refine ⟨lst er2, ?_, (h2.write A n c x hn hl hc hT hbl.1 (by omega) b2 left2 er2 hb2 (by omega)).mono ?_⟩
    · rw [hall, h1]
      simp only
      unfold lst
      rcases herr with e | e | e
      · subst e; exact .inl ⟨.inl rfl, rfl⟩
      · subst e; exact .inr (by simp)
      · subst e; exact .inr (by simp)
    · rintro e w' ⟨Ab, nb, cb, tb, v2, rfl, rfl, hrb⟩
      refine ⟨Ab, _, cb, rfl, v2, ts, bs, left2, er2, tb, b2, hall, hrb, ?_⟩
      rw [List.length_append, h3, hrb.rtb.1]
  · refine ⟨70, .inl ⟨.inr rfl, by rw [m2 he, h1]⟩, (h2.writeC he _).mono ?_⟩
    rintro e w' ⟨rfl, hrb⟩
    exact ⟨none, 0, 0, rfl, v, ts, bs, left ++ x, er, [], [], by rw [m2 he, List.append_nil], ⟨⟨by rw [if_neg he]; have := hrb.rs.rd; rwa [if_neg he] at this, hrb.rs.row, hrb.rs.bod, hrb.rs.be⟩, hrb.rtb, hrb.rbb⟩, by simpa using h3⟩
theorem Ib.append {ops : Array Oper} {rest : List Oper} {o : Oper} {a : Act} {Q : Exit → Act → World → Prop} {w W : World} {g : Nat} {vo : Value} {k n c : Nat} {A : Option Addr} {l : List Int} (h : Ib w W g vo k l A n)
    (hg : o.guard = none) (s x : Operand) (ho : o.op = Op.call { callee := Callee.builtin Builtin.append, args := #[s, x], argTypes := #[22, 22] }) (hs : a.eval s = vo) (hx : a.eval x = .slice A n c) (hl : k ≤ 5000000000000)
    (hK : ∀ A1 c1 w1, In w w1 g (.slice A1 k c1) k l → wpList Tryd.prog ops Q rest (a.put o.dst (.slice A1 k c1)) w1) : wpList Tryd.prog ops Q (o :: rest) a W := by
  obtain ⟨v, ts, bs, left, er, tb, bb, h1, h2, h3⟩ := h.ex
  exact h2.append hg s x ho k hs hx h3 hl fun A1 c1 w1 h4 => hK A1 c1 w1 ⟨v, ts ++ tb, bs ++ bb, left, er, h1, h4, h3⟩
theorem In.left {w W : World} {g : Nat} {vo : Value} {k : Nat} {a : List Int} (h : In w W g vo k a) : Calls Tryd.prog 17 #[.pointer (some ⟨g, 0, none⟩)] W fun e w' => e = .returned (.int .i64 (lft a)) ∧ W = w' := by
  obtain ⟨v, ts, bs, left, er, h1, h2, h3⟩ := h.ex
  refine (left_calls h2.rd).mono ?_
  rintro e w' ⟨h4, h5⟩
  refine ⟨?_, h5⟩
  rw [h4]
  unfold lft
  rw [h1]
  simp only
  split <;> simp
theorem In.C {w W : World} {g k c : Nat} {A : Option Addr} {a : List Int} (h : In w W g (.slice A k c) k a) : k = (bodT a).1.length ∧ k ≤ c ∧ Kd.C (Kd.slice 5 (Kd.int .u8)) W A k (bodT a).1 := by
  obtain ⟨v, ts, bs, left, er, h1, h2, h3⟩ := h.ex
  rw [h1]
  have := RT.C ⟨Kd.R_mono h2.row (fun _ _ => trivial), h2.be⟩ (fun i t x ht hx => by
    obtain ⟨k1, k2, k3⟩ := h2.bod.2 i t x ht hx
    exact ⟨k1, k2, Kd.F_now k3⟩) h2.bod.1
  obtain ⟨k1, k2, k3⟩ := this
  exact ⟨k1, k2, by rw [← k1] at k3; exact k3⟩
theorem In.be {w W : World} {g : Nat} {vo : Value} {k : Nat} {a : List Int} (h : In w W g vo k a) : Below w.heap.size w W := by
  obtain ⟨v, ts, bs, left, er, h1, h2, h3⟩ := h.ex
  exact h2.be
theorem bod_nil : bodT [] = ([], [], 3) := bod_no (hp_lit 60 (by decide +kernel)) (by decide)
theorem In.new (w : World) : In w (w.alloc (.cells #[.slice none 0 0, .bool true, .bool false] 57)) w.heap.size (.slice none 0 0) 0 [] := by
  exact ⟨.slice none 0 0, [], [], [], 3, bod_nil, ⟨⟨heap_alloc_new w _, Kd.R_nil _ _ _ _ _, Nat.le_refl _⟩, Kd.R_nil _ _ _ _ _, Ltf.nil _ _, below_alloc (Below.refl _ _) _⟩, rfl⟩
set_option maxRecDepth 100000 in
set_option maxHeartbeats 4000000 in
theorem reads_walk (A : Option Addr) (n c : Nat) (ps : List (List Int)) (w : World) (hn : ps.length = n) (hr : Kd.C (Kd.slice 5 (Kd.int .u8)) w A n ps) (hby : Byt ps.flatten) (hsz : ps.flatten.length ≤ 5000000000000) (hnb : n ≤ 1000000) (hT : TAB w) :
    Calls Tryd.prog 25 #[.slice A n c] w fun e w' => ∃ Ao no co, e = .returned (.tuple #[.slice Ao no co, .int .i64 (lst (bodT ps.flatten).2.2), .int .i64 (lft ps.flatten)]) ∧ no = (bodT ps.flatten).1.length ∧ no ≤ co ∧ Kd.C (Kd.slice 5 (Kd.int .u8)) w' Ao no (bodT ps.flatten).1 ∧ Below w.heap.size w w' := by
  have HN := Aside0.mk hn
  have HR := Aside0.mk hr
  have HBy := Aside0.mk hby
  have HSZ := Aside0.mk hsz
  have HT := Aside0.mk hT
  clear hn hr hby hsz hT
  go_enter Tryd.func25, Tryd.ntmps25
  go_wp2_with (go_at_call 11; (with_reducible refine (new_calls w).mono ?_); rintro e wn ⟨rfl, rfl⟩)
  have hi0 := In.new w
  have HI0 := Aside0.mk hi0
  clear hi0
  generalize w.alloc (.cells #[.slice none 0 0, .bool true, .bool false] 57) = wn at HI0 ⊢
  go_loopw [6, 7, 8, 9, 10] (fun vo ls i u u2 wr => ∃ (q k co : Nat) (Ao : Option Addr) (er : Int), q ≤ n ∧ i = .int .i64 q ∧ vo = .slice Ao k co ∧ ls = .int .i64 er ∧ Aside0 (er = lst (bodT (ps.take q).flatten).2.2) ∧ Aside0 (In w wr w.heap.size (.slice Ao k co) k (ps.take q).flatten)) (fun vo ls i u u2 _ => n - (intOf i).toNat)
  case atStart => exact ⟨0, 0, 0, none, 0, Nat.zero_le _, rfl, rfl, rfl, ⟨by rw [List.take_zero, List.flatten_nil, bod_nil]; rfl⟩, ⟨by simpa using HI0.out⟩⟩
  case round =>
    obtain ⟨q, k, co, Ao, er, hq, rfl, rfl, rfl, HE, HI⟩ := hrel
    clear HI0
    by_cases hlt : q < n
    · have HRw := Kd.C_below HR.out HI.out.be
      obtain ⟨ad, A0, c0, hA, hcell, hc0, hC⟩ := at_L1 HRw (q : Int) (by omega) (by omega)
      subst hA
      have htk := take_rd ps q (by rw [HN.out]; omega)
      obtain ⟨x, hx⟩ : ∃ x, rd_L1 ps (q : Int) = x := ⟨_, rfl⟩
      rw [hx] at hcell hc0 hC htk
      obtain ⟨xn, hxn⟩ : ∃ n, x.length = n := ⟨_, rfl⟩
      rw [hxn] at hcell hc0 hC
      have hfl : (ps.take (q + 1)).flatten = (ps.take q).flatten ++ x := by rw [htk]; simp
      have hpre : (ps.take (q + 1)).flatten ++ (ps.drop (q + 1)).flatten = ps.flatten := by rw [← List.flatten_append, List.take_append_drop]
      have hb2 : Byt ((ps.take q).flatten ++ x) := by rw [← hfl]; exact fun y hy => HBy.out y (by rw [← hpre]; exact List.mem_append_left _ hy)
      have hs2 : ((ps.take q).flatten ++ x).length ≤ 5000000000000 := by
        have h1 := HSZ.out
        rw [← hpre, List.length_append, hfl] at h1
        omega
      obtain ⟨e2, hcase, hW⟩ := HI.out.write A0 xn c0 x hxn hC hc0 HT.out hb2 hs2
      have WC := Aside0.mk hW
      have HF := Aside0.mk hfl
      have HS2 := Aside0.mk hs2
      have h1 : (q : Int) < (n : Int) := by omega
      have h0 : (0 : Int) ≤ (q : Int) := by omega
      have t1 : decide (q < n) = true := decide_eq_true hlt
      have hw1 : wrap64 ((q : Int) + 1) = ((q + 1 : Nat) : Int) := by unfold wrap64; omega
      simp only [Int.toNat_natCast] at hcell
      rw [← HE.out] at hcase
      clear hC hx hxn htk hfl hpre hb2 hs2 hW HRw
      rcases hcase with ⟨rfl | rfl, hl2⟩ | ⟨⟨hz1, hz2⟩, hl2⟩
      · have e0 : ((0 : Int) != 0) = false := rfl
        have HL2 := Aside0.mk hl2
        clear hl2
        go_wp2_with (first
          | (go_at_call 14; (with_reducible refine WC.out.mono ?_); rintro e w4 ⟨Ab, nb, cb, rfl, h_⟩; have I4 := Aside0.mk h_; clear h_)
          | (at_builtin; refine I4.out.append rfl (.tmp 27) (.tmp 28) rfl rfl rfl (by have := I4.out.count; have := HS2.out; omega) ?_; intro A5 c5 w5 h_; have I5 := Aside0.mk h_; clear h_))
        exact ⟨⟨q + 1, _, c5, A5, er, by omega, by simp, rfl, rfl, ⟨by rw [HF.out, HL2.out]⟩, ⟨by rw [HF.out]; exact I5.out⟩⟩, by simp [intOf]; omega⟩
      · have e0 : ((70 : Int) != 0) = true := rfl
        have e1 : ((70 : Int) != 70) = false := rfl
        have HL2 := Aside0.mk hl2
        clear hl2
        go_wp2_with (first
          | (go_at_call 14; (with_reducible refine WC.out.mono ?_); rintro e w4 ⟨Ab, nb, cb, rfl, h_⟩; have I4 := Aside0.mk h_; clear h_)
          | (at_builtin; refine I4.out.append rfl (.tmp 27) (.tmp 28) rfl rfl rfl (by have := I4.out.count; have := HS2.out; omega) ?_; intro A5 c5 w5 h_; have I5 := Aside0.mk h_; clear h_))
        exact ⟨⟨q + 1, _, c5, A5, er, by omega, by simp, rfl, rfl, ⟨by rw [HF.out, HL2.out]⟩, ⟨by rw [HF.out]; exact I5.out⟩⟩, by simp [intOf]; omega⟩
      · have e0 : (e2 != 0) = true := by simpa using hz1
        have e1 : (e2 != 70) = true := by simpa using hz2
        have HL2 := Aside0.mk hl2
        clear hl2 hz1 hz2
        go_wp2_with (first
          | (go_at_call 14; (with_reducible refine WC.out.mono ?_); rintro e w4 ⟨Ab, nb, cb, rfl, h_⟩; have I4 := Aside0.mk h_; clear h_)
          | (at_builtin; refine I4.out.append rfl (.tmp 27) (.tmp 28) rfl rfl rfl (by have := I4.out.count; have := HS2.out; omega) ?_; intro A5 c5 w5 h_; have I5 := Aside0.mk h_; clear h_))
        exact ⟨⟨q + 1, _, c5, A5, e2, by omega, by simp, rfl, rfl, ⟨by rw [HF.out, HL2.out]⟩, ⟨by rw [HF.out]; exact I5.out⟩⟩, by simp [intOf]; omega⟩
    · have hqn : q = n := by omega
      have hall : ps.take q = ps := List.take_of_length_le (by rw [HN.out]; omega)
      rw [hall] at HE HI
      have t1 : decide (q < n) = false := decide_eq_false hlt
      clear hlt hq hqn hall
      go_wp2_with (go_at_call 17; (with_reducible refine HI.out.left.mono ?_); rintro e w_ ⟨rfl, rfl⟩)
      go_ret3
      obtain ⟨k1, k2, k3⟩ := HI.out.C
      exact ⟨Ao, k, co, by rw [HE.out]; rfl, k1, k2, k3, HI.out.be⟩
end Go.Proofs.YthkmacgjekienaaDoor.P
/- FrameBack. -/
namespace Go.Proofs.YthkmacgjekienaaDoor.P
attribute [-simp] List.length_drop List.length_take ByteArray.size_append
open Go.RowKit Go.Shelf Go.Proofs.YthkmacgjekienaaDoor.Pure Go.Proofs.YthkmacgjekienaaDoorW.PrintWords Go.Proofs.YthkmacgjekienaaDoorW.PrintLast Go.Proofs.YthkmacgjekienaaDoorW.PrintMore
attribute [local go_sem] max2_int min2_int max_two min_two
set_option linter.unusedVariables false
set_option linter.unusedSimpArgs false
theorem same_loop (l : List (List Int)) (hl : l.length ≤ 5000000000000) (hx : ∀ x ∈ l, x.length ≤ 140737488353792) (d : Nat) : ∀ i : Nat, i + d = l.length → Ev (fun k => colophonref07_Same.l0 k l l i) true := by
  induction d with
  | zero =>
    intro i hi
    refine Ev.step (fun k => ?_) (Ev.now true)
    rw [colophonref07_Same.l0, if_neg (by omega)]
  | succ d ih =>
    intro i hi
    have hil : i < l.length := by omega
    have hm : rd_L1 l (i : Int) ∈ l := by
      unfold rd_L1
      rw [Int.toNat_natCast]
      simp [List.getD, hil]
    refine Ev.step (f := fun k => _) (fun k => by rw [colophonref07_Same.l0, if_pos (by omega), if_pos (by omega), if_pos (by omega)]) ?_
    refine Ev.bind (eqb_ev _ (by have := hx _ hm; omega)) ?_
    simp only [if_true]
    rw [show wrap64 ((i : Int) + 1) = ((i + 1 : Nat) : Int) by unfold wrap64; omega]
    exact ih (i + 1) (by omega)
theorem same_ev (l : List (List Int)) (hl : l.length ≤ 5000000000000) (hx : ∀ x ∈ l, x.length ≤ 140737488353792) : Ev (fun k => colophonref07_Same.f k l l) true := by
  refine Ev.congr (fun k => by unfold colophonref07_Same.f; rw [if_pos rfl]) ?_
  exact same_loop l hl hx l.length 0 (by omega)
theorem same_calls {w : World} {A1 A2 : Option Addr} {n c1 c2 : Nat} {l : List (List Int)} (hn : l.length = n) (hl : n ≤ 5000000000000) (hx : ∀ x ∈ l, x.length ≤ 140737488353792) (h1 : Kd.C (Kd.slice 5 (Kd.int .u8)) w A1 n l) (hc1 : n ≤ c1) (h2 : Kd.C (Kd.slice 5 (Kd.int .u8)) w A2 n l) (hc2 : n ≤ c2) :
    Calls Tryd.prog 16 #[.slice A1 n c1, .slice A2 n c2] w fun e w' => e = .returned (.bool true) ∧ ∃ m, w' = w.drewN m := by
  subst hn
  obtain ⟨k, hk⟩ := (same_ev l hl hx).rounds
  refine (colophonref07_Same.calls k A1 c1 l A2 c2 l true w h1 hc1 h2 hc2 hk).mono ?_
  rintro e w' ⟨h3, ⟨h4⟩⟩
  exact ⟨h3, h4⟩
/-- a row of bytes of one's own, and one of words -/
structure Bw (w W : World) (vb vw : Value) (X : List Int) (ts : List Tr) : Prop where
  row : Kd.R (Kd.int .u8) 5 W w.heap.size (fun _ => True) vb X
  rt : RT w W vw ts
theorem Bw.new (w : World) : Bw w w (.slice none 0 0) (.slice none 0 0) [] [] := ⟨Kd.R_nil _ _ _ _ _, RT.new w⟩
theorem Bw.below {w W W1 : World} {vb vw : Value} {X : List Int} {ts : List Tr} (h : Bw w W vb vw X ts) (hb : Below W.heap.size W W1) : Bw w W1 vb vw X ts := ⟨Kd.R_below h.row hb, h.rt.below hb⟩
section
variable {ops : Array Oper} {rest : List Oper} {o : Oper} {a : Act} {Q : Exit → Act → World → Prop} {w W : World} {vb vw : Value} {X : List Int} {ts : List Tr}
theorem Bw.app (HB : Bw w W vb vw X ts) (hg : o.guard = none) (s x : Operand) (ho : o.op = Op.call { callee := Callee.builtin Builtin.append, args := #[s, x], argTypes := #[27, 27] }) (l : List Int) (A : Option Addr) (m c k : Nat) (hs : a.eval s = vb) (hx : a.eval x = .slice A m c) (hA : Kd.C (Kd.int .u8) W A m l) (hm : l.length = m) (hk : (X ++ l).length = k) (hl : k ≤ 140737488355328)
    (h : ∀ A2 c2 w1, Bw w w1 (.slice A2 k c2) vw (X ++ l) ts → wpList Tryd.prog ops Q rest (a.put o.dst (.slice A2 k c2)) w1) : wpList Tryd.prog ops Q (o :: rest) a W := by
  subst hk hm
  refine Kd.R_append_row (Value.int .u8) 0 (w0 := w) w.heap.size hg s x 27 5 (.int .u8 0) 1 ho Tryd.underlying27 info5 rfl (by decide) vb X l A _ c (fun _ => True) hs hx (fun _ _ => trivial) HB.row hA HB.rt.be HB.rt.be.size (by rw [List.length_append] at hl; omega) ?_
  intro v1 w1 ho1 hb1 hg1 ha1
  obtain ⟨A2, c2, rfl⟩ := Kd.R_slice ho1
  refine h A2 c2 w1 ⟨ho1, Kd.R_grown2 HB.rt.row rfl hg1 (fun k hk e => ?_), hb1⟩
  obtain ⟨_, e1⟩ := Kd.R_typed HB.row k hk
  obtain ⟨_, e2⟩ := Kd.R_typed HB.rt.row k e.symm
  rw [e1] at e2; cases e2
theorem Bw.push (HB : Bw w W vb vw X ts) (hg : o.guard = none) (s x : Operand) (ho : o.op = Op.call { callee := Callee.builtin Builtin.append, args := #[s, x], argTypes := #[22, 22] }) (A : Option Addr) (n c k : Nat) (hs : a.eval s = vw) (hx : a.eval x = .slice (some ⟨W.heap.size, 0, none⟩) 1 1) (hk : ts.length + 1 = k) (hl : k ≤ 1000000)
    (h : ∀ A1 c1 w1, Bw w w1 vb (.slice A1 k c1) X (ts ++ [(A, n, c)]) → wpList Tryd.prog ops Q rest (a.put o.dst (.slice A1 k c1)) w1) : wpList Tryd.prog ops Q (o :: rest) a (W.alloc (.cells #[.slice A n c] 27)) := by
  refine print_append_of (w0 := w) encT w.heap.size hg s x 22 27 (.slice none 0 0) 24 ho Tryd.underlying22 info22 rfl (by decide) vw ts (A, n, c) hs hx rfl (Kd.own_of_R HB.rt.row) HB.rt.be HB.rt.be.size (by omega) ?_
  intro v1 w1 ho1 hb1 hg1 ha1
  have hr : RT w w1 v1 (ts ++ [(A, n, c)]) := ⟨Kd.R_of_own ho1 (fun _ _ => trivial), hb1⟩
  obtain ⟨A1, c1, rfl⟩ := hr.slice
  have hk2 : (ts ++ [(A, n, c)]).length = k := by rw [List.length_append]; simpa using hk
  rw [hk2] at hr ⊢
  refine h A1 c1 w1 ⟨Kd.R_grown2 HB.row rfl hg1 (fun k hk e => ?_), hr⟩
  obtain ⟨_, e1⟩ := Kd.R_typed HB.row k e.symm
  obtain ⟨_, e2⟩ := Kd.R_typed HB.rt.row k hk
  rw [e1] at e2; cases e2
end
theorem Lt_of {w : World} {A : Option Addr} {n c : Nat} {x : List Int} (hn : x.length = n) (h : Kd.C (Kd.int .u8) w A n x) (hc : n ≤ c) : Lt w (A, n, c) x := by
  subst hn
  exact ⟨rfl, hc, fun W hW => Kd.C_below h hW⟩
theorem Lts.C {w W : World} {A : Option Addr} {n c : Nat} {ts : List Tr} {ps : List (List Int)} (h : Lts w ts ps) (hr : RT w W (.slice A n c) ts) : n = ps.length ∧ n ≤ c ∧ Kd.C (Kd.slice 5 (Kd.int .u8)) W A n ps := by
  obtain ⟨k1, k2, k3⟩ := hr.C (fun i t x ht hx => by
    obtain ⟨a1, a2, a3⟩ := h.2 i t x ht hx
    exact ⟨a1, a2, a3 W hr.be⟩) h.1
  exact ⟨k1, k2, by rw [← k1] at k3; exact k3⟩
/-- pieces of bytes, and what is read of them -/
theorem cut_reads_pre {w W : World} {A2 : Option Addr} {n2 c2 : Nat} {ts : List Tr} {ps : List (List Int)} {X : List Int} (h1 : RT w W (.slice A2 n2 c2) ts) (h2 : Lts w ts ps) (h3 : ps.flatten = X) (h4 : n2 ≤ 61) (hby : Byt X) (hsz : X.length ≤ 5000000000000) (hT : TAB w) :
    Calls Tryd.prog 25 #[.slice A2 n2 c2] W fun e w' => ∃ Ao no co, e = .returned (.tuple #[.slice Ao no co, .int .i64 (lst (bodT X).2.2), .int .i64 (lft X)]) ∧ no = (bodT X).1.length ∧ no ≤ co ∧ Kd.C (Kd.slice 5 (Kd.int .u8)) w' Ao no (bodT X).1 ∧ Below W.heap.size W w' := by
  subst h3
  obtain ⟨k1, k2, k3⟩ := h2.C h1
  exact reads_walk A2 n2 c2 ps W k1.symm k3 hby hsz (by omega) (hT.below h1.be)
end Go.Proofs.YthkmacgjekienaaDoor.P
/- FrameBack: the walk. -/
namespace Go.Proofs.YthkmacgjekienaaDoor.P
attribute [-simp] List.length_drop List.length_take ByteArray.size_append
open Go.RowKit Go.Shelf Go.Proofs.YthkmacgjekienaaDoor.Pure Go.Proofs.YthkmacgjekienaaDoorW.PrintWords Go.Proofs.YthkmacgjekienaaDoorW.PrintLast Go.Proofs.YthkmacgjekienaaDoorW.PrintMore
attribute [local go_sem] max2_int min2_int max_two min_two
set_option linter.unusedVariables false
set_option linter.unusedSimpArgs false
/-- between two rounds -/
structure Bk2 (w W : World) (l : List (List Int)) (q : Nat) (Ab : Option Addr) (k cb : Nat) (Aw : Option Addr) (cw : Nat) : Prop where
  ex : ∃ ts, Bw w W (.slice Ab k cb) (.slice Aw q cw) (frs 500 (l.take q)) ts ∧ Lts w ts ((l.take q).map (List.take 500)) ∧ ts.length = q
  len : k = (frs 500 (l.take q)).length
theorem frs_len20 (l : List (List Int)) (q : Nat) (hq : q ≤ 20) : (frs 500 (l.take q)).length ≤ 10800 := by
  have h1 := frs_len 500 (by decide) (l.take q)
  have h2 : (l.take q).length ≤ q := by rw [List.length_take]; omega
  have h3 : (l.take q).length * (500 + 40) ≤ 20 * (500 + 40) := Nat.mul_le_mul_right _ (by omega)
  omega
theorem back_reads {w W : World} {A2 : Option Addr} {n2 c2 : Nat} {ts : List Tr} {ps B : List (List Int)} {X : List Int} {q : Nat} (h1 : RT w W (.slice A2 n2 c2) ts) (h2 : Lts w ts ps) (h3 : ps.flatten = X) (h4 : n2 ≤ 61) (hby : Byt X) (hsz : X.length ≤ 5000000000000) (hT : TAB w) (hbod : bodT X = (B, [], 3)) (hq : B.length = q) :
    Calls Tryd.prog 25 #[.slice A2 n2 c2] W fun e w' => ∃ Ao co, e = .returned (.tuple #[.slice Ao q co, .int .i64 0, .int .i64 0]) ∧ q ≤ co ∧ Kd.C (Kd.slice 5 (Kd.int .u8)) w' Ao q B ∧ Below W.heap.size W w' := by
  refine (cut_reads_pre h1 h2 h3 h4 hby hsz hT).mono ?_
  rintro e w' ⟨Ao, no, co, k1, k2, k3, k4, k5⟩
  have e1 : lft X = 0 := by unfold lft; rw [hbod]; rfl
  rw [e1, hbod] at k1
  rw [hbod] at k2 k4
  obtain rfl : no = q := by rw [k2]; exact hq
  exact ⟨Ao, co, k1, k3, k4, k5⟩
set_option maxRecDepth 100000 in
set_option maxHeartbeats 4000000 in
theorem back_walk (l : List (List Int)) (A : Option Addr) (c : Nat) (l1 : List Int) (A1 : Option Addr) (c1 : Nat) (w : World) (hr : Kd.C (Kd.slice 5 (Kd.int .u8)) w A l.length l) (hc : l.length ≤ c) (hby : ∀ x ∈ l, Byt x)
    (hr1 : Kd.C (Kd.int .i64) w A1 l1.length l1) (hT : TAB2 w) :
    Calls Tryd.prog 8 #[.slice A l.length c, .slice A1 l1.length c1] w fun e w' => e = .returned (.bool true) ∧ Below w.heap.size w w' := by
  have HR := Aside0.mk hr
  have HR1 := Aside0.mk hr1
  have HT := Aside0.mk hT
  have HBY := Aside0.mk hby
  obtain ⟨n, hn⟩ : ∃ n, l.length = n := ⟨_, rfl⟩
  obtain ⟨m1, hm1⟩ : ∃ n, l1.length = n := ⟨_, rfl⟩
  rw [hn] at hc HR ⊢
  rw [hm1] at HR1 ⊢
  have HN := Aside0.mk hn
  have HB0 := Aside0.mk (⟨⟨[], by simpa [frs] using Bw.new w, by simpa using Lts.nil w, rfl⟩, by simp [frs]⟩ : Bk2 w w l 0 none 0 0 none 0)
  clear hr hr1 hT hby hn hm1
  go_enter Tryd.func8, Tryd.ntmps8
  go_wp2
  go_loopw [5, 6, 7, 8, 9, 10] (fun b v i x f u wr => ∃ (q k cb cw : Nat) (Ab Aw : Option Addr), q ≤ n ∧ q ≤ 20 ∧ i = .int .i64 q ∧ b = .slice Ab k cb ∧ v = .slice Aw q cw ∧ Aside0 (Bk2 w wr l q Ab k cb Aw cw)) (fun b v i x f u _ => 20 - (intOf i).toNat)
  case atStart => exact ⟨0, 0, 0, 0, none, none, Nat.zero_le _, Nat.zero_le _, rfl, rfl, rfl, HB0⟩
  case round =>
    obtain ⟨q, k, cb, cw, Ab, Aw, hq, hq20, rfl, rfl, rfl, HI⟩ := hrel
    clear HB0
    obtain ⟨⟨ts, hbw, hlts, htl⟩, hk⟩ := HI.out
    have HB := Aside0.mk hbw
    have HL := Aside0.mk hlts
    have HTL := Aside0.mk htl
    have HK := Aside0.mk hk
    clear hbw hlts htl hk HI
    by_cases hlt : q < n ∧ q < 20
    · have HRw := Kd.C_below HR.out HB.out.rt.be
      obtain ⟨ad, A0, c0, hA, hcell, hc0, hC⟩ := at_L1 HRw (q : Int) (by omega) (by omega)
      obtain ⟨ad', A0', c0', hA', hcell', hc0', hCw⟩ := at_L1 HR.out (q : Int) (by omega) (by omega)
      subst hA
      cases hA'
      have hin : wr.cell? (ad.add (q : Int).toNat) = w.cell? (ad.add (q : Int).toNat) := by
        have hb := HB.out.rt.be.block (ad.add (q : Int).toNat).block (World.block_lt_of_cell? _ _ hcell')
        unfold World.cell?
        rw [hb]
      rw [hin, hcell'] at hcell
      cases hcell
      have hcell : wr.cell? (ad.add (q : Int).toNat) = some (.slice A0 (rd_L1 l (q : Int)).length c0) := hin.trans hcell'
      have htk := take_rd l q (by rw [HN.out]; omega)
      have hLt := Lt_of rfl hCw hc0
      obtain ⟨x, hx⟩ : ∃ x, rd_L1 l (q : Int) = x := ⟨_, rfl⟩
      rw [hx] at hcell hc0 htk hLt
      obtain ⟨xn, hxn⟩ : ∃ n, x.length = n := ⟨_, rfl⟩
      rw [hxn] at hcell hc0 hLt
      obtain ⟨m, hm⟩ : ∃ m, min 500 xn = m := ⟨_, rfl⟩
      have hmx : m ≤ xn := by omega
      have hm2 : m ≤ 500 := by omega
      have hms : (m = xn ∧ ((500 : Int) < (xn : Int)) = False ∧ (xn : Int) ≤ (c0 : Int)) ∨ (m = 500 ∧ ((500 : Int) < (xn : Int)) = True ∧ (500 : Int) ≤ (c0 : Int)) := by
        rcases Nat.lt_or_ge 500 xn with h | h
        · exact .inr ⟨by omega, eq_true (by omega), by omega⟩
        · exact .inl ⟨by omega, eq_false (by omega), by omega⟩
      have hty : x.take 500 = x.take m := by
        rcases Nat.le_total 500 xn with h | h
        · rw [show m = 500 by omega]
        · rw [List.take_of_length_le (by omega), List.take_of_length_le (by omega)]
      have hLy := hLt.take m hmx
      have htl2 : (x.take m).length = m := by rw [List.length_take]; omega
      have hmap : (l.take (q + 1)).map (List.take 500) = (l.take q).map (List.take 500) ++ [x.take m] := by rw [htk]; simp [hty]
      obtain ⟨y, hy⟩ : ∃ y, x.take m = y := ⟨_, rfl⟩
      rw [hy] at hty htl2 hLy hmap
      have hCy : Kd.C (Kd.int .u8) wr A0 m y := by
        have := hLy.2.2 wr HB.out.rt.be
        rwa [htl2] at this
      obtain ⟨fl, hfl⟩ : ∃ fl, hdOf y.length ++ y = fl := ⟨_, rfl⟩
      obtain ⟨fk, hfk⟩ : ∃ fk, fl.length = fk := ⟨_, rfl⟩
      have hft : frT y = (fl, 0) := by rw [frT_is y (by omega), hfl]
      have hX : frs 500 (l.take (q + 1)) = frs 500 (l.take q) ++ fl := by rw [htk, frs_snoc, hty, hfl]
      have hXl := frs_len20 l (q + 1) (by omega)
      obtain ⟨X, hXX⟩ : ∃ X, frs 500 (l.take q) = X := ⟨_, rfl⟩
      rw [hXX] at hX HB HK
      obtain ⟨kx, hkx⟩ : ∃ kx, (X ++ fl).length = kx := ⟨_, rfl⟩
      have hkx2 : kx ≤ 10800 := by rw [← hkx, ← hX]; exact hXl
      have FC := Aside0.mk (fun W (hW : Below wr.heap.size wr W) => frm A0 c0 m fk y fl W htl2 hft hfk (Kd.C_below hCy hW) (by omega) (by omega) (HT.out.below (HB.out.below hW).rt.be))
      have HX := Aside0.mk hX
      have HKX := Aside0.mk hkx
      have HKX2 := Aside0.mk hkx2
      have HFK := Aside0.mk hfk
      have HMAP := Aside0.mk hmap
      have HLY := Aside0.mk hLy
      have h1 : (q : Int) < (n : Int) := by omega
      have h0 : (0 : Int) ≤ (q : Int) := by omega
      have t1 : decide (q < n) = true := decide_eq_true hlt.1
      have t2 : decide ((q : Int) < 20) = true := decide_eq_true (by omega)
      have hw1 : wrap64 ((q : Int) + 1) = ((q + 1 : Nat) : Int) := by unfold wrap64; omega
      have e0 : ((0 : Int) != 0) = false := rfl
      simp only [Int.toNat_natCast] at hcell
      clear hCw hC hx hxn hm hty htl2 hCy hy hfl hfk hft hX hXl hXX hkx hkx2 hmx hm2 hmap hLy hLt htk hcell' hc0' hin HRw
      rcases hms with ⟨rfl, c2, c3⟩ | ⟨rfl, c2, c3⟩
      all_goals
        go_upto_region 6 with (fail)
        go_quiet (fail)
        go_wp2_with (first
          | (go_at_call 27; (with_reducible refine (FC.out _ (by repeat (first | (with_reducible exact Below.refl _ _) | apply below_drew | apply pw_below_drewN))).mono ?_); rintro e w1 ⟨A5, c5, rfl, hf1, hf2, hf3⟩; have HF := Aside0.mk hf1; have HB1 := Aside0.mk ((HB.out.below (by repeat (first | (with_reducible exact Below.refl _ _) | apply below_drew | apply pw_below_drewN))).below hf3); clear hf1 hf2 hf3)
          | (at_builtin; refine HB1.out.app rfl (.tmp 42) (.tmp 43) rfl fl A5 fk c5 kx rfl rfl HF.out HFK.out HKX.out (by have := HKX2.out; omega) ?_; intro A6 c6 w6 h_; have HB6 := Aside0.mk h_; clear h_)
          | (at_builtin; refine HB6.out.push rfl (.tmp 45) (.tmp 47) rfl _ _ _ (q + 1) rfl rfl (by rw [HTL.out]) (by omega) ?_; intro A7 c7 w7 h_; have HB7 := Aside0.mk h_; clear h_))
        exact ⟨⟨q + 1, kx, c6, c7, A6, A7, by omega, by omega, by simp, rfl, rfl, ⟨⟨⟨_, by rw [HX.out]; exact HB7.out, by rw [HMAP.out]; exact HL.out.snoc HLY.out, by simp [HTL.out]⟩, by rw [HX.out, HKX.out]⟩⟩⟩, by simp [intOf]; omega⟩
    · have hXl := frs_len20 l q hq20
      have hXB : Byt (frs 500 (l.take q)) := frs_byt 500 _ fun x hx => HBY.out x (List.mem_of_mem_take hx)
      have hbod : bodT (frs 500 (l.take q)) = ((l.take q).map (List.take 500), [], 3) := by
        have := bod_frs 500 (by decide) [] (fun x hx => by cases hx) (l.take q) (fun x hx => HBY.out x (List.mem_of_mem_take hx)) (by simp; omega)
        rw [List.append_nil, bod_nil, List.append_nil] at this
        exact this
      have hBl : ((l.take q).map (List.take 500)).length = q := by rw [List.length_map, List.length_take, HN.out]; omega
      have hBx : ∀ x ∈ (l.take q).map (List.take 500), x.length ≤ 140737488353792 := fun x hx => by
        obtain ⟨y, _, rfl⟩ := List.mem_map.1 hx
        rw [List.length_take]; omega
      obtain ⟨X, hXX⟩ : ∃ X, frs 500 (l.take q) = X := ⟨_, rfl⟩
      obtain ⟨B, hBB⟩ : ∃ B, (l.take q).map (List.take 500) = B := ⟨_, rfl⟩
      rw [hXX] at hXl hXB hbod HB HK
      rw [hBB] at hbod hBl hBx HL
      have HXL := Aside0.mk hXl
      have HXB := Aside0.mk hXB
      have HBOD := Aside0.mk hbod
      have HBL := Aside0.mk hBl
      have HBX := Aside0.mk hBx
      have HQ := Aside0.mk hq20
      have hCX : Lt wr (Ab, k, cb) X := Lt_of HK.out.symm (by have := (Kd.R_reads' HB.out.row).2.2; rwa [← HK.out] at this) (Kd.R_reads' HB.out.row).2.1
      have CW := Aside0.mk (cut_walk Ab k cb X A1 m1 c1 l1 wr hCX (by rw [HK.out]; omega) (Kd.C_below HR1.out HB.out.rt.be))
      have hout : (q < n) = False ∨ ((q < n) = True ∧ ((q : Int) < 20) = False) := by
        rcases Nat.lt_or_ge q n with h | h
        · exact .inr ⟨eq_true h, eq_false (by omega)⟩
        · exact .inl (eq_false (by omega))
      have e0 : ((0 : Int) == 0) = true := rfl
      clear hXl hXB hbod hBl hBx hXX hBB hCX hlt hq hq20
      rcases hout with k1 | ⟨k1, k2⟩
      all_goals
        go_wp2_with (first
          | (go_at_call 26; (with_reducible refine CW.out.mono ?_); rintro e w2 ⟨A2, n2, c2, ts2, ps, rfl, h1_, h2_, h3_, h4_, h5_⟩; have R2 := Aside0.mk h1_; have L2 := Aside0.mk h2_; have F2 := Aside0.mk h3_; have N2 := Aside0.mk h5_; clear h1_ h2_ h3_ h4_ h5_)
          | (go_at_call 25; (with_reducible refine (back_reads R2.out L2.out F2.out N2.out HXB.out (by have := HXL.out; omega) (HT.out.tab.below HB.out.rt.be) HBOD.out HBL.out).mono ?_); rintro e w3 ⟨Ao, co, rfl, h1_, h2_, h3_⟩; have C3 := Aside0.mk h1_; have R3 := Aside0.mk h2_; have T3 := Aside0.mk (HB.out.rt.below (R2.out.be.trans (h3_.mono R2.out.be.size))); clear h1_ h2_ h3_)
          | (go_at_call 16; (with_reducible refine (same_calls HBL.out (by have := HQ.out; omega) HBX.out R3.out C3.out (HL.out.C T3.out).2.2 (HL.out.C T3.out).2.1).mono ?_); rintro e w4 ⟨rfl, nd, rfl⟩)
          | (go_at_call 21; (with_reducible refine (awake_calls HT.out.tab (pw_below_drewN T3.out.be nd)).mono ?_); rintro e w6 ⟨rfl, b_⟩; have B6 := Aside0.mk b_; clear b_))
        go_ret
        exact ⟨rfl, B6.out⟩
end Go.Proofs.YthkmacgjekienaaDoor.P
/- FramePieces. -/
namespace Go.Proofs.YthkmacgjekienaaDoor.P
attribute [-simp] List.length_drop List.length_take ByteArray.size_append
open Go.RowKit Go.Shelf Go.Proofs.YthkmacgjekienaaDoor.Pure Go.Proofs.YthkmacgjekienaaDoorW.PrintWords Go.Proofs.YthkmacgjekienaaDoorW.PrintLast Go.Proofs.YthkmacgjekienaaDoorW.PrintMore
set_option linter.unusedVariables false
set_option linter.unusedSimpArgs false
attribute [local go_sem] Oper.semAt_some
theorem C_row1 (w : World) (A : Option Addr) (n c : Nat) (l : List Int) (hn : l.length = n) (h : Kd.C (Kd.int .u8) w A n l) (hc : n ≤ c) : Kd.C (Kd.slice 5 (Kd.int .u8)) (w.alloc (.cells #[.slice A n c] 27)) (some ⟨w.heap.size, 0, none⟩) 1 [l] := by
  have hb := heap_alloc_new w (.cells #[.slice A n c] 27)
  subst hn
  refine ⟨rfl, by decide, fun _ => ⟨⟨w.heap.size, 0, none⟩, rfl, fun j x hx => ?_⟩⟩
  cases j with
  | zero =>
    cases hx
    refine ⟨[.slice A l.length c], rfl, ⟨A, c, rfl, hc, Kd.C_alloc h _⟩, fun i v hv => ?_⟩
    cases i with
    | zero => cases hv; exact blk_cell hb 0
    | succ i => cases hv
  | succ j => cases hx
theorem pc_reads (w : World) (A : Option Addr) (n c : Nat) (l : List Int) (hn : l.length = n) (h : Kd.C (Kd.int .u8) w A n l) (hc : n ≤ c) (hT : TAB w) (hby : Byt l) (hsz : n ≤ 5000000000000) (bs : List (List Int)) (k : Nat) (er : Int) (nl : Nat) (hb : (bodT l).1 = bs) (hk : bs.length = k) (he : lst (bodT l).2.2 = er) (hl : lft l = nl) :
    Calls Tryd.prog 25 #[.slice (some ⟨w.heap.size, 0, none⟩) 1 1] (w.alloc (.cells #[.slice A n c] 27)) fun e w' => ∃ Ao co, e = .returned (.tuple #[.slice Ao k co, .int .i64 er, .int .i64 nl]) ∧ k ≤ co ∧ Kd.C (Kd.slice 5 (Kd.int .u8)) w' Ao k bs ∧ Below w.heap.size w w' := by
  have hf : [l].flatten = l := by simp
  have := reads_walk (some ⟨w.heap.size, 0, none⟩) 1 1 [l] (w.alloc (.cells #[.slice A n c] 27)) rfl (C_row1 w A n c l hn h hc) (by rw [hf]; exact hby) (by rw [hf]; omega) (by decide) (hT.below (below_alloc (Below.refl _ _) _))
  rw [hf, hb, he, hl] at this
  refine this.mono ?_
  rintro e w' ⟨Ao, no, co, h1, h2, h3, h4, h5⟩
  obtain rfl : no = k := by rw [h2]; exact hk
  exact ⟨Ao, co, h1, h3, h4, below_step (below_alloc (Below.refl w.heap.size w) _) h5⟩
theorem pc_reads2 {w W : World} {A2 : Option Addr} {n2 c2 : Nat} {ts : List Tr} {ps : List (List Int)} {X : List Int} (h1 : RT w W (.slice A2 n2 c2) ts) (h2 : Lts w ts ps) (h3 : ps.flatten = X) (h4 : n2 ≤ 61) (hby : Byt X) (hsz : X.length ≤ 5000000000000) (hT : TAB w) (bs : List (List Int)) (k : Nat) (er : Int) (nl : Nat) (hb : (bodT X).1 = bs) (hk : bs.length = k) (he : lst (bodT X).2.2 = er) (hl : lft X = nl) :
    Calls Tryd.prog 25 #[.slice A2 n2 c2] W fun e w' => ∃ Ao co, e = .returned (.tuple #[.slice Ao k co, .int .i64 er, .int .i64 nl]) ∧ k ≤ co ∧ Kd.C (Kd.slice 5 (Kd.int .u8)) w' Ao k bs ∧ Below W.heap.size W w' := by
  refine (cut_reads_pre h1 h2 h3 h4 hby hsz hT).mono ?_
  rintro e w' ⟨Ao, no, co, k1, k2, k3, k4, k5⟩
  rw [he, hl] at k1
  rw [hb] at k2 k4
  obtain rfl : no = k := by rw [k2]; exact hk
  exact ⟨Ao, co, k1, k3, k4, k5⟩
theorem bod_mem (l : List Int) : ∀ x ∈ (bodT l).1, x.length ≤ l.length := by
  refine bod_ind (p := fun l => ∀ x ∈ (bodT l).1, x.length ≤ l.length) (fun l ho ih => ?_) (fun l ho => ?_) l
  · rw [bodT_ok ho]
    intro x hx
    rcases List.mem_cons.1 hx with rfl | hx
    · unfold body1
      rw [List.length_drop, List.length_take]
      omega
    · have := ih x hx
      have := rest1_lt ho
      omega
  · rw [bodT_no ho]; intro x hx; cases hx
theorem in_view {w W : World} {A : Option Addr} {n c : Nat} {l : List Int} (hn : l.length = n) (h0 : Kd.C (Kd.int .u8) w A n l) (hB : Below w.heap.size w W) (hc : n ≤ c) (s bo : Nat) (hs : s < W.heap.size) (h1 : s ≠ bo) (h2 : w.heap.size ≤ bo) : ∃ gb, gb < W.heap.size ∧ Vw gb W A n c l ∧ gb ≠ bo := by
  rcases Nat.eq_zero_or_pos n with h | h
  · exact ⟨s, hs, ⟨hn, Kd.C_below h0 hB, hc, fun h3 => by omega⟩, h1⟩
  · obtain ⟨ad, rfl, hcell⟩ := h0.2.2 h
    have hlt : ad.block < w.heap.size := by
      have hx : l[0]? = some l[0] := List.getElem?_eq_getElem (by omega)
      have := World.block_lt_of_cell? _ _ (C_cell h0 0 l[0] hx)
      rwa [show (ad.add 0).block = ad.block from add_block _ _] at this
    exact ⟨ad.block, Nat.lt_of_lt_of_le hlt hB.size, ⟨hn, Kd.C_below h0 hB, hc, fun _ ad' e => by cases e; rfl⟩, by omega⟩
theorem CI.below {w0 wS : World} {bo : Nat} {pre : List (Value × List Int)} {W : World} (h : CI w0 wS bo pre W) (hb : bo ≤ wS.heap.size) : Below bo wS W := ⟨h.be.os, h.be.tape, h.be.output, h.be.size, fun k hk => h.kp k (by omega) (by omega)⟩
theorem eqIn_func {P : Program} (w : World) (d : Nat) (t : TypeId) {a1 a2 a3 : _} (h : P.underlying t = some (.func a1 a2 a3)) (f : Fn) (a b : Array Value) : (Op.equalIn (d + 1) t (.func f a b) .nilFunc).run P w = .ok false w := by
  rw [Op.equalIn, Sem.run_bind, run_underlying h]
  rfl
theorem eql_func {P : Program} (w : World) (t : TypeId) {a1 a2 a3 : _} (h : P.underlying t = some (.func a1 a2 a3)) (f : Fn) (a b : Array Value) : (binOp .eql t (.func f a b) .nilFunc).run P w = .ok (.bool false) w := by
  simp only [binOp]
  simp [Op.equal, Op.maxDepth, eqIn_func w 9999 t h f a b]
theorem func_nil (w : World) (f : Fn) (a b : Array Value) : (binOp .eql 43 (.func f a b) .nilFunc).run Tryd.prog w = .ok (.bool false) w := eql_func w 43 Tryd.underlying43 f a b
set_option maxRecDepth 100000 in
set_option maxHeartbeats 4000000 in
theorem pieces_walk (l : List Int) (A : Option Addr) (c : Nat) (l1 : List Int) (A1 : Option Addr) (c1 : Nat) (w : World) (hr : Kd.C (Kd.int .u8) w A l.length l) (hc : l.length ≤ c) (hby : Byt l) (hsz : l.length ≤ 2000000)
    (hr1 : Kd.C (Kd.int .i64) w A1 l1.length l1) (hT : TAB w) :
    Calls Tryd.prog 5 #[.slice A l.length c, .slice A1 l1.length c1] w fun e w' => e = .returned (.bool true) ∧ Below w.heap.size w w' := by
  have hmem := bod_mem l
  have hcnt := bod_count l
  obtain ⟨n, hn⟩ : ∃ n, l.length = n := ⟨_, rfl⟩
  obtain ⟨m1, hm1⟩ : ∃ n, l1.length = n := ⟨_, rfl⟩
  obtain ⟨bs, hbs⟩ : ∃ bs, (bodT l).1 = bs := ⟨_, rfl⟩
  obtain ⟨k, hk⟩ : ∃ k, bs.length = k := ⟨_, rfl⟩
  obtain ⟨er, her⟩ : ∃ er, lst (bodT l).2.2 = er := ⟨_, rfl⟩
  obtain ⟨nl, hnl⟩ : ∃ nl, lft l = nl := ⟨_, rfl⟩
  rw [hn] at hr hc hsz hmem hcnt ⊢
  rw [hm1] at hr1 ⊢
  rw [hbs] at hmem hcnt
  rw [hk] at hcnt
  have HN := Aside0.mk hn
  have HR := Aside0.mk hr
  have HR1 := Aside0.mk hr1
  have HT := Aside0.mk hT
  have HBy := Aside0.mk hby
  have HSZ := Aside0.mk hsz
  have HBS := Aside0.mk hbs
  have HK := Aside0.mk hk
  have HE := Aside0.mk her
  have HNL := Aside0.mk hnl
  have HCN := Aside0.mk (show k ≤ 2000000 by omega)
  have HMEM := Aside0.mk (fun x (hx : x ∈ bs) => (show x.length ≤ 140737488353792 by have := hmem x hx; omega))
  have HNC := Aside0.mk hc
  clear hn hm1 hr hr1 hT hby hsz hbs hk her hnl hcnt hmem hc
  refine (callsIn_wide (n := 4)).1 ?_
  refine callsIn_of_wp_marks Tryd.func5 rfl trivial ?_ rfl
  refine wpIn_wide.2 ?_
  simp only [Tryd.ntmps5, List.size_toArray, List.length_cons, List.length_nil, Nat.reduceAdd, Nat.reduceSub, Array.replicate_succ, Array.replicate_zero, List.push_toArray, List.append_toArray, List.nil_append, List.cons_append]
  go_upto_region 3 with (first
    | (go_at_call 25; (with_reducible refine (pc_reads w A n c l HN.out HR.out HNC.out HT.out HBy.out (by have := HSZ.out; omega) bs k er nl HBS.out HK.out HE.out HNL.out).mono ?_); rintro e w2 ⟨A2, c2, rfl, h1_, h2_, h3_⟩; have R2 := Aside0.mk h1_; have C2 := Aside0.mk h2_; have B2 := Aside0.mk h3_; clear h1_ h2_ h3_)
    | (go_at_call 26; (with_reducible refine (cut_walk A n c l A1 m1 c1 l1 w2 (Lt_of HN.out (Kd.C_below HR.out B2.out) HNC.out) (by have := HSZ.out; omega) (Kd.C_below HR1.out B2.out)).mono ?_); rintro e w3 ⟨A3, n3, c3, ts, ps, rfl, h1_, h2_, h3_, h4_, h5_⟩; have R3 := Aside0.mk h1_; have L3 := Aside0.mk h2_; have F3 := Aside0.mk h3_; have N3 := Aside0.mk h5_; clear h1_ h2_ h3_ h4_ h5_)
    | (go_at_call 25; (with_reducible refine (pc_reads2 R3.out L3.out F3.out N3.out HBy.out (by have := HSZ.out; have := HN.out; omega) (HT.out.below B2.out) bs k er nl HBS.out HK.out HE.out HNL.out).mono ?_); rintro e w4 ⟨A4, c4, rfl, h1_, h2_, h3_⟩; have R4 := Aside0.mk h1_; have C4 := Aside0.mk h2_; have B4 := Aside0.mk (R3.out.be.trans (h3_.mono R3.out.be.size)); clear h1_ h2_ h3_))
  have hb4 : Below w.heap.size w w4 := B2.out.trans (B4.out.mono B2.out.size)
  have HB4 := Aside0.mk hb4
  have C2' := Aside0.mk (Kd.C_below C2.out B4.out)
  clear hb4 R3 L3 F3 N3 C2 B4
  have hfn := func_nil
  have BO5 := Aside0.mk (Boxed.new w4 22 (.slice none 0 0))
  have B5 := Aside0.mk (below_alloc (Below.refl w4.heap.size w4) (.cells #[.slice none 0 0] 22))
  have SZ5 := Aside0.mk (show w4.heap.size < (w4.alloc (.cells #[.slice none 0 0] 22)).heap.size from BO5.out.lt)
  go_upto_region 4 with (fail)
  obtain ⟨bo, hbo⟩ : ∃ bo, w4.heap.size = bo := ⟨_, rfl⟩
  rw [hbo] at BO5 SZ5 B5 ⊢
  have HBO := Aside0.mk hbo
  clear hbo
  generalize w4.alloc (.cells #[.slice none 0 0] 22) = w5 at BO5 B5 SZ5 ⊢
  go_upto_region 6 with (go_at_call 24; (with_reducible refine (all_calls A n c w5).mono ?_); rintro e w6 ⟨rfl, rfl⟩)
  have BO6 := Aside0.mk (BO5.out.alloc (.cells #[.slice A n c] 27))
  have B6 := Aside0.mk (B5.out.trans ((below_alloc (Below.refl w5.heap.size w5) (.cells #[.slice A n c] 27)).mono (Nat.le_of_lt SZ5.out)))
  have SZ6 := Aside0.mk (show bo < (w5.alloc (.cells #[.slice A n c] 27)).heap.size from BO6.out.lt)
  clear BO5 B5 SZ5
  generalize w5.alloc (.cells #[.slice A n c] 27) = w6 at BO6 B6 SZ6 ⊢
  go_wp2_with (go_at_call 24; (with_reducible refine (all_calls A n c w6).mono ?_); rintro e w7 ⟨rfl, rfl⟩)
  have BO7 := Aside0.mk (BO6.out.alloc (.cells #[.slice A n c] 27))
  have BX7 := Aside0.mk (Boxed.new w6 27 (.slice A n c)).cell
  have B7 := Aside0.mk (B6.out.trans ((below_alloc (Below.refl w6.heap.size w6) (.cells #[.slice A n c] 27)).mono (Nat.le_of_lt SZ6.out)))
  have SZ7 := Aside0.mk (show bo < (w6.alloc (.cells #[.slice A n c] 27)).heap.size from BO7.out.lt)
  have HBXN := Aside0.mk (show w6.heap.size ≠ bo by have := SZ6.out; omega)
  clear BO6 B6 SZ6
  generalize w6.heap.size = bx at BX7 HBXN ⊢
  generalize w6.alloc (.cells #[.slice A n c] 27) = w7 at BO7 BX7 B7 SZ7 ⊢
  have HW0 := Aside0.mk (show w.heap.size ≤ bo by rw [← HBO.out]; exact HB4.out.size)
  have HG0 := Aside0.mk (show w.heap.size ≤ w7.heap.size from Nat.le_trans HW0.out (Nat.le_of_lt SZ7.out))
  have BW7 := Aside0.mk (show Below w.heap.size w w7 from HB4.out.trans (B7.out.mono HW0.out))
  obtain ⟨gb, hgb, hview, hne⟩ := in_view HN.out HR.out BW7.out HNC.out bx bo (World.block_lt_of_cell? _ _ BX7.out) HBXN.out HW0.out
  have HV7 := Aside0.mk hview
  have HGB := Aside0.mk hgb
  have HNE := Aside0.mk hne
  clear hview hgb hne
  refine (wpIn_wide (n := 4)).1 ?_
  refine rangeX rfl (by decide) (gf := 34) (lb := #[.pointer (some ⟨bx, 0, none⟩)]) rfl trivial (enters_of Tryd.func34 (by kernel_rfl) rfl) (all1_seq HV7.out HGB.out HBy.out (by have := HSZ.out; omega) HT.out BW7.out bx BX7.out) (fun m pre x => Hx_own m pre x) Kpp.trans (fun W l o o' => Kpp_book HG0.out HGB.out W l o o') (fun _ => rfl)
    (fun m pre W => CI w w7 bo pre W) (fun _ _ _ => False) (fun m => CI.own SZ7.out HG0.out) (fun c s W W' row hs hg hr => hs) (CI.start BO7.out) ?a1 ?assign ?body ?done ?stop
  case assign =>
    intro l x W K hK
    gi_wp2
    exact hK
  case body =>
    rintro l' pre ⟨xv, xb⟩ m W hI hx
    obtain ⟨vo, h1, h2⟩ := hI.box
    obtain ⟨Ax, cx, rfl⟩ := Kd.R_slice (show Kd.R (Kd.int .u8) 5 W w7.heap.size (fun k => m ≤ k) xv xb from hx.1)
    have hlen : (pre.map (·.2)).length < 5000000000000 := by
      have h3 : pre.length < bs.length := by have := (List.getElem?_eq_some_iff.1 hx.2.1).1; rw [HBS.out] at this; exact this
      have h4 := HCN.out
      have h5 := HK.out
      rw [List.length_map]; omega
    obtain ⟨bp, hbs⟩ : ∃ bp, pre.map (·.2) = bp := ⟨_, rfl⟩
    rw [hbs] at h2 hlen
    obtain ⟨Ao, co, rfl⟩ := Kd.R_slice h2
    have HBP := Aside0.mk hbs
    clear hbs
    have hco := h1.cell
    have H1 := Aside0.mk h1
    have H2 := Aside0.mk h2
    have HI := Aside0.mk hI
    have HLN := Aside0.mk hlen
    have hap : ∀ k, w7.heap.size ≤ k ∧ (∃ q, q = 5 ∧ ∃ cells, W.heap[k]? = some (.cells cells q (0, 0))) → w7.heap.size ≤ k ∧ some k ≠ (Value.slice Ao bp.length co).ownBlock := fun k ⟨hk, q, hq, cells, hc⟩ => ⟨hk, fun e => by
      obtain ⟨cells2, hc2⟩ := Kd.R_typed h2 k e.symm
      rw [hc2] at hc; cases hc; cases hq⟩
    have HAP := Aside0.mk hap
    have hxm : (Kd.slice 5 (Kd.int .u8)).M W w7.heap.size (fun k => w7.heap.size ≤ k ∧ (∃ q, q = 5 ∧ ∃ cells, W.heap[k]? = some (.cells cells q (0, 0)))) xb [.slice Ax xb.length cx] := ⟨_, rfl, Kd.R_mono (Kd.R_bound hx.1) fun k hk => by
      obtain ⟨_, h3, _, q, hq, cells, hc⟩ := hk
      exact ⟨h3, q, by simpa [Kd.int, Kd.scalar] using hq, cells, hc⟩⟩
    have HXM := Aside0.mk hxm
    clear hI hx h1 h2 hlen hap hxm
    dsimp only
    gi_wp2_with (gi_at_builtin; refine in_append (Kd.slice 5 (Kd.int .u8)) w7.heap.size rfl (.tmp 34) (.tmp 36) 22 27 (.slice none 0 0) 24 rfl Tryd.underlying22 info27 rfl (by decide) (by decide) (.slice Ao bp.length co) bp xb [.slice Ax xb.length cx] (fun k => w7.heap.size ≤ k) (fun k => w7.heap.size ≤ k ∧ (∃ q, q = 5 ∧ ∃ cells, W.heap[k]? = some (.cells cells q (0, 0)))) rfl rfl HXM.out HAP.out (fun k hk => Nat.le_trans HI.out.be.size hk) H2.out HI.out.be.size (by have := HLN.out; omega) ?_; intro v1 wa r1 r2 r3; obtain ⟨A1, c1, e1⟩ := Kd.R_slice r1; rw [List.length_append, List.length_singleton] at e1; subst e1; have R1 := Aside0.mk r1; have R2 := Aside0.mk r2; have kb := H1.out.kept r2 (fun e_ => by have := Kd.R_base H2.out _ e_.symm; have := SZ7.out; omega); have kc := kb.cell; have kf := kb.frozen; clear r1 r2 r3 kb)
    exact CI.step HI.out SZ7.out HW0.out HGB.out HNE.out H1.out (by rw [HBP.out]; exact H2.out) (by rw [HBP.out]; exact R1.out) R2.out
  case stop => intro D c pre W _ _ h; exact h.elim
  case done =>
    intro D xs m W hD hxs hI hDef
    obtain ⟨vo, h1, h2⟩ := hI.box
    rw [hxs, HBS.out] at h2
    obtain ⟨A7, c7, rfl⟩ := Kd.R_slice h2
    rw [HK.out] at h1 h2
    have hco := h1.cell
    have BW := Aside0.mk (show Below w4.heap.size w4 W by rw [HBO.out]; exact B7.out.trans (hI.below (Nat.le_of_lt SZ7.out)))
    have C7 := Aside0.mk (Kd.R_reads' h2)
    have CA := Aside0.mk (Kd.C_below C2'.out BW.out)
    have CB := Aside0.mk (Kd.C_below C4.out BW.out)
    have TW := Aside0.mk (HT.out.below (HB4.out.trans (BW.out.mono HB4.out.size)))
    have BWW := Aside0.mk (HB4.out.trans (BW.out.mono HB4.out.size))
    have HD := Aside0.mk hD
    have HDef := Aside0.mk hDef
    have e0 : (er == er) = true := by simp
    have e1 : ((nl : Int) == (nl : Int)) = true := by simp
    clear h1 h2 hI hD hDef hxs
    go_wp2_with (first
      | (go_at_call 16; (with_reducible refine (same_calls HK.out (by have := HCN.out; omega) HMEM.out CA.out R2.out CB.out R4.out).mono ?_); rintro e wa ⟨rfl, d1, rfl⟩)
      | (go_at_call 16; (with_reducible refine (same_calls HK.out (by have := HCN.out; omega) HMEM.out (Kd.C_drewN CA.out d1) R2.out (Kd.C_drewN (by have := C7.out.2.2; rwa [HK.out] at this) d1) (by have := C7.out.2.1; exact this)).mono ?_); rintro e wb ⟨rfl, d2, rfl⟩)
      | (go_at_call 21; (with_reducible refine (awake_calls TW.out (pw_below_drewN (Below.refl _ W) (d1 + d2))).mono ?_); rintro e w9 ⟨rfl, b_⟩; have B9 := Aside0.mk b_; clear b_))
    have e2 := (B9.out.block D (blk_lt HDef.out)).trans HDef.out
    refine ⟨by simp, .inl ⟨_, _, rfl, run_takeDeferred e2, ?_⟩⟩
    exact ⟨_, results_tmp rfl _ _ _, rfl, Below_put (BWW.out.trans (B9.out.mono BWW.out.size)) (Nat.le_trans HG0.out HD.out) _⟩
end Go.Proofs.YthkmacgjekienaaDoor.P
