/- Bytes in pieces: rows of rows that share what came in. -/
import Derived.Test.YthkmacgjekienaaDoorGC
import Derived.Test.YthkmacgjekienaaDoorO
namespace Go.Proofs.YthkmacgjekienaaDoor.P
attribute [-simp] List.length_drop List.length_take ByteArray.size_append
open Go.RowKit Go.Shelf Go.Proofs.YthkmacgjekienaaDoor.Pure Go.Proofs.YthkmacgjekienaaDoorW.PrintWords Go.Proofs.YthkmacgjekienaaDoorW.PrintLast Go.Proofs.YthkmacgjekienaaDoorW.PrintMore
set_option linter.unusedVariables false
set_option linter.unusedSimpArgs false
/-- a slice's three words -/
abbrev Tr := Option Addr × Nat × Nat
def encT (t : Tr) : Value := .slice t.1 t.2.1 t.2.2
theorem encT_one (t : Tr) : (encT t).oneCell' = true := rfl
def KT : Kd Tr := Kd.scalar encT encT_one
/-- it reads as x, in all worlds behind w that keep what lay there -/
def Lt (w : World) (t : Tr) (x : List Int) : Prop := t.2.1 = x.length ∧ x.length ≤ t.2.2 ∧ ∀ W, Below w.heap.size w W → Kd.C (Kd.int .u8) W t.1 x.length x
def Lts (w : World) (ts : List Tr) (ps : List (List Int)) : Prop := ts.length = ps.length ∧ ∀ (i : Nat) t x, ts[i]? = some t → ps[i]? = some x → Lt w t x
theorem Lts.nil (w : World) : Lts w [] [] := ⟨rfl, fun i t x h => by simp at h⟩
theorem Lts.snoc {w : World} {ts : List Tr} {ps : List (List Int)} {t : Tr} {x : List Int} (h : Lts w ts ps) (hx : Lt w t x) : Lts w (ts ++ [t]) (ps ++ [x]) := by
  obtain ⟨h1, h2⟩ := h
  refine ⟨by simp [h1], fun i t' x' ht hx' => ?_⟩
  rcases Nat.lt_or_ge i ts.length with hi | hi
  · rw [List.getElem?_append_left hi] at ht
    rw [List.getElem?_append_left (by omega)] at hx'
    exact h2 i t' x' ht hx'
  · rw [List.getElem?_append_right hi] at ht
    rw [List.getElem?_append_right (by omega)] at hx'
    have h0 : i - ts.length = 0 := by
      rcases Nat.eq_zero_or_pos (i - ts.length) with h0 | h0
      · exact h0
      · rw [List.getElem?_eq_none (by simp; omega)] at ht; cases ht
    rw [h0] at ht
    rw [← h1, h0] at hx'
    cases ht; cases hx'
    exact hx
theorem Lt.take {w : World} {A : Option Addr} {n c : Nat} {x : List Int} (h : Lt w (A, n, c) x) (j : Nat) (hj : j ≤ n) : Lt w (A, j, c) (x.take j) := by
  obtain ⟨h1, h2, h3⟩ := h
  simp only at h1 h2 h3
  have hl : (x.take j).length = j := by rw [List.length_take]; omega
  exact ⟨hl.symm, by simp only; omega, fun W hW => Kd.C_take (h3 W hW) (by omega)⟩
theorem Lt.drop {w : World} {A : Option Addr} {n c : Nat} {x : List Int} (h : Lt w (A, n, c) x) (j : Nat) (hj : j ≤ n) : Lt w (if c = j then A else A.map (·.add j), n - j, c - j) (x.drop j) := by
  obtain ⟨h1, h2, h3⟩ := h
  simp only at h1 h2 h3
  have hl : (x.drop j).length = n - j := by rw [List.length_drop]; omega
  refine ⟨hl.symm, by simp only; omega, fun W hW => ?_⟩
  have := Kd.C_drop (m := j) (h3 W hW) (by omega) h2
  rw [show j * (Kd.int .u8).sz = j from Nat.mul_one j] at this
  exact this
/-- a row of such words, of one's own -/
structure RT (w W : World) (v : Value) (ts : List Tr) : Prop where
  row : Kd.R KT 27 W w.heap.size (fun _ => True) v ts
  be : Below w.heap.size w W
theorem RT.new (w : World) : RT w w (.slice none 0 0) [] := ⟨Kd.R_nil _ _ _ _ _, Below.refl _ _⟩
theorem RT.below {w W W1 : World} {v : Value} {ts : List Tr} (h : RT w W v ts) (hb : Below W.heap.size W W1) : RT w W1 v ts := ⟨Kd.R_below h.row hb, h.be.trans (hb.mono h.be.size)⟩
theorem RT.slice {w W : World} {v : Value} {ts : List Tr} (h : RT w W v ts) : ∃ A c, v = .slice A ts.length c := Kd.R_slice h.row
/-- such a row is read as a row of rows -/
theorem RT.C {w W : World} {A : Option Addr} {n c : Nat} {ts : List Tr} {ps : List (List Int)} (h : RT w W (.slice A n c) ts) (hp : ∀ (i : Nat) t x, ts[i]? = some t → ps[i]? = some x → t.2.1 = x.length ∧ x.length ≤ t.2.2 ∧ Kd.C (Kd.int .u8) W t.1 x.length x) (hl : ts.length = ps.length) : n = ps.length ∧ n ≤ c ∧ Kd.C (Kd.slice 5 (Kd.int .u8)) W A ps.length ps := by
  obtain ⟨h1, h2, h3⟩ := Kd.R_reads' h.row
  refine ⟨by omega, h2, rfl, by have := h3.2.1; omega, fun hn => ?_⟩
  obtain ⟨ad, rfl, hc⟩ := h3.2.2 (by omega)
  refine ⟨ad, rfl, fun j x hx => ?_⟩
  have hj : j < ts.length := by have := (List.getElem?_eq_some_iff.1 hx).1; omega
  obtain ⟨cs, e1, e2, e3⟩ := hc j ts[j] (List.getElem?_eq_getElem hj)
  obtain ⟨a1, a2, a3⟩ := hp j ts[j] x (List.getElem?_eq_getElem hj) hx
  refine ⟨cs, e1, ⟨ts[j].1, ts[j].2.2, ?_, a2, a3⟩, e3⟩
  rw [show cs = [encT ts[j]] from e2]
  unfold encT
  rw [a1]
section
variable {ops : Array Oper} {rest : List Oper} {o : Oper} {a : Act} {Q : Exit → Act → World → Prop} {w W : World}
end
end Go.Proofs.YthkmacgjekienaaDoor.P
/- Bytes in pieces: the walk. -/
namespace Go.Proofs.YthkmacgjekienaaDoor.P
attribute [-simp] List.length_drop List.length_take ByteArray.size_append
open Go.RowKit Go.Shelf Go.Proofs.YthkmacgjekienaaDoor.Pure Go.Proofs.YthkmacgjekienaaDoorW.PrintWords Go.Proofs.YthkmacgjekienaaDoorW.PrintLast Go.Proofs.YthkmacgjekienaaDoorW.PrintMore
set_option linter.unusedVariables false
set_option linter.unusedSimpArgs false
/-- between two rounds of cut -/
structure Ct (w W : World) (v : Value) (q nt : Nat) (t : Tr) (l : List Int) : Prop where
  ex : ∃ ts ps x, RT w W v ts ∧ Lts w ts ps ∧ ps.flatten ++ x = l ∧ Lt w t x ∧ ts.length = nt
  le : nt ≤ q
end Go.Proofs.YthkmacgjekienaaDoor.P
/- What bytes that come in pieces are taken as: as all of them together. -/
namespace Go.Proofs.YthkmacgjekienaaDoor.P
attribute [-simp] List.length_drop List.length_take ByteArray.size_append
open Go.RowKit Go.Shelf Go.Proofs.YthkmacgjekienaaDoor.Pure Go.Proofs.YthkmacgjekienaaDoorW.PrintWords Go.Proofs.YthkmacgjekienaaDoorW.PrintLast Go.Proofs.YthkmacgjekienaaDoorW.PrintMore
set_option linter.unusedVariables false
set_option linter.unusedSimpArgs false
/-- what the header says does not change by what comes behind -/
theorem hp_more {a x : List Int} (hb : Byt (a ++ x)) (hl : (a ++ x).length ≤ 140737488353792) (h : (hp a).2.2 ≠ 3) : hp (a ++ x) = hp a := by
  have hba : Byt a := fun y hy => hb y (List.mem_append_left _ hy)
  have hla : a.length ≤ 140737488353792 := by rw [List.length_append] at hl; omega
  have ht : (a ++ x).take a.length = a := by simp
  rcases settled (a ++ x) hb (by omega) a.length (by rw [List.length_append]; omega) with ⟨_, h1⟩ | ⟨r, h1, h2, _⟩
  · rw [ht] at h1
    rw [hp_is h1] at h
    exact absurd rfl h
  · rw [ht] at h1
    rw [hp_is h1, hp_is h2]
theorem ok1_more {a x : List Int} (hb : Byt (a ++ x)) (hl : (a ++ x).length ≤ 140737488353792) (h : ok1 a) : ok1 (a ++ x) ∧ body1 (a ++ x) = body1 a ∧ rest1 (a ++ x) = rest1 a ++ x := by
  obtain ⟨h0, h1, h2⟩ := h
  have e := hp_more hb hl (by rw [h0]; decide)
  have e1 : sz (a ++ x) = sz a := by unfold sz; rw [e]
  have e2 : bn (a ++ x) = bn a := by unfold bn; rw [e]
  refine ⟨⟨by rw [e]; exact h0, by rw [e1, e2, List.length_append]; omega, by rw [e1]; exact h2⟩, ?_, ?_⟩
  · unfold body1
    rw [e1, e2, List.take_append_of_le_length h1]
  · unfold rest1
    rw [e1, e2, List.drop_append_of_le_length h1]
theorem bod_more (x : List Int) (a : List Int) : Byt (a ++ x) → (a ++ x).length ≤ 140737488353792 →
    ((bodT a).2.2 = 3 → bodT (a ++ x) = ((bodT a).1 ++ (bodT ((bodT a).2.1 ++ x)).1, (bodT ((bodT a).2.1 ++ x)).2)) ∧ ((bodT a).2.2 ≠ 3 → bodT (a ++ x) = ((bodT a).1, (bodT a).2.1 ++ x, (bodT a).2.2)) := by
  refine bod_ind (p := fun a => Byt (a ++ x) → (a ++ x).length ≤ 140737488353792 →
    ((bodT a).2.2 = 3 → bodT (a ++ x) = ((bodT a).1 ++ (bodT ((bodT a).2.1 ++ x)).1, (bodT ((bodT a).2.1 ++ x)).2)) ∧ ((bodT a).2.2 ≠ 3 → bodT (a ++ x) = ((bodT a).1, (bodT a).2.1 ++ x, (bodT a).2.2))) (fun a ho ih hb hl => ?_) (fun a ho hb hl => ?_) a
  · obtain ⟨k1, k2, k3⟩ := ok1_more hb hl ho
    have hr : Byt (rest1 a ++ x) := by rw [← k3]; exact hb.rest1
    have hrl : (rest1 a ++ x).length ≤ 140737488353792 := by rw [← k3]; have := rest1_lt k1; omega
    obtain ⟨i1, i2⟩ := ih hr hrl
    rw [bodT_ok k1, k2, k3, bodT_ok ho]
    refine ⟨fun h => ?_, fun h => ?_⟩
    · rw [i1 h]; simp
    · rw [i2 h]
  · rw [bodT_no ho]
    refine ⟨fun h => by simp, fun h => ?_⟩
    simp only at h ⊢
    have hne : (hp a).2.2 ≠ 3 ∧ (hp a).2.2 ≠ 0 := by
      unfold err1 at h
      split at h
      · exact absurd rfl h
      · rename_i h0; exact ⟨h, h0⟩
    have e := hp_more hb hl hne.1
    have hno : ¬ ok1 (a ++ x) := fun h1 => by have := h1.1; rw [e] at this; exact hne.2 this
    rw [bodT_no hno]
    unfold err1
    rw [e]
/-- words of slices, and what they read as; what they lead to lies in ok -/
def Ltf (W : World) (ok : Nat → Prop) (ts : List Tr) (ps : List (List Int)) : Prop := ts.length = ps.length ∧ ∀ (i : Nat) t x, ts[i]? = some t → ps[i]? = some x → t.2.1 = x.length ∧ x.length ≤ t.2.2 ∧ Kd.F (Kd.int .u8) W ok t.1 x.length x
theorem Ltf.nil (W : World) (ok : Nat → Prop) : Ltf W ok [] [] := ⟨rfl, fun i t x h => by simp at h⟩
theorem Ltf.map {W W1 : World} {ok ok1 : Nat → Prop} {ts : List Tr} {ps : List (List Int)} (h : Ltf W ok ts ps) (hm : ∀ A n x, Kd.F (Kd.int .u8) W ok A n x → Kd.F (Kd.int .u8) W1 ok1 A n x) : Ltf W1 ok1 ts ps := ⟨h.1, fun i t x ht hx => ⟨(h.2 i t x ht hx).1, (h.2 i t x ht hx).2.1, hm _ _ _ (h.2 i t x ht hx).2.2⟩⟩
theorem Ltf.app {W : World} {ok : Nat → Prop} {ts tb : List Tr} {ps pb : List (List Int)} (h : Ltf W ok ts ps) (hb : Ltf W ok tb pb) : Ltf W ok (ts ++ tb) (ps ++ pb) := by
  obtain ⟨h1, h2⟩ := h
  obtain ⟨g1, g2⟩ := hb
  refine ⟨by simp [h1, g1], fun i t x ht hx => ?_⟩
  rcases Nat.lt_or_ge i ts.length with hi | hi
  · rw [List.getElem?_append_left hi] at ht
    rw [List.getElem?_append_left (by omega)] at hx
    exact h2 i t x ht hx
  · rw [List.getElem?_append_right hi] at ht
    rw [List.getElem?_append_right (by omega), ← h1] at hx
    exact g2 _ t x ht hx
/-- a row of rows of one's own, by its words -/
theorem words_of {W : World} {base : Nat} {ok : Nat → Prop} {A : Option Addr} {n c : Nat} {bs : List (List Int)} (h : Kd.R (Kd.slice 5 (Kd.int .u8)) 27 W base ok (.slice A n c) bs) : ∃ tb : List Tr, tb.length = n ∧ Kd.C KT W A n tb ∧ Ltf W ok tb bs := by
  obtain ⟨h1, h2, h3⟩ := Kd.R_reads' h
  have hF := Kd.R_F h
  subst h1
  have key : ∀ i, i < bs.length → ∃ t : Tr, ∃ ad x, A = some ad ∧ bs[i]? = some x ∧ W.cell? (ad.add i) = some (encT t) ∧ t.2.1 = x.length ∧ x.length ≤ t.2.2 ∧ Kd.F (Kd.int .u8) W ok t.1 x.length x := fun i hi => by
    obtain ⟨ad, rfl, hc⟩ := h3.2.2 (by omega)
    have hx : bs[i]? = some bs[i] := List.getElem?_eq_getElem hi
    obtain ⟨cs, k1, ⟨A0, c0, k2, k3, k4⟩, k5⟩ := hc i bs[i] hx
    subst k2
    have hcell : W.cell? (ad.add i) = some (.slice A0 bs[i].length c0) := by
      have := k5 0 _ rfl
      simpa [Kd.slice] using this
    refine ⟨(A0, bs[i].length, c0), ad, bs[i], rfl, hx, hcell, rfl, k3, fun W' hW' => ?_⟩
    have hC' := hF W' hW'
    obtain ⟨ad', e, hc'⟩ := hC'.2.2 (by omega)
    cases e
    obtain ⟨cs', j1, ⟨A1, c1, j2, j3, j4⟩, j5⟩ := hc' i bs[i] hx
    subst j2
    have hcell' : W'.cell? (ad.add i) = some (.slice A1 bs[i].length c1) := by
      have := j5 0 _ rfl
      simpa [Kd.slice] using this
    obtain ⟨g, hg⟩ := Kd.R_head h
    obtain rfl : ad = ⟨g, 0, none⟩ := by simpa using hg
    have hgb : W'.heap[g]? = W.heap[g]? := hW' g (h.1 g rfl) (World.block_lt_of_cell? _ _ (by rw [add_plain] at hcell; exact hcell))
    have : W'.cell? ((⟨g, 0, none⟩ : Addr).add i) = W.cell? ((⟨g, 0, none⟩ : Addr).add i) := by
      rw [add_plain]
      unfold World.cell?
      rw [hgb]
    rw [this, hcell] at hcell'
    cases hcell'
    exact j4
  obtain ⟨tb, hl, hp⟩ := list_ofO bs.length key
  refine ⟨tb, hl, ⟨by rw [hl], h3.2.1, fun hn => ?_⟩, by rw [hl], fun i t x ht hx => ?_⟩
  · obtain ⟨ad, rfl, _⟩ := h3.2.2 (by omega)
    refine ⟨ad, rfl, fun j t ht => ?_⟩
    obtain ⟨ad', x, e, _, hcell, _⟩ := hp j t ht
    cases e
    exact ⟨[encT t], rfl, rfl, fun i u hu => by
      cases i with
      | zero => cases hu; show W.cell? (ad.add (j * 1 + 0)) = _; rw [Nat.mul_one, Nat.add_zero]; exact hcell
      | succ i => cases hu⟩
  · obtain ⟨_, x', _, hx', _, k1, k2, k3⟩ := hp i t ht
    rw [hx] at hx'
    cases hx'
    exact ⟨k1, k2, k3⟩
end Go.Proofs.YthkmacgjekienaaDoor.P
/- reads. -/
namespace Go.Proofs.YthkmacgjekienaaDoor.P
attribute [-simp] List.length_drop List.length_take ByteArray.size_append
open Go.RowKit Go.Shelf Go.Proofs.YthkmacgjekienaaDoor.Pure Go.Proofs.YthkmacgjekienaaDoorW.PrintWords Go.Proofs.YthkmacgjekienaaDoorW.PrintLast Go.Proofs.YthkmacgjekienaaDoorW.PrintMore
set_option linter.unusedVariables false
set_option linter.unusedSimpArgs false
/-- an error, as it is told -/
def lst (er : Int) : Int := if er = 3 then 0 else er
/-- a reader that was told a, and the row vo of what it answered -/
structure Rs (w W : World) (g : Nat) (v vo : Value) (ts : List Tr) (bs : List (List Int)) (left : List Int) (er : Int) : Prop where
  rd : Rd w.heap.size W g v (if er = 3 then left else []) (decide (er ≠ 3))
  row : Kd.R KT 27 W w.heap.size (fun k => k ≠ g ∧ some k ≠ v.ownBlock) vo ts
  bod : Ltf W (fun k => (k ≠ g ∧ some k ≠ v.ownBlock) ∧ some k ≠ vo.ownBlock) ts bs
  be : Below w.heap.size w W
/-- behind a Write: what it answered beside it -/
structure Rb (w W : World) (g : Nat) (v vo : Value) (ts : List Tr) (bs : List (List Int)) (left : List Int) (er : Int) (A : Option Addr) (n : Nat) (tb : List Tr) (bb : List (List Int)) : Prop where
  rs : Rs w W g v vo ts bs left er
  rtb : Kd.C KT W A n tb
  rbb : Ltf W (fun k => (k ≠ g ∧ some k ≠ v.ownBlock) ∧ some k ≠ vo.ownBlock) tb bb
theorem Rs.write {w W : World} {g : Nat} {v vo : Value} {ts : List Tr} {bs : List (List Int)} {left : List Int} (h : Rs w W g v vo ts bs left 3) (A : Option Addr) (n c : Nat) (l : List Int) (hn : l.length = n) (hl : Kd.C (Kd.int .u8) W A n l) (hc : n ≤ c) (hT : TAB w)
    (hby : Byt (left ++ l)) (hsz : (left ++ l).length ≤ 140737488353792) (b2 : List (List Int)) (left2 : List Int) (er2 : Int) (hbod : bodT (left ++ l) = (b2, left2, er2)) (hcnt : b2.length ≤ 5000000000000) :
    Calls Tryd.prog 14 #[.pointer (some ⟨g, 0, none⟩), .slice A n c] W fun e w' => ∃ Ab nb cb tb v2, e = .returned (.tuple #[.slice Ab nb cb, .int .i64 (lst er2)]) ∧ nb = b2.length ∧ Rb w w' g v2 vo ts bs left2 er2 Ab nb tb b2 := by
  obtain ⟨hrd, hrow, hbo, hbe⟩ := h
  rw [if_pos rfl, decide_eq_false (by decide)] at hrd
  refine (write_walk hrd A n c l hn hl hc hT hbe hby hsz b2 left2 er2 hbod hcnt).mono ?_
  rintro e w' ⟨vb, v2, rfl, h1, h2, h3, h4, h5⟩
  obtain ⟨Ab, cb, rfl⟩ := Kd.R_slice h1
  obtain ⟨tb, k1, k2, k3⟩ := words_of h1
  have hgl := hrd.lt
  have hvo : ∀ k, vo.ownBlock = some k → k < W.heap.size := fun k hk => by
    obtain ⟨cells, hc⟩ := Kd.R_typed hrow k hk
    exact blk_lt hc
  refine ⟨Ab, _, cb, tb, v2, rfl, rfl, ⟨h2, ?_, ?_, h4⟩, k2, ?_⟩
  · refine Kd.R_mono (Kd.R_step (Kd.R_bound hrow) fun k hk hlt => h5 k hlt hk.1.1 hk.1.2) fun k hk => ⟨hk.1.1, fun e => ?_⟩
    have := h3 k e.symm
    have := hk.2.2.1
    omega
  · refine hbo.map fun A' n' x' hF => ?_
    refine Kd.F_mono (Kd.F_step (Kd.F_bound hF) fun k hk hlt => h5 k hlt hk.1.1.1 hk.1.1.2) fun k hk => ⟨⟨hk.1.1.1, fun e => ?_⟩, hk.1.2⟩
    have := h3 k e.symm
    have := hk.2
    omega
  · refine k3.map fun A' n' x' hF => Kd.F_mono hF fun k hk => ⟨⟨by have := hk.1; omega, hk.2⟩, fun e => ?_⟩
    have := hvo k e.symm
    have := hk.1
    omega
theorem Rs.writeC {w W : World} {g : Nat} {v vo : Value} {ts : List Tr} {bs : List (List Int)} {left : List Int} {er : Int} (he : er ≠ 3) (h : Rs w W g v vo ts bs left er) (A : Value) :
    Calls Tryd.prog 14 #[.pointer (some ⟨g, 0, none⟩), A] W fun e w' => e = .returned (.tuple #[.slice none 0 0, .int .i64 70]) ∧ Rb w w' g v vo ts bs left er none 0 [] [] := by
  obtain ⟨hrd, hrow, hbo, hbe⟩ := h
  have hrd2 := hrd
  rw [if_neg he, decide_eq_true he] at hrd2
  refine (write_closed hrd2 A).mono ?_
  rintro e w' ⟨rfl, hb⟩
  exact ⟨rfl, ⟨hrd.below hb, Kd.R_below hrow hb, hbo.map fun A' n' x' hF => Kd.F_below hF hb, hbe.trans (hb.mono hbe.size)⟩, ⟨rfl, by decide, fun hn => absurd hn (by decide)⟩, Ltf.nil _ _⟩
theorem Rb.append {ops : Array Oper} {rest : List Oper} {o : Oper} {a : Act} {Q : Exit → Act → World → Prop} {w W : World} {g : Nat} {v vo : Value} {ts : List Tr} {bs : List (List Int)} {left : List Int} {er : Int} {A : Option Addr} {n c : Nat} {tb : List Tr} {bb : List (List Int)} (h : Rb w W g v vo ts bs left er A n tb bb)
    (hg : o.guard = none) (s x : Operand) (ho : o.op = Op.call { callee := Callee.builtin Builtin.append, args := #[s, x], argTypes := #[22, 22] }) (k : Nat) (hs : a.eval s = vo) (hx : a.eval x = .slice A n c) (hk : (ts ++ tb).length = k) (hl : k ≤ 5000000000000)
    (hK : ∀ A1 c1 w1, Rs w w1 g v (.slice A1 k c1) (ts ++ tb) (bs ++ bb) left er → wpList Tryd.prog ops Q rest (a.put o.dst (.slice A1 k c1)) w1) : wpList Tryd.prog ops Q (o :: rest) a W := by
  obtain ⟨⟨hrd, hrow, hbo, hbe⟩, htb, hbb⟩ := h
  have hn := htb.1
  rw [List.length_append] at hk
  have hv : ∀ k, v.ownBlock = some k → k < W.heap.size := fun k hk => by
    obtain ⟨cells, hc⟩ := Kd.R_typed hrd.row k hk
    exact blk_lt hc
  have hgl := hrd.lt
  refine Kd.R_append_row encT (none, 0, 0) (w0 := w) w.heap.size hg s x 22 27 (.slice none 0 0) 24 ho Tryd.underlying22 info22 rfl (by decide) vo ts tb A n c _ hs hx (fun k hk => ⟨by omega, fun e => by have := hv k e.symm; omega⟩) hrow htb hbe hbe.size (by omega) ?_
  intro v1 w1 ho1 hb1 hg1 ha1
  have hr1 : Kd.R KT 27 w1 w.heap.size (fun k => k ≠ g ∧ some k ≠ v.ownBlock) v1 (ts ++ tb) := ho1
  obtain ⟨A1, c1, rfl⟩ := Kd.R_slice hr1
  have hk2 : (ts ++ tb).length = k := by rw [List.length_append]; exact hk
  rw [hk2] at hr1 ha1 ⊢
  refine hK A1 c1 w1 ⟨⟨blk_grown hrd.blk hg1 (Kd.R_ne hrow hrd.blk (by decide)), Kd.R_grown2 hrd.row rfl hg1 (fun j hj e => ?_), hrd.lo⟩, hr1, ?_, hb1⟩
  · exact (hrow.1 j hj).2 e
  · exact (hbo.app hbb).map fun A' n' x' hF => Kd.F_after hF hg1 ha1
end Go.Proofs.YthkmacgjekienaaDoor.P
/- reads: the walk. -/
namespace Go.Proofs.YthkmacgjekienaaDoor.P
attribute [-simp] List.length_drop List.length_take ByteArray.size_append
open Go.RowKit Go.Shelf Go.Proofs.YthkmacgjekienaaDoor.Pure Go.Proofs.YthkmacgjekienaaDoorW.PrintWords Go.Proofs.YthkmacgjekienaaDoorW.PrintLast Go.Proofs.YthkmacgjekienaaDoorW.PrintMore
set_option linter.unusedVariables false
set_option linter.unusedSimpArgs false
/-- what is left, in number -/
noncomputable def lft (a : List Int) : Nat := if (bodT a).2.2 = 3 then (bodT a).2.1.length else 0
structure In (w W : World) (g : Nat) (vo : Value) (k : Nat) (a : List Int) : Prop where
  ex : ∃ v ts bs left er, bodT a = (bs, left, er) ∧ Rs w W g v vo ts bs left er ∧ ts.length = k
structure Ib (w W : World) (g : Nat) (vo : Value) (kn : Nat) (a : List Int) (A : Option Addr) (n : Nat) : Prop where
  ex : ∃ v ts bs left er tb bb, bodT a = (bs ++ bb, left, er) ∧ Rb w W g v vo ts bs left er A n tb bb ∧ (ts ++ tb).length = kn
theorem In.count {w W : World} {g : Nat} {vo : Value} {k : Nat} {a : List Int} (h : In w W g vo k a) : k ≤ a.length := by
  obtain ⟨v, ts, bs, left, er, h1, h2, h3⟩ := h.ex
  have := bod_count a
  rw [h1] at this
  have := h2.bod.1
  simp only at *
  omega
theorem Ib.count {w W : World} {g : Nat} {vo : Value} {k n : Nat} {A : Option Addr} {a : List Int} (h : Ib w W g vo k a A n) : k ≤ a.length := by
  obtain ⟨v, ts, bs, left, er, tb, bb, h1, h2, h3⟩ := h.ex
  have := bod_count a
  rw [h1] at this
  have e1 := h2.rs.bod.1
  have e2 := h2.rbb.1
  rw [List.length_append] at h3
  simp only [List.length_append] at this
  omega
theorem In.write {w W : World} {g : Nat} {vo : Value} {k : Nat} {a : List Int} (h : In w W g vo k a) (A : Option Addr) (n c : Nat) (x : List Int) (hn : x.length = n) (hl : Kd.C (Kd.int .u8) W A n x) (hc : n ≤ c) (hT : TAB w) (hby : Byt (a ++ x)) (hsz : (a ++ x).length ≤ 5000000000000) :
    ∃ e2 : Int, ((e2 = 0 ∨ e2 = 70) ∧ lst (bodT (a ++ x)).2.2 = lst (bodT a).2.2 ∨ (e2 ≠ 0 ∧ e2 ≠ 70) ∧ lst (bodT (a ++ x)).2.2 = e2) ∧
      Calls Tryd.prog 14 #[.pointer (some ⟨g, 0, none⟩), .slice A n c] W fun e w' => ∃ Ab nb cb, e = .returned (.tuple #[.slice Ab nb cb, .int .i64 e2]) ∧ Ib w w' g vo (k + nb) (a ++ x) Ab nb := by
  obtain ⟨v, ts, bs, left, er, h1, h2, h3⟩ := h.ex
  obtain ⟨m1, m2⟩ := bod_more x a hby (by omega)
  rw [h1] at m1 m2
  simp only at m1 m2
  by_cases he : er = 3
  · subst he
    have hbl : Byt (left ++ x) ∧ (left ++ x).length ≤ (a ++ x).length := by
      have := bod_left a (fun y hy => hby y (List.mem_append_left _ hy))
      rw [h1] at this
      exact ⟨Byt.app this.1 fun y hy => hby y (List.mem_append_right _ hy), by have := this.2; simp only [List.length_append] at *; omega⟩
    obtain ⟨b2, left2, er2, hb2⟩ : ∃ b2 left2 er2, bodT (left ++ x) = (b2, left2, er2) := ⟨_, _, _, rfl⟩
    have hcnt := bod_count (left ++ x)
    have herr := bod_err (left ++ x) hbl.1 (by omega)
    rw [hb2] at hcnt herr
    simp only at hcnt herr
    have hall := m1 rfl
    rw [hb2] at hall
    simp only at hall
    refine ⟨lst er2, ?_, (h2.write A n c x hn hl hc hT hbl.1 (by omega) b2 left2 er2 hb2 (by omega)).mono ?_⟩
    · rw [hall, h1]
      simp only
      unfold lst
      rcases herr with e | e | e
      · subst e; exact .inl ⟨.inl rfl, rfl⟩
      · subst e; exact .inr (by simp)
      · subst e; exact .inr (by simp)
    · rintro e w' ⟨Ab, nb, cb, tb, v2, rfl, rfl, hrb⟩
      refine ⟨Ab, _, cb, rfl, v2, ts, bs, left2, er2, tb, b2, hall, hrb, ?_⟩
      rw [List.length_append, h3, hrb.rtb.1]
  · refine ⟨70, .inl ⟨.inr rfl, by rw [m2 he, h1]⟩, (h2.writeC he _).mono ?_⟩
    rintro e w' ⟨rfl, hrb⟩
    exact ⟨none, 0, 0, rfl, v, ts, bs, left ++ x, er, [], [], by rw [m2 he, List.append_nil], ⟨⟨by rw [if_neg he]; have := hrb.rs.rd; rwa [if_neg he] at this, hrb.rs.row, hrb.rs.bod, hrb.rs.be⟩, hrb.rtb, hrb.rbb⟩, by simpa using h3⟩
theorem Ib.append {ops : Array Oper} {rest : List Oper} {o : Oper} {a : Act} {Q : Exit → Act → World → Prop} {w W : World} {g : Nat} {vo : Value} {k n c : Nat} {A : Option Addr} {l : List Int} (h : Ib w W g vo k l A n)
    (hg : o.guard = none) (s x : Operand) (ho : o.op = Op.call { callee := Callee.builtin Builtin.append, args := #[s, x], argTypes := #[22, 22] }) (hs : a.eval s = vo) (hx : a.eval x = .slice A n c) (hl : k ≤ 5000000000000)
    (hK : ∀ A1 c1 w1, In w w1 g (.slice A1 k c1) k l → wpList Tryd.prog ops Q rest (a.put o.dst (.slice A1 k c1)) w1) : wpList Tryd.prog ops Q (o :: rest) a W := by
  obtain ⟨v, ts, bs, left, er, tb, bb, h1, h2, h3⟩ := h.ex
  exact h2.append hg s x ho k hs hx h3 hl fun A1 c1 w1 h4 => hK A1 c1 w1 ⟨v, ts ++ tb, bs ++ bb, left, er, h1, h4, h3⟩
theorem In.left {w W : World} {g : Nat} {vo : Value} {k : Nat} {a : List Int} (h : In w W g vo k a) : Calls Tryd.prog 17 #[.pointer (some ⟨g, 0, none⟩)] W fun e w' => e = .returned (.int .i64 (lft a)) ∧ W = w' := by
  obtain ⟨v, ts, bs, left, er, h1, h2, h3⟩ := h.ex
  refine (left_calls h2.rd).mono ?_
  rintro e w' ⟨h4, h5⟩
  refine ⟨?_, h5⟩
  rw [h4]
  unfold lft
  rw [h1]
  simp only
  split <;> simp
theorem In.C {w W : World} {g k c : Nat} {A : Option Addr} {a : List Int} (h : In w W g (.slice A k c) k a) : k = (bodT a).1.length ∧ k ≤ c ∧ Kd.C (Kd.slice 5 (Kd.int .u8)) W A k (bodT a).1 := by
  obtain ⟨v, ts, bs, left, er, h1, h2, h3⟩ := h.ex
  rw [h1]
  have := RT.C ⟨Kd.R_mono h2.row (fun _ _ => trivial), h2.be⟩ (fun i t x ht hx => by
    obtain ⟨k1, k2, k3⟩ := h2.bod.2 i t x ht hx
    exact ⟨k1, k2, Kd.F_now k3⟩) h2.bod.1
  obtain ⟨k1, k2, k3⟩ := this
  exact ⟨k1, k2, by rw [← k1] at k3; exact k3⟩
theorem In.be {w W : World} {g : Nat} {vo : Value} {k : Nat} {a : List Int} (h : In w W g vo k a) : Below w.heap.size w W := by
  obtain ⟨v, ts, bs, left, er, h1, h2, h3⟩ := h.ex
  exact h2.be
theorem bod_nil : bodT [] = ([], [], 3) := bod_no (hp_lit 60 (by decide +kernel)) (by decide)
theorem In.new (w : World) : In w (w.alloc (.cells #[.slice none 0 0, .bool true, .bool false] 57)) w.heap.size (.slice none 0 0) 0 [] := by
  exact ⟨.slice none 0 0, [], [], [], 3, bod_nil, ⟨⟨heap_alloc_new w _, Kd.R_nil _ _ _ _ _, Nat.le_refl _⟩, Kd.R_nil _ _ _ _ _, Ltf.nil _ _, below_alloc (Below.refl _ _) _⟩, rfl⟩
end Go.Proofs.YthkmacgjekienaaDoor.P
/- FrameBack. -/
namespace Go.Proofs.YthkmacgjekienaaDoor.P
attribute [-simp] List.length_drop List.length_take ByteArray.size_append
open Go.RowKit Go.Shelf Go.Proofs.YthkmacgjekienaaDoor.Pure Go.Proofs.YthkmacgjekienaaDoorW.PrintWords Go.Proofs.YthkmacgjekienaaDoorW.PrintLast Go.Proofs.YthkmacgjekienaaDoorW.PrintMore
attribute [local go_sem] max2_int min2_int max_two min_two
set_option linter.unusedVariables false
set_option linter.unusedSimpArgs false
theorem same_loop (l : List (List Int)) (hl : l.length ≤ 5000000000000) (hx : ∀ x ∈ l, x.length ≤ 140737488353792) (d : Nat) : ∀ i : Nat, i + d = l.length → Ev (fun k => colophonref07_Same.l0 k l l i) true := by
  induction d with
  | zero =>
    intro i hi
    refine Ev.step (fun k => ?_) (Ev.now true)
    rw [colophonref07_Same.l0, if_neg (by omega)]
  | succ d ih =>
    intro i hi
    have hil : i < l.length := by omega
    have hm : rd_L1 l (i : Int) ∈ l := by
      unfold rd_L1
      rw [Int.toNat_natCast]
      simp [List.getD, hil]
    refine Ev.step (f := fun k => _) (fun k => by rw [colophonref07_Same.l0, if_pos (by omega), if_pos (by omega), if_pos (by omega)]) ?_
    refine Ev.bind (eqb_ev _ (by have := hx _ hm; omega)) ?_
    simp only [if_true]
    rw [show wrap64 ((i : Int) + 1) = ((i + 1 : Nat) : Int) by unfold wrap64; omega]
    exact ih (i + 1) (by omega)
theorem same_ev (l : List (List Int)) (hl : l.length ≤ 5000000000000) (hx : ∀ x ∈ l, x.length ≤ 140737488353792) : Ev (fun k => colophonref07_Same.f k l l) true := by
  refine Ev.congr (fun k => by unfold colophonref07_Same.f; rw [if_pos rfl]) ?_
  exact same_loop l hl hx l.length 0 (by omega)
theorem same_calls {w : World} {A1 A2 : Option Addr} {n c1 c2 : Nat} {l : List (List Int)} (hn : l.length = n) (hl : n ≤ 5000000000000) (hx : ∀ x ∈ l, x.length ≤ 140737488353792) (h1 : Kd.C (Kd.slice 5 (Kd.int .u8)) w A1 n l) (hc1 : n ≤ c1) (h2 : Kd.C (Kd.slice 5 (Kd.int .u8)) w A2 n l) (hc2 : n ≤ c2) :
    Calls Tryd.prog 16 #[.slice A1 n c1, .slice A2 n c2] w fun e w' => e = .returned (.bool true) ∧ ∃ m, w' = w.drewN m := by
  subst hn
  obtain ⟨k, hk⟩ := (same_ev l hl hx).rounds
  refine (colophonref07_Same.calls k A1 c1 l A2 c2 l true w h1 hc1 h2 hc2 hk).mono ?_
  rintro e w' ⟨h3, ⟨h4⟩⟩
  exact ⟨h3, h4⟩
/-- a row of bytes of one's own, and one of words -/
structure Bw (w W : World) (vb vw : Value) (X : List Int) (ts : List Tr) : Prop where
  row : Kd.R (Kd.int .u8) 5 W w.heap.size (fun _ => True) vb X
  rt : RT w W vw ts
theorem Bw.new (w : World) : Bw w w (.slice none 0 0) (.slice none 0 0) [] [] := ⟨Kd.R_nil _ _ _ _ _, RT.new w⟩
theorem Bw.below {w W W1 : World} {vb vw : Value} {X : List Int} {ts : List Tr} (h : Bw w W vb vw X ts) (hb : Below W.heap.size W W1) : Bw w W1 vb vw X ts := ⟨Kd.R_below h.row hb, h.rt.below hb⟩
section
variable {ops : Array Oper} {rest : List Oper} {o : Oper} {a : Act} {Q : Exit → Act → World → Prop} {w W : World} {vb vw : Value} {X : List Int} {ts : List Tr}
theorem Bw.app (HB : Bw w W vb vw X ts) (hg : o.guard = none) (s x : Operand) (ho : o.op = Op.call { callee := Callee.builtin Builtin.append, args := #[s, x], argTypes := #[27, 27] }) (l : List Int) (A : Option Addr) (m c k : Nat) (hs : a.eval s = vb) (hx : a.eval x = .slice A m c) (hA : Kd.C (Kd.int .u8) W A m l) (hm : l.length = m) (hk : (X ++ l).length = k) (hl : k ≤ 140737488355328)
    (h : ∀ A2 c2 w1, Bw w w1 (.slice A2 k c2) vw (X ++ l) ts → wpList Tryd.prog ops Q rest (a.put o.dst (.slice A2 k c2)) w1) : wpList Tryd.prog ops Q (o :: rest) a W := by
  subst hk hm
  refine Kd.R_append_row (Value.int .u8) 0 (w0 := w) w.heap.size hg s x 27 5 (.int .u8 0) 1 ho Tryd.underlying27 info5 rfl (by decide) vb X l A _ c (fun _ => True) hs hx (fun _ _ => trivial) HB.row hA HB.rt.be HB.rt.be.size (by rw [List.length_append] at hl; omega) ?_
  intro v1 w1 ho1 hb1 hg1 ha1
  obtain ⟨A2, c2, rfl⟩ := Kd.R_slice ho1
  refine h A2 c2 w1 ⟨ho1, Kd.R_grown2 HB.rt.row rfl hg1 (fun k hk e => ?_), hb1⟩
  obtain ⟨_, e1⟩ := Kd.R_typed HB.row k hk
  obtain ⟨_, e2⟩ := Kd.R_typed HB.rt.row k e.symm
  rw [e1] at e2; cases e2
end
theorem Lts.C {w W : World} {A : Option Addr} {n c : Nat} {ts : List Tr} {ps : List (List Int)} (h : Lts w ts ps) (hr : RT w W (.slice A n c) ts) : n = ps.length ∧ n ≤ c ∧ Kd.C (Kd.slice 5 (Kd.int .u8)) W A n ps := by
  obtain ⟨k1, k2, k3⟩ := hr.C (fun i t x ht hx => by
    obtain ⟨a1, a2, a3⟩ := h.2 i t x ht hx
    exact ⟨a1, a2, a3 W hr.be⟩) h.1
  exact ⟨k1, k2, by rw [← k1] at k3; exact k3⟩
end Go.Proofs.YthkmacgjekienaaDoor.P
/- FrameBack: the walk. -/
namespace Go.Proofs.YthkmacgjekienaaDoor.P
attribute [-simp] List.length_drop List.length_take ByteArray.size_append
open Go.RowKit Go.Shelf Go.Proofs.YthkmacgjekienaaDoor.Pure Go.Proofs.YthkmacgjekienaaDoorW.PrintWords Go.Proofs.YthkmacgjekienaaDoorW.PrintLast Go.Proofs.YthkmacgjekienaaDoorW.PrintMore
attribute [local go_sem] max2_int min2_int max_two min_two
set_option linter.unusedVariables false
set_option linter.unusedSimpArgs false
/-- between two rounds -/
structure Bk2 (w W : World) (l : List (List Int)) (q : Nat) (Ab : Option Addr) (k cb : Nat) (Aw : Option Addr) (cw : Nat) : Prop where
  ex : ∃ ts, Bw w W (.slice Ab k cb) (.slice Aw q cw) (frs 500 (l.take q)) ts ∧ Lts w ts ((l.take q).map (List.take 500)) ∧ ts.length = q
  len : k = (frs 500 (l.take q)).length
end Go.Proofs.YthkmacgjekienaaDoor.P
/- FramePieces. -/
namespace Go.Proofs.YthkmacgjekienaaDoor.P
attribute [-simp] List.length_drop List.length_take ByteArray.size_append
open Go.RowKit Go.Shelf Go.Proofs.YthkmacgjekienaaDoor.Pure Go.Proofs.YthkmacgjekienaaDoorW.PrintWords Go.Proofs.YthkmacgjekienaaDoorW.PrintLast Go.Proofs.YthkmacgjekienaaDoorW.PrintMore
set_option linter.unusedVariables false
set_option linter.unusedSimpArgs false
attribute [local go_sem] Oper.semAt_some
theorem bod_mem (l : List Int) : ∀ x ∈ (bodT l).1, x.length ≤ l.length := by
  refine bod_ind (p := fun l => ∀ x ∈ (bodT l).1, x.length ≤ l.length) (fun l ho ih => ?_) (fun l ho => ?_) l
  · rw [bodT_ok ho]
    intro x hx
    rcases List.mem_cons.1 hx with rfl | hx
    · unfold body1
      rw [List.length_drop, List.length_take]
      omega
    · have := ih x hx
      have := rest1_lt ho
      omega
  · rw [bodT_no ho]; intro x hx; cases hx
theorem CI.below {w0 wS : World} {bo : Nat} {pre : List (Value × List Int)} {W : World} (h : CI w0 wS bo pre W) (hb : bo ≤ wS.heap.size) : Below bo wS W := ⟨h.be.os, h.be.tape, h.be.output, h.be.size, fun k hk => h.kp k (by omega) (by omega)⟩
theorem eqIn_func {P : Program} (w : World) (d : Nat) (t : TypeId) {a1 a2 a3 : _} (h : P.underlying t = some (.func a1 a2 a3)) (f : Fn) (a b : Array Value) : (Op.equalIn (d + 1) t (.func f a b) .nilFunc).run P w = .ok false w := by
  rw [Op.equalIn, Sem.run_bind, run_underlying h]
  rfl
theorem eql_func {P : Program} (w : World) (t : TypeId) {a1 a2 a3 : _} (h : P.underlying t = some (.func a1 a2 a3)) (f : Fn) (a b : Array Value) : (binOp .eql t (.func f a b) .nilFunc).run P w = .ok (.bool false) w := by
  simp only [binOp]
  simp [Op.equal, Op.maxDepth, eqIn_func w 9999 t h f a b]
theorem func_nil (w : World) (f : Fn) (a b : Array Value) : (binOp .eql 43 (.func f a b) .nilFunc).run Tryd.prog w = .ok (.bool false) w := eql_func w 43 Tryd.underlying43 f a b
end Go.Proofs.YthkmacgjekienaaDoor.P
