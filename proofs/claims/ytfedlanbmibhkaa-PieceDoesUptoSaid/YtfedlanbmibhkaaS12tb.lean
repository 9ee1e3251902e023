/- A law's tables: what lies at or above where the law began. -/
import Derived.Test.YtfedlanbmibhkaaSIb
namespace Go.Proofs.Ytfedlanbmibhkaa.P
open Go.RowKit Go.Shelf Go.Proofs.YtfedlanbmibhkaaW.PrintWords Go.Proofs.YtfedlanbmibhkaaW.PrintLast Go.Proofs.YtfedlanbmibhkaaW.PrintMore
set_option linter.unusedVariables false
set_option linter.unusedSimpArgs false
/-- a table of the law that began in w0 -/
structure TT_b (w0 w : World) (t : Nat) (v : Value) (ps : List (List Int)) : Prop where
  tab : Tab_b w0.heap.size w t (fun _ => True) v ps
  be : Below w0.heap.size w0 w
theorem TT_b.step {w0 w w' : World} {t : Nat} {v : Value} {ps : List (List Int)} (h : TT_b w0 w t v ps) (hb : Below w.heap.size w w') : TT_b w0 w' t v ps :=
  ⟨h.tab.below hb, h.be.trans (hb.mono h.be.size)⟩


theorem Tab_b.sharp {B : Nat} {w : World} {t : Nat} {C : Nat → Prop} {v : Value} {ps : List (List Int)} (h : Tab_b B w t C v ps) : Tab_b B w t (fun g => C g ∧ ∃ cs, w.heap[g]? = some (.cells cs 5 (0, 0))) v ps := by
  obtain ⟨vs, ho, hr⟩ := h.row
  refine ⟨h.lo, h.box, ⟨vs, ho, hr.imp fun u p hb => ?_⟩, h.full⟩
  obtain ⟨g, o, c, cs, e, hc, hb, h1, h2, h3⟩ := hb
  exact ⟨g, o, c, cs, e, ⟨hc, cs, hb⟩, hb, h1, h2, h3⟩
theorem TT_b.rowAt {w0 w : World} {t : Nat} {v : Value} {ps : List (List Int)} (h : TT_b w0 w t v ps) : ∀ b, v.ownBlock = some b → ∃ cs, w.heap[b]? = some (.cells cs 22 (0, 0)) := fun b hb => by
  obtain ⟨vs, ho, -⟩ := h.tab.row
  rcases own_rowAt ho with ⟨rfl, h0, rfl⟩ | ⟨g, cap, cur, rfl, hR⟩
  · cases hb
  · cases hb; exact ⟨_, hR.blk⟩
theorem TT_b.other {w0 w w' : World} {t1 t2 : Nat} {v1 v2 : Value} {ps1 ps2 : List (List Int)} (h1 : TT_b w0 w t1 v1 ps1) (h2 : TT_b w0 w t2 v2 ps2) (ha : t1 ≠ t2 ∧ ∀ b, v1.ownBlock = some b → v2.ownBlock ≠ some b) (e : Eff_b t1 v1.ownBlock w w') : TT_b w0 w' t2 v2 ps2 := by
  refine ⟨((h2.tab.sharp).move fun g hg hx => ?_).weaken fun _ _ => trivial, e.to_below h1.tab.lo (fun b hb => (h1.tab.ownB b hb).1) h1.be h1.be.size⟩
  have b1 := h1.tab.box
  have b2 := h2.tab.box
  refine e.blk g hg ?_ ?_
  · rintro rfl
    rcases hx with e | e | ⟨-, cs, e⟩
    · exact ha.1 e
    · obtain ⟨cs, e⟩ := h2.rowAt _ e; rw [b1] at e; cases e
    · rw [b1] at e; cases e
  · intro eg
    obtain ⟨cs1, e1⟩ := h1.rowAt g eg.symm
    rcases hx with e | e | ⟨-, cs, e⟩
    · subst e; rw [b2] at e1; cases e1
    · exact ha.2 g eg.symm e
    · rw [e1] at e; cases e
theorem TT_b.lt {w0 w : World} {t : Nat} {v : Value} {ps : List (List Int)} (h : TT_b w0 w t v ps) : t < w.heap.size := blk_lt h.tab.box
/-- New -/
theorem TT_b.new {w0 w : World} (hb : Below w0.heap.size w0 w) (A : Option Addr) (c : Nat) (xs : List Int) (hr : Kd.C (Kd.int .u8) w A xs.length xs) (hx : xs.length * 1 ≤ 140737488355328) :
    Calls Try.prog 13 #[.slice A xs.length c] w fun e w' => ∃ t v, e = .returned (.pointer (some ⟨t, 0, none⟩)) ∧ TT_b w0 w' t v (newS xs) ∧ Below w.heap.size w w' ∧ w.heap.size ≤ t ∧ ∀ b, v.ownBlock = some b → w.heap.size ≤ b :=
  (new_calls_b A c xs hr hx hb.size).mono fun e w' ⟨t, v, e1, h1, h2, h3, h4⟩ => ⟨t, v, e1, ⟨h1.weaken fun _ _ => trivial, hb.trans (h2.mono hb.size)⟩, h2, h3, h4⟩
theorem TT_b.newI {w0 w : World} (hb : Below w0.heap.size w0 w) (A : Option Addr) (c n : Nat) (xs : List Int) (he : xs.length = n) (hr : Kd.C (Kd.int .u8) w A n xs) (hx : xs.length * 1 ≤ 140737488355328) :
    Calls Try.prog 13 #[.slice A n c] w fun e w' => ∃ t v, e = .returned (.pointer (some ⟨t, 0, none⟩)) ∧ TT_b w0 w' t v (newS xs) ∧ Below w.heap.size w w' ∧ w.heap.size ≤ t ∧ ∀ b, v.ownBlock = some b → w.heap.size ≤ b := by
  subst he; exact TT_b.new hb A c xs hr hx
/-- Replace -/
theorem TT_b.rep {w0 w : World} {t : Nat} {v : Value} {ps : List (List Int)} (h : TT_b w0 w t v ps) (f k : Nat) (hfk : f ≤ k) (hk : k ≤ ps.flatten.length) (hs : ps.flatten.length ≤ 4611686018427387904) (hn : ps.length ≤ 900000)
    (A : Option Addr) (c : Nat) (xs : List Int) (hr : Kd.C (Kd.int .u8) w A xs.length xs) (hx : xs.length * 1 ≤ 140737488355328) (hA : 0 < xs.length → ∀ ad, A = some ad → ad.block ≠ t ∧ some ad.block ≠ v.ownBlock) :
    Calls Try.prog 19 #[.pointer (some ⟨t, 0, none⟩), .int .i64 f, .int .i64 k, .slice A xs.length c] w fun e w' => e = .returned (.int .i64 0) ∧ ∃ v', TT_b w0 w' t v' (replS ps f k xs) ∧ Eff_b t v.ownBlock w w' ∧ (v'.ownBlock = v.ownBlock ∨ ∃ b, v'.ownBlock = some b ∧ w.heap.size ≤ b) :=
  (replace_calls_b h.tab f k hfk hk hs hn A c xs hr hx hA h.be.size).mono fun e w' ⟨e1, v', h1, h2, h3⟩ => ⟨e1, v', ⟨h1.weaken fun _ _ => trivial, h2.to_below h.tab.lo (fun b hb => (h.tab.ownB b hb).1) h.be h.be.size⟩, h2, h3⟩
theorem nums_len_b {w : World} {B n : Nat} {v : Value} {xs : List Int} (h : w.ownsRow B 5 1 v n (nums .u8 xs)) : xs.length = n := by
  have := h.1; simpa [nums] using this
theorem own_C_b {w : World} {B : Nat} {v : Value} {xs : List Int} (h : w.ownsRow B 5 1 v xs.length (nums .u8 xs)) : ∃ A c, v = .slice A xs.length c ∧ Kd.C (Kd.int .u8) w A xs.length xs ∧ ∀ ad, A = some ad → B ≤ ad.block := by
  obtain ⟨A, c, rfl, hr⟩ := own_reads h
  refine ⟨A, c, rfl, Kd.C_of_reads hr, fun ad e => own_base h _ ?_⟩
  subst e; rfl
/-- Slice -/
theorem TT_b.slice {w0 w : World} {t : Nat} {v : Value} {ps : List (List Int)} (h : TT_b w0 w t v ps) (f k : Nat) (hfk : f ≤ k) (hk : k ≤ ps.flatten.length) (hs : ps.flatten.length * 1 ≤ 140737488355328) (xs : List Int) (hx : (ps.flatten.take k).drop f = xs) :
    Calls Try.prog 22 #[.pointer (some ⟨t, 0, none⟩), .int .i64 f, .int .i64 k] w fun e w' => ∃ A c, e = .returned (.tuple #[.slice A xs.length c, .int .i64 0]) ∧ w'.ownsRow w.heap.size 5 1 (.slice A xs.length c) xs.length (nums .u8 xs) ∧ Below w.heap.size w w' := by
  subst hx
  refine (slice_calls_b h.tab f k hfk hk hs).mono ?_
  rintro e w' ⟨v', rfl, h1, h2⟩
  obtain ⟨A, c, rfl⟩ := own_slice h1
  exact ⟨A, c, rfl, h1, h2⟩
--b
theorem TT_b.snap {w0 w : World} {t : Nat} {v : Value} {ps : List (List Int)} (h : TT_b w0 w t v ps) (hn : ps.length ≤ 1000000) :
    Calls Try.prog 17 #[.pointer (some ⟨t, 0, none⟩)] w fun e w' => ∃ t' v', e = .returned (.pointer (some ⟨t', 0, none⟩)) ∧ TT_b w0 w' t' v' ps ∧ Below w.heap.size w w' ∧ w.heap.size ≤ t' ∧ ∀ b, v'.ownBlock = some b → w.heap.size ≤ b :=
  (snap_calls_b h.tab hn h.be.size).mono fun e w' ⟨t', v', e1, h1, h2, h3, h4⟩ => ⟨t', v', e1, ⟨h1.weaken fun _ _ => trivial, h.be.trans (h2.mono h.be.size)⟩, h2, h3, h4⟩
--end
theorem blk_cellf_b {w : World} {b : Nat} {cs : Array Value} {t : TypeId} {fr : Nat × Nat} (h : w.heap[b]? = some (.cells cs t fr)) (j : Nat) : w.cell? ⟨b, j, none⟩ = cs[j]? := by
  simp [World.cell?, h]
/-- a row that was written out -/
theorem C_lit_b {w : World} {g : Nat} {xs : List Int} {cs : Array Value} {fr : Nat × Nat} (hb : w.heap[g]? = some (.cells cs 5 fr)) (hl : xs.length ≤ 9223372036854775807) (hc : ∀ (j : Nat) (x : Int), xs[j]? = some x → cs[j]? = some (Value.int .u8 x)) : Kd.C (Kd.int .u8) w (some ⟨g, 0, none⟩) xs.length xs := by
  refine ⟨rfl, hl, fun hp => ⟨⟨g, 0, none⟩, rfl, fun j x hx => ⟨[.int .u8 x], rfl, rfl, fun i u hu => ?_⟩⟩⟩
  cases i with
  | zero => cases hu; show w.cell? ((⟨g, 0, none⟩ : Addr).add (j * 1 + 0)) = _; rw [Nat.mul_one, Nat.add_zero, add_at, blk_cellf_b hb, Nat.zero_add]; exact hc j x hx
  | succ i => cases hu
theorem C_nil_b (w : World) (A : Option Addr) : Kd.C (Kd.int .u8) w A ([] : List Int).length [] := ⟨rfl, by simp, fun h => absurd h (by simp)⟩
theorem C_lt_b {w : World} {A : Option Addr} {n : Nat} {xs : List Int} (h : Kd.C (Kd.int .u8) w A n xs) (h0 : 0 < n) : ∀ ad, A = some ad → ad.block < w.heap.size := fun ad e => by
  obtain ⟨h1, h2, h3⟩ := h
  obtain ⟨ad', e', h4⟩ := h3 h0
  rw [e] at e'; cases e'
  obtain ⟨x, hx⟩ := getElem_lt (show 0 < xs.length by omega)
  obtain ⟨c, hc1, hc2, hc3⟩ := h4 0 x hx
  cases c with
  | nil => cases hc2
  | cons u r => have := World.block_lt_of_cell? w _ (hc3 0 u rfl); rwa [add_block] at this
theorem TT_b.fresh {w0 w : World} {t : Nat} {v : Value} {ps : List (List Int)} (h : TT_b w0 w t v ps) {b : Nat} (hb : w.heap.size ≤ b) : b ≠ t ∧ some b ≠ v.ownBlock :=
  ⟨fun e => by have := h.lt; omega, fun e => by have := (h.tab.ownB b e.symm).2.1; omega⟩
theorem TT_b.old {w0 w : World} {t : Nat} {v : Value} {ps : List (List Int)} (h : TT_b w0 w t v ps) {b : Nat} (hb : b < w0.heap.size) : b ≠ t ∧ some b ≠ v.ownBlock :=
  ⟨fun e => by have := h.tab.lo; omega, fun e => by have := (h.tab.ownB b e.symm).1; omega⟩
theorem TT_b.repI {w0 w : World} {t : Nat} {v : Value} {ps : List (List Int)} (h : TT_b w0 w t v ps) (F K : Int) (f k : Nat) (hF : F = (f : Int)) (hK : K = (k : Int)) (hfk : f ≤ k) (hk : k ≤ ps.flatten.length) (hs : ps.flatten.length ≤ 4611686018427387904) (hn : ps.length ≤ 900000)
    (A : Option Addr) (c : Nat) (n : Nat) (xs : List Int) (he : xs.length = n) (hr : Kd.C (Kd.int .u8) w A n xs) (hx : xs.length * 1 ≤ 140737488355328) (hA : 0 < xs.length → ∀ ad, A = some ad → ad.block ≠ t ∧ some ad.block ≠ v.ownBlock) (qs : List (List Int)) (hq : replS ps f k xs = qs) :
    Calls Try.prog 19 #[.pointer (some ⟨t, 0, none⟩), .int .i64 F, .int .i64 K, .slice A n c] w fun e w' => e = .returned (.int .i64 0) ∧ ∃ v', TT_b w0 w' t v' qs ∧ Eff_b t v.ownBlock w w' ∧ (v'.ownBlock = v.ownBlock ∨ ∃ b, v'.ownBlock = some b ∧ w.heap.size ≤ b) := by
  subst hF hK he hq; exact h.rep f k hfk hk hs hn A c xs hr hx hA
theorem TT_b.sliceI {w0 w : World} {t : Nat} {v : Value} {ps : List (List Int)} (h : TT_b w0 w t v ps) (F K : Int) (f k : Nat) (hF : F = (f : Int)) (hK : K = (k : Int)) (hfk : f ≤ k) (hk : k ≤ ps.flatten.length) (hs : ps.flatten.length * 1 ≤ 140737488355328) (n : Nat) (xs : List Int) (hx : (ps.flatten.take k).drop f = xs) (hn : xs.length = n) :
    Calls Try.prog 22 #[.pointer (some ⟨t, 0, none⟩), .int .i64 F, .int .i64 K] w fun e w' => ∃ A c, e = .returned (.tuple #[.slice A n c, .int .i64 0]) ∧ w'.ownsRow w.heap.size 5 1 (.slice A n c) n (nums .u8 xs) ∧ Below w.heap.size w w' := by
  subst hF hK hn; exact h.slice f k hfk hk hs xs hx
theorem TT_b.len {w0 w : World} {t : Nat} {v : Value} {ps : List (List Int)} (h : TT_b w0 w t v ps) (hs : ps.flatten.length ≤ 4611686018427387904) (N : Nat) (hN : ps.flatten.length = N) : Calls Try.prog 25 #[.pointer (some ⟨t, 0, none⟩)] w fun e w' => e = .returned (.int .i64 (N : Int)) ∧ w = w' := len_calls_b h.tab hs N hN
--b
theorem TT_b.pcs {w0 w : World} {t : Nat} {v : Value} {ps : List (List Int)} (h : TT_b w0 w t v ps) : Calls Try.prog 26 #[.pointer (some ⟨t, 0, none⟩)] w fun e w' => e = .returned (.int .i64 (ps.length : Int)) ∧ w = w' := pieces_calls_b h.tab
--end
end Go.Proofs.Ytfedlanbmibhkaa.P
