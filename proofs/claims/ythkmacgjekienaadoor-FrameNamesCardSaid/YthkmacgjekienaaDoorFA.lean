/- A reader in memory; what is asked of it; a copy of bytes. -/
import Derived.Test.YthkmacgjekienaaDoorP1
import Derived.Lib.SliceRun
import Derived.Test.YthkmacgjekienaaDoorFS
import Derived.Test.YthkmacgjekienaaDoorR
import Derived.RangeFuncBound
import Derived.RangeFuncCalls
import Derived.RangeFuncLeaves
import Derived.Shelf.Abstract
import Derived.Shelf.RegionOpen
import Derived.OwnWalkIn
import Derived.TacticsInMore
import Derived.LoopNIn
import Derived.LoopIn
import Derived.RangeFuncBox
namespace Go.Proofs.YthkmacgjekienaaDoor.P
attribute [-simp] List.length_drop List.length_take ByteArray.size_append
open Go.RowKit Go.Proofs.YthkmacgjekienaaDoorW.PrintWords Go.Proofs.YthkmacgjekienaaDoorW.PrintLast Go.Proofs.YthkmacgjekienaaDoorW.PrintMore
set_option linter.unusedVariables false
set_option linter.unusedSimpArgs false
/-- the program's reader: block g; its bytes lie in a row of its own -/
structure Rd (lo : Nat) (w : World) (g : Nat) (v : Value) (B : List Int) (cl : Bool) : Prop where
  blk : w.heap[g]? = some (.cells #[v, .bool true, .bool cl] 57 (0, 0))
  row : Kd.R (Kd.int .u8) 5 w lo (fun _ => True) v B
  lo : lo ≤ g
theorem Rd.c1 {lo : Nat} {w : World} {g : Nat} {v : Value} {B : List Int} {cl : Bool} (h : Rd lo w g v B cl) : w.cell? ⟨g, 1, none⟩ = some (.bool true) := (blk_cell h.blk 1).trans rfl
theorem Rd.c2 {lo : Nat} {w : World} {g : Nat} {v : Value} {B : List Int} {cl : Bool} (h : Rd lo w g v B cl) : w.cell? ⟨g, 2, none⟩ = some (.bool cl) := (blk_cell h.blk 2).trans rfl
theorem Rd.c0 {lo : Nat} {w : World} {g : Nat} {v : Value} {B : List Int} {cl : Bool} (h : Rd lo w g v B cl) : w.cell? ⟨g, 0, none⟩ = some v := (blk_cell h.blk 0).trans rfl
theorem Rd.lt {lo : Nat} {w : World} {g : Nat} {v : Value} {B : List Int} {cl : Bool} (h : Rd lo w g v B cl) : g < w.heap.size := blk_lt h.blk
theorem Rd.below {lo : Nat} {w w' : World} {g : Nat} {v : Value} {B : List Int} {cl : Bool} (h : Rd lo w g v B cl) (hb : Below w.heap.size w w') : Rd lo w' g v B cl :=
  ⟨(hb.block g h.lt).trans h.blk, Kd.R_below h.row hb, h.lo⟩
theorem none_calls {w : World} {g : Nat} (h : w.cell? ⟨g, 1, none⟩ = some (.bool true)) : Calls Tryd.prog 29 #[.pointer (some ⟨g, 0, none⟩)] w fun e w' => e = .returned (.bool false) ∧ w = w' := by
  go_enter Tryd.func29, Tryd.ntmps29
  go_wp2
  go_ret
  exact ⟨rfl, rfl⟩
theorem none_nil (w : World) : Calls Tryd.prog 29 #[.pointer none] w fun e w' => e = .returned (.bool true) ∧ w = w' := by
  go_enter Tryd.func29, Tryd.ntmps29
  go_wp2
  go_ret
  exact ⟨rfl, rfl⟩
theorem none_un {w : World} {g : Nat} (h : w.cell? ⟨g, 1, none⟩ = some (.bool false)) : Calls Tryd.prog 29 #[.pointer (some ⟨g, 0, none⟩)] w fun e w' => e = .returned (.bool true) ∧ w = w' := by
  go_enter Tryd.func29, Tryd.ntmps29
  go_wp2
  go_ret
  exact ⟨rfl, rfl⟩
theorem left_calls {lo : Nat} {w : World} {g : Nat} {v : Value} {B : List Int} {cl : Bool} (h : Rd lo w g v B cl) : Calls Tryd.prog 17 #[.pointer (some ⟨g, 0, none⟩)] w fun e w' => e = .returned (.int .i64 B.length) ∧ w = w' := by
  have h1 := h.c1
  have h0 := h.c0
  obtain ⟨A, c, rfl⟩ := Kd.R_slice h.row
  clear h
  go_enter Tryd.func17, Tryd.ntmps17
  go_wp2_with (go_at_call 29; (with_reducible refine (none_calls h1).mono ?_); rintro e w' ⟨rfl, rfl⟩)
  go_ret
  exact ⟨rfl, rfl⟩
theorem closed_calls {lo : Nat} {w : World} {g : Nat} {v : Value} {B : List Int} {cl : Bool} (h : Rd lo w g v B cl) : Calls Tryd.prog 19 #[.pointer (some ⟨g, 0, none⟩)] w fun e w' => e = .returned (.bool cl) ∧ w = w' := by
  have h1 := h.c1
  have h2 := h.c2
  clear h
  go_enter Tryd.func19, Tryd.ntmps19
  go_wp2_with (go_at_call 29; (with_reducible refine (none_calls h1).mono ?_); rintro e w' ⟨rfl, rfl⟩)
  go_ret
  exact ⟨rfl, rfl⟩
set_option maxRecDepth 100000 in
set_option maxHeartbeats 2000000 in
/-- slices.Clone -/
theorem clone_calls (A : Option Addr) (c n : Nat) (l : List Int) (w : World) (hn : l.length = n) (hr : Kd.C (Kd.int .u8) w A n l) (hc : n ≤ c) (hl : n ≤ 140737488353792) :
    Calls Tryd.prog 31 #[.slice A n c] w fun e w' => ∃ v, e = .returned v ∧ Kd.R (Kd.int .u8) 5 w' w.heap.size (fun k => w.heap.size ≤ k) v l ∧ Below w.heap.size w w' := by
  subst hn
  have hu : ∀ (w : World) (a : Option Addr) (n c n' c' : Nat), (binOp .eql 27 (.slice a n c) (.slice none n' c')).run Tryd.prog w = .ok (.bool a.isNone) w := fun w a n c n' c' => Lib.run_eql_slice_nil w _ _ a n c n' c' Tryd.underlying27
  have HR := Aside0.mk hr
  cases A with
  | none =>
    have h0 : l.length = 0 := by
      rcases Nat.eq_zero_or_pos l.length with h | h
      · exact h
      · obtain ⟨ad, e, _⟩ := hr.2.2 h; cases e
    obtain rfl := List.eq_nil_of_length_eq_zero h0
    clear hr HR
    go_enter Tryd.func31, Tryd.ntmps31
    go_wp2
    go_ret
    exact ⟨_, rfl, Kd.R_nil _ _ _ _ _, Below.refl _ _⟩
  | some ad =>
    have HO : Aside0 (Kd.R (Kd.int .u8) 5 (w.alloc (.cells #[] 5)) w.heap.size (fun k => w.heap.size ≤ k) (.slice (some ⟨w.heap.size, 0, none⟩) 0 0) ([] : List Int)) :=
      ⟨Kd.R_of_own (World.ownsRow_made w #[] 0 (Nat.le_refl _) (Nat.zero_le _) (by simp)) (fun k hk => by cases hk; exact Nat.le_refl _)⟩
    have HL := Aside0.mk hl
    clear hr hl
    go_enter Tryd.func31, Tryd.ntmps31
    go_wp2_with (at_builtin; refine Kd.R_append_row (Value.int .u8) 0 (w0 := w) w.heap.size rfl _ _ 27 5 (.int .u8 0) 1 rfl Tryd.underlying27 info5 rfl (by decide) _ _ l _ _ _ (fun k => w.heap.size ≤ k) rfl rfl (fun k hk => Nat.le_trans (Nat.le_succ _) (by simpa using hk)) HO.out (Kd.C_alloc HR.out _) (below_alloc (Below.refl _ w) _) (by simp) (by have := HL.out; simp; omega) ?_; intro v1 w1 ho1 hb1 hg1 ha1)
    go_ret
    exact ⟨_, rfl, ho1, hb1⟩
end Go.Proofs.YthkmacgjekienaaDoor.P
/- The function that ranges over the bodies: what it is. -/
namespace Go.Proofs.YthkmacgjekienaaDoor.P
attribute [-simp] List.length_drop List.length_take ByteArray.size_append
open Go.RowKit Go.Proofs.YthkmacgjekienaaDoorW.PrintWords Go.Proofs.YthkmacgjekienaaDoorW.PrintLast Go.Proofs.YthkmacgjekienaaDoorW.PrintMore
set_option linter.unusedVariables false
set_option linter.unusedSimpArgs false
theorem all_calls (A : Option Addr) (n c : Nat) (w : World) : Calls Tryd.prog 24 #[.slice A n c] w fun e w' => e = .returned (.func (.func 34) #[] #[.pointer (some ⟨w.heap.size, 0, none⟩)]) ∧ w' = w.alloc (.cells #[.slice A n c] 27) := by
  go_enter Tryd.func24, Tryd.ntmps24
  go_wp2
  go_ret
  exact ⟨rfl, rfl⟩
end Go.Proofs.YthkmacgjekienaaDoor.P
/- frame.first: the frame that bytes begin with. -/
namespace Go.Proofs.YthkmacgjekienaaDoor.P
attribute [-simp] List.length_drop List.length_take ByteArray.size_append
open Go.RowKit Go.Proofs.YthkmacgjekienaaDoor.Pure Go.Proofs.YthkmacgjekienaaDoorW.PrintWords Go.Proofs.YthkmacgjekienaaDoorW.PrintLast Go.Proofs.YthkmacgjekienaaDoorW.PrintMore
set_option linter.unusedVariables false
set_option linter.unusedSimpArgs false
/-- a slice that is read, all of whose bytes lie in block g -/
structure Vw (g : Nat) (W : World) (A : Option Addr) (n c : Nat) (l : List Int) : Prop where
  len : l.length = n
  C : Kd.C (Kd.int .u8) W A n l
  cap : n ≤ c
  blk : 0 < n → ∀ ad, A = some ad → ad.block = g
theorem C_cell {w : World} {ad : Addr} {n : Nat} {l : List Int} (h : Kd.C (Kd.int .u8) w (some ad) n l) (j : Nat) (x : Int) (hx : l[j]? = some x) : w.cell? (ad.add j) = some (.int .u8 x) := by
  obtain ⟨h1, h2, h3⟩ := h
  have hl : 0 < n := by have := (List.getElem?_eq_some_iff.1 hx).1; omega
  obtain ⟨ad', e, h4⟩ := h3 hl
  cases e
  obtain ⟨cs, hk, hl2, hc⟩ := h4 j x hx
  have hk' : cs = [.int .u8 x] := hl2
  subst hk'
  have := hc 0 _ rfl
  simpa [show (Kd.int .u8).sz = 1 from rfl] using this
theorem C_of_cells {w : World} {ad : Addr} {l : List Int} (hl : l.length ≤ 9223372036854775807) (hc : ∀ (j : Nat) (x : Int), l[j]? = some x → w.cell? (ad.add j) = some (.int .u8 x)) : Kd.C (Kd.int .u8) w (some ad) l.length l := by
  refine ⟨rfl, hl, fun hp => ⟨ad, rfl, fun j x hx => ⟨[.int .u8 x], rfl, rfl, fun i u hu => ?_⟩⟩⟩
  cases i with
  | zero => cases hu; show w.cell? (ad.add (j * 1 + 0)) = _; rw [Nat.mul_one, Nat.add_zero]; exact hc j x hx
  | succ i => cases hu
theorem C_empty (w : World) (A : Option Addr) : Kd.C (Kd.int .u8) w A 0 ([] : List Int) := ⟨rfl, by decide, fun h => absurd h (by decide)⟩
theorem C_max {w : World} {A : Option Addr} {n : Nat} {l : List Int} (h : Kd.C (Kd.int .u8) w A n l) : n ≤ 9223372036854775807 := h.2.1
theorem Vw.move {g : Nat} {W W' : World} {A : Option Addr} {n c : Nat} {l : List Int} (h : Vw g W A n c l) (hg : g < W.heap.size → W'.heap[g]? = W.heap[g]?) : Vw g W' A n c l := by
  refine ⟨h.len, ?_, h.cap, h.blk⟩
  have hl := h.len
  subst hl
  cases A with
  | none =>
    have h0 : l.length = 0 := by
      rcases Nat.eq_zero_or_pos l.length with e | e
      · exact e
      · obtain ⟨ad, e2, _⟩ := h.C.2.2 e; cases e2
    obtain rfl := List.eq_nil_of_length_eq_zero h0
    exact C_empty _ _
  | some ad =>
    refine C_of_cells (C_max h.C) fun j x hx => ?_
    have hc := C_cell h.C j x hx
    have hb := h.blk (by have := (List.getElem?_eq_some_iff.1 hx).1; omega) ad rfl
    have hlt := World.block_lt_of_cell? W _ hc
    have e : (ad.add j).block = g := (add_block _ _).trans hb
    have := hg (by rw [← e]; exact hlt)
    unfold World.cell? at hc ⊢
    rw [e] at hc ⊢
    rw [this]; exact hc
/-- a part of it -/
theorem Vw.sub {g : Nat} {W : World} {ad : Addr} {n c : Nat} {l : List Int} (h : Vw g W (some ad) n c l) (lo m : Nat) (hm : lo + m ≤ n) : Vw g W (if c = lo then some ad else some (ad.add lo)) m (c - lo) ((l.take (lo + m)).drop lo) := by
  have hl := h.len
  have hln : ((l.take (lo + m)).drop lo).length = m := by rw [List.length_drop, List.length_take]; omega
  refine ⟨hln, ?_, by have := h.cap; omega, ?_⟩
  · by_cases hc : c = lo
    · have hm0 : m = 0 := by have := h.cap; omega
      subst hm0
      obtain e := List.eq_nil_of_length_eq_zero hln
      rw [e]
      exact C_empty _ _
    · rw [if_neg hc]
      have := C_of_cells (w := W) (ad := ad.add lo) (l := (l.take (lo + m)).drop lo) (by have := C_max h.C; omega) fun j x hx => by
        rw [List.getElem?_drop, List.getElem?_take] at hx
        split at hx
        · have := C_cell h.C (lo + j) x hx
          rw [add_add]; exact this
        · cases hx
      rw [hln] at this
      exact this
  · intro hm0 ad' e
    by_cases hc : c = lo
    · rw [if_pos hc] at e; cases e; exact h.blk (by omega) _ rfl
    · rw [if_neg hc] at e; cases e; exact (add_block _ _).trans (h.blk (by omega) ad rfl)
theorem hp_calls (A : Option Addr) (c n : Nat) (l : List Int) (w : World) (hn : l.length = n) (hr : Kd.C (Kd.int .u8) w A n l) (hc : n ≤ c) (hb : Byt l) (hl : n ≤ 140737488353792) (hT : TAB w) (r1 r2 r3 : Int) (h : hp l = (r1, r2, r3)) :
    Calls Tryd.prog 37 #[.slice A n c] w fun e w' => e = .returned (.tuple #[.int .i64 r1, .int .i64 r2, .int .i64 r3]) ∧ Below w.heap.size w w' := by
  subst hn
  obtain ⟨k, hk⟩ := hp_ev hb hl
  exact head_Parse.calls k A c l r1 r2 r3 w hr hc hT (by rw [← h]; exact hk k (Nat.le_refl _))
set_option maxRecDepth 100000 in
set_option maxHeartbeats 2000000 in
theorem first_no (A : Option Addr) (c n : Nat) (l : List Int) (w : World) (hn : l.length = n) (hr : Kd.C (Kd.int .u8) w A n l) (hc : n ≤ c) (hb : Byt l) (hl : n ≤ 140737488353792) (hT : TAB w) (h : ¬ ok1 l) :
    Calls Tryd.prog 30 #[.slice A n c] w fun e w' => e = .returned (.tuple #[.slice none 0 0, .slice A n c, .int .i64 (err1 l)]) ∧ Below w.heap.size w w' := by
  have HR := Aside0.mk hr
  have HT := Aside0.mk hT
  have HN := Aside0.mk hn
  rcases no1_form hb (by omega) h with ⟨h1, h2, h3⟩ | ⟨m, s, h1, h2, h3, h4, h5, h6⟩
  · obtain ⟨r, hr3⟩ : ∃ r, hp l = r := ⟨_, rfl⟩
    obtain ⟨r1, r2, r3⟩ := r
    rw [hr3] at h1 h2
    simp only at h1 h2
    rw [h2]
    have e1 : (r3 != 0) = true := by simpa using h1
    have HC := Aside0.mk (hp_calls A c n l w hn hr hc hb hl hT r1 r2 r3 hr3)
    clear hr hT h h1 h2 h3 hr3 hb hn
    go_enter Tryd.func30, Tryd.ntmps30
    go_wp2_with (go_at_call 37; (with_reducible refine HC.out.mono ?_); rintro e w' ⟨rfl, hb1⟩)
    go_ret3
    exact ⟨rfl, hb1⟩
  · rw [h2]
    have HC := Aside0.mk (hp_calls A c n l w hn hr hc hb hl hT _ _ _ h1)
    have e1 : ((0 : Int) != 0) = false := rfl
    have e2 : IntKind.i64.wrap ((n : Int) - (s : Int)) = (n : Int) - (s : Int) := by rw [IntKind.wrap_i64]; omega
    have e3 : decide ((n : Int) - (s : Int) < (m : Int)) = true := decide_eq_true (by omega)
    clear hr hT h h1 h2 h3 hb hn
    go_enter Tryd.func30, Tryd.ntmps30
    go_wp2_with (go_at_call 37; (with_reducible refine HC.out.mono ?_); rintro e w' ⟨rfl, hb1⟩)
    go_ret3
    exact ⟨rfl, hb1⟩
set_option maxRecDepth 100000 in
set_option maxHeartbeats 2000000 in
theorem first_ok {g : Nat} {w : World} {A : Option Addr} {n c : Nat} {l : List Int} (h : Vw g w A n c l) (hb : Byt l) (hl : n ≤ 140737488353792) (hT : TAB w) (ho : ok1 l) :
    Calls Tryd.prog 30 #[.slice A n c] w fun e w' => Below w.heap.size w w' ∧ ∃ A1 c1 A2 c2, e = .returned (.tuple #[.slice A1 (body1 l).length c1, .slice A2 (rest1 l).length c2, .int .i64 0]) ∧ Vw g w A1 (body1 l).length c1 (body1 l) ∧ Vw g w A2 (rest1 l).length c2 (rest1 l) := by
  have hl0 := h.len
  obtain ⟨m, s, h1, h2, h3, h4, h5, h6⟩ := ok1_ref hb (by omega) ho
  cases A with
  | none =>
    obtain ⟨ad, e, _⟩ := h.C.2.2 (by omega)
    cases e
  | some ad =>
  have HC := Aside0.mk (hp_calls (some ad) c n l w hl0 h.C h.cap hb hl hT _ _ _ h1)
  have b1 := body1_len ho
  have b2 : (rest1 l).length = n - (s + m) := by unfold rest1; rw [List.length_drop]; omega
  have v1 := h.sub s m (by omega)
  have v2 := h.sub (s + m) (n - (s + m)) (by omega)
  rw [show (l.take (s + m)).drop s = body1 l by unfold body1; rw [h2, h3]] at v1
  rw [show (l.take (s + m + (n - (s + m)))).drop (s + m) = rest1 l by unfold rest1; rw [h2, h3, List.take_of_length_le (by omega)]] at v2
  rw [b1, b2, h3]
  have hcap := h.cap
  have e2 : IntKind.i64.wrap ((n : Int) - (s : Int)) = (n : Int) - (s : Int) := by rw [IntKind.wrap_i64]; omega
  have e3 : decide ((n : Int) - (s : Int) < (m : Int)) = false := decide_eq_false (by omega)
  have e4 : IntKind.i64.wrap ((s : Int) + (m : Int)) = (s : Int) + (m : Int) := by rw [IntKind.wrap_i64]; omega
  have e5 : (0 : Int) ≤ (s : Int) + (m : Int) := by omega
  have e6 : (s : Int) ≤ (s : Int) + (m : Int) := by omega
  have e7 : (s : Int) + (m : Int) ≤ (n : Int) := by omega
  have e8 : (s : Int) + (m : Int) ≤ (c : Int) := by omega
  have e9 : (s : Int) ≤ (n : Int) := by omega
  obtain ⟨i0, hi0, hz0, hz1, hz2⟩ := info_parts info5
  have k1 := cut_mid (P := Tryd.prog) 27 5 .i64 .i64 Tryd.underlying27 hi0 1 hz1 (some ad) n c (s : Int) ((s : Int) + (m : Int)) (by omega) e6 e7 hcap
  have k2 := cut_from (P := Tryd.prog) 27 5 .i64 Tryd.underlying27 hi0 1 hz1 (some ad) n c ((s : Int) + (m : Int)) e5 e7
  rw [show ((s : Int) + (m : Int)).toNat = s + m by omega, Int.toNat_natCast, Nat.mul_one, show s + m - s = m by omega, show (Option.map (fun x => x.add s) (some ad)) = some (ad.add s) from rfl] at k1
  rw [show ((s : Int) + (m : Int)).toNat = s + m by omega, Nat.mul_one, show (Option.map (fun x => x.add (s + m)) (some ad)) = some (ad.add (s + m)) from rfl] at k2
  obtain ⟨A1, hA1⟩ : ∃ A1, (if c = s then some ad else some (ad.add s)) = A1 := ⟨_, rfl⟩
  obtain ⟨A2, hA2⟩ : ∃ A2, (if c = s + m then some ad else some (ad.add (s + m))) = A2 := ⟨_, rfl⟩
  rw [hA1] at k1 v1
  rw [hA2] at k2 v2
  have V1 := Aside0.mk v1
  have V2 := Aside0.mk v2
  clear h hT ho h1 h2 h3 hb hl0 v1 v2 b1 b2 hA1 hA2 hi0 hz0 hz1 hz2 e5 e6 e7 e8 e9
  go_enter Tryd.func30, Tryd.ntmps30
  go_wp2_with (go_at_call 37; (with_reducible refine HC.out.mono ?_); rintro e w' ⟨rfl, hb1⟩)
  go_quiet (fail)
  go_wp2
  go_ret3
  exact ⟨pw_below_drewN hb1 _, _, _, _, _, rfl, V1.out, V2.out⟩
end Go.Proofs.YthkmacgjekienaaDoor.P
/- The range over the bodies that bytes begin with: what it asks and tells. -/
namespace Go.Proofs.YthkmacgjekienaaDoor.P
attribute [-simp] List.length_drop List.length_take ByteArray.size_append
open Go.RowKit Go.Shelf Go.Proofs.YthkmacgjekienaaDoor.Pure Go.Proofs.YthkmacgjekienaaDoorW.PrintWords Go.Proofs.YthkmacgjekienaaDoorW.PrintLast Go.Proofs.YthkmacgjekienaaDoorW.PrintMore
set_option linter.unusedVariables false
set_option linter.unusedSimpArgs false
attribute [local go_sem] Oper.semAt_some
theorem take_one {α : Type} : ∀ (a : List α) (x : α) (r : List α) (n : Nat), a.length = n → (a ++ x :: r).take (n + 1) = a ++ [x]
  | [], x, r, n, h => by subst h; simp
  | y :: a, x, r, n, h => by
    subst h
    have := take_one a x r a.length rfl
    rw [List.length_cons, List.cons_append, List.take_succ_cons, this]; rfl
/-- what a round keeps: all below lo; the bytes' own block -/
def Kpp (w0 : World) (g : Nat) (W W' : World) : Prop := Below w0.heap.size W W' ∧ (g < W.heap.size → W'.heap[g]? = W.heap[g]?)
theorem Kpp.trans {w0 : World} {g : Nat} {A B C : World} (h : Kpp w0 g A B) (k : Kpp w0 g B C) : Kpp w0 g A C :=
  ⟨h.1.trans k.1, fun hg => (k.2 (Nat.lt_of_lt_of_le hg h.1.size)).trans (h.2 hg)⟩
theorem Kpp.refl (w0 : World) (g : Nat) (A : World) (h : w0.heap.size ≤ A.heap.size) : Kpp w0 g A A := ⟨Below.refl _ _, fun _ => rfl⟩
theorem Kpp.of_below {w0 : World} {g : Nat} {A B : World} (h0 : w0.heap.size ≤ A.heap.size) (h : Below A.heap.size A B) : Kpp w0 g A B := ⟨h.mono h0, fun hg => h.block g hg⟩
/-- what a round is told of its body -/
def Hx (lo : Nat) (bs : List (List Int)) (m : Nat) (pre : List (Value × List Int)) (x : Value × List Int) (W : World) : Prop :=
  Kd.R (Kd.int .u8) 5 W lo (fun k => m ≤ k) x.1 x.2 ∧ bs[pre.length]? = some x.2 ∧ pre.map (·.2) = bs.take pre.length
set_option maxRecDepth 100000 in
set_option maxHeartbeats 4000000 in
theorem all1_in {w0 w : World} {g : Nat} {A : Option Addr} {n c : Nat} {l0 : List Int} (hv : Vw g w A n c l0) (hg : g < w.heap.size) (hb : Byt l0) (hn : n ≤ 140737488353792) (hT : TAB w0) (hB : Below w0.heap.size w0 w) (b : Nat) (hbx : w.cell? ⟨b, 0, none⟩ = some (.slice A n c))
    (l : Nat) (J : Nat → List (Value × List Int) → World → Prop) (Jx : List (Value × List Int) → World → Prop) (W : World) (hW : Below w.heap.size w W) (hJ : ∀ m, AbidesFrom W.heap.size (J m))
    (hY : ∀ pre x m W1, J m pre W1 → Hx w.heap.size (bodT l0).1 m pre x W1 → YieldAt Fence.wide 2 Tryd.prog l #[x.1] W1 fun e W' => (e = .returned (.bool true) ∧ J W'.heap.size (pre ++ [x]) W' ∧ Kpp w0 g W1 W') ∨ (e = .returned (.bool false) ∧ Jx (pre ++ [x]) W')) (h0 : J W.heap.size [] W) :
    CallsIn Fence.wide 3 Tryd.prog 34 #[.func (.yield l) #[] #[], .pointer (some ⟨b, 0, none⟩)] W fun e W' => (∃ v, e = .returned v) ∧ ((∃ xs m, xs.map (·.2) = (bodT l0).1 ∧ J m xs W') ∨ (∃ pre, (∃ k, pre.map (·.2) = (bodT l0).1.take k) ∧ Jx pre W')) := by
  have hbx' := (hW.cell (p := ⟨b, 0, none⟩) (World.block_lt_of_cell? w _ hbx)).trans hbx
  have HV := Aside0.mk (hv.move fun h => hW.block g h)
  have HG := Aside0.mk (Nat.lt_of_lt_of_le hg hW.size)
  have HB := Aside0.mk (hB.trans (hW.mono hB.size))
  have HT := Aside0.mk hT
  have HBy := Aside0.mk hb
  have HN := Aside0.mk hn
  have HY := Aside0.mk hY
  have HJ := Aside0.mk hJ
  have HJ0 := Aside0.mk h0
  have HWW := Aside0.mk hW
  clear hv hg hB hT hb hn hY hJ h0 hbx hW
  refine callsIn_of_wp Tryd.func34 rfl trivial ?_ rfl
  simp only [Tryd.ntmps34, List.size_toArray, List.length_cons, List.length_nil, Nat.reduceAdd, Nat.reduceSub, Array.replicate_succ, Array.replicate_zero, List.push_toArray, List.append_toArray, List.nil_append, List.cons_append]
  gi_wp2
  gi_loopw [3] (fun i wr => ∃ A' c' l' pre m, i = .slice A' l'.length c' ∧ Aside0 (Vw g wr A' l'.length c' l') ∧ Aside0 (g < wr.heap.size) ∧ Aside0 (pre.map (·.2) ++ (bodT l').1 = (bodT l0).1) ∧ Aside0 (Byt l') ∧ Aside0 (l'.length ≤ 140737488353792) ∧ Aside0 (J m pre wr) ∧ Aside0 (m ≤ wr.heap.size) ∧ Aside0 (w.heap.size ≤ m) ∧ Aside0 (Below w0.heap.size w0 wr)) (fun i _ => match i with | .slice _ n _ => n | _ => 0)
  case atStart =>
    have hl := HV.out.len
    exact ⟨A, c, l0, [], W.heap.size, by rw [hl], by rw [hl]; exact HV, HG, ⟨rfl⟩, HBy, ⟨by rw [hl]; exact HN.out⟩, HJ0, ⟨Nat.le_refl _⟩, ⟨HWW.out.size⟩, HB⟩
  case round =>
    obtain ⟨A', c', l', pre, m, rfl, HV', HG', HP', HBy', HN', HJ', HM', HMw', HB'⟩ := hrel
    by_cases ho : ok1 l'
    · have hC := first_ok HV'.out HBy'.out HN'.out (HT.out.below HB'.out) ho
      have HC := Aside0.mk hC
      have HO := Aside0.mk ho
      have hlt := rest1_lt ho
      have hbl : (body1 l').length ≤ 140737488353792 := by have := HN'.out; unfold body1; rw [List.length_drop, List.length_take]; omega
      have HBL := Aside0.mk hbl
      have e0 : ((0 : Int) != 0) = false := rfl
      clear hC ho hbl
      gi_wp2_with (first
        | (refine ⟨trivial, ?_⟩; gi_at_call 30; (with_reducible refine (callsIn_wide.2 HC.out).mono ?_); rintro e w' ⟨hb1, A1, c1, A2, c2, rfl, hv1, hv2⟩; have HB1 := Aside0.mk hb1; have HV1 := Aside0.mk (hv1.move fun h => hb1.block g h); have HV2 := Aside0.mk (hv2.move fun h => hb1.block g h); clear hb1 hv1 hv2)
        | (refine ⟨trivial, ?_⟩; gi_at_call 31; (with_reducible refine (callsIn_wide.2 (clone_calls A1 c1 _ (body1 l') _ rfl HV1.out.C HV1.out.cap HBL.out)).mono ?_); rintro e w2 ⟨v, rfl, hr2, hb2⟩; have HR2 := Aside0.mk hr2; have HB2 := Aside0.mk hb2; clear hr2 hb2))
      have hall : Below wr.heap.size wr w2 := below_step HB1.out HB2.out
      have hb' := HO.out
      have hbod := HP'.out
      rw [bodT_ok HO.out] at hbod
      have hj := HJ.out m _ _ _ _ HJ'.out (grown_of_below hall none) (by simp)
      have hx : Hx w.heap.size (bodT l0).1 m pre (v, body1 l') w2 := by
        refine ⟨Kd.R_mono (Kd.R_lower HR2.out (Nat.le_trans HMw'.out (Nat.le_trans HM'.out HB1.out.size))) (fun k hk => Nat.le_trans (Nat.le_trans HM'.out HB1.out.size) hk), ?_, ?_⟩
        · rw [← hbod]; simp
        · rw [← hbod]; simp
      obtain ⟨fn, tmps, assign, body, hy, hR⟩ := HY.out pre (v, body1 l') m w2 hj hx
      have HR' := Aside0.mk hR
      have HBOD := Aside0.mk hbod
      have HALL := Aside0.mk hall
      have hgl : g < w2.heap.size := Nat.lt_of_lt_of_le HG'.out hall.size
      have HGL := Aside0.mk hgl
      have HVE := Aside0.mk (HV2.out.move fun h => HB2.out.block g h)
      clear hR hbod hb' hj hx hall hgl
      gi_wp2
      refine HR'.out.mono ?_
      rintro e W3 (⟨rfl, hJ3, hk3⟩ | ⟨rfl, hJx3⟩)
      · have HJ3 := Aside0.mk hJ3
        have HK3 := Aside0.mk hk3
        clear hJ3 hk3
        gi_wp2
        go_roundw
        case rel =>
          refine ⟨A2, c2, rest1 l', pre ++ [(v, body1 l')], W3.heap.size, rfl, ⟨HVE.out.move fun h => HK3.out.2 h⟩, ⟨Nat.lt_of_lt_of_le HGL.out HK3.out.1.size⟩, ⟨?_⟩, ⟨HBy'.out.rest1⟩, ⟨by have := HN'.out; omega⟩, HJ3, ⟨Nat.le_refl _⟩, ⟨?_⟩, ⟨?_⟩⟩
          · rw [← HBOD.out]; simp
          · exact Nat.le_trans HMw'.out (Nat.le_trans HM'.out (Nat.le_trans HALL.out.size HK3.out.1.size))
          · exact (HB'.out.trans (HALL.out.mono HB'.out.size)).trans HK3.out.1
        case measure => exact hlt
      · have HJ3 := Aside0.mk hJx3
        clear hJx3
        gi_wp2
        refine bodyPost_ret (results_none rfl _ _ _) rfl ?_
        exact ⟨⟨_, rfl⟩, .inr ⟨_, ⟨pre.length + 1, by rw [← HBOD.out, take_one _ _ _ _ (List.length_map _), List.map_append]; rfl⟩, HJ3.out⟩⟩
    · have hC := first_no A' c' l'.length l' wr rfl HV'.out.C HV'.out.cap HBy'.out HN'.out (HT.out.below HB'.out) ho
      have hne : (err1 l' != 0) = true := by
        rcases no1_form HBy'.out HN'.out ho with ⟨h1, h2, h3⟩ | ⟨_, _, _, h2, _⟩
        · rw [h2]; simpa using h1
        · rw [h2]; rfl
      have HC := Aside0.mk hC
      have HO := Aside0.mk ho
      have fw : Fence.wide.fn 31 := trivial
      have fn0 : ∀ f : FuncId, none = some f → Fence.wide.fn f := fun _ _ => trivial
      clear hC ho
      gi_wp2_with (first | (refine ⟨trivial, ?_⟩; gi_at_call 30; (with_reducible refine (callsIn_wide.2 HC.out).mono ?_); rintro e w' ⟨rfl, hb1⟩) | (with_reducible refine And.intro fw ?_) | (with_reducible refine And.intro fn0 ?_))
      refine bodyPost_ret (results_none rfl _ _ _) rfl ?_
      refine ⟨⟨_, rfl⟩, .inl ⟨pre, m, ?_, HJ.out m _ _ _ _ HJ'.out (grown_of_below hb1 none) (by simp)⟩⟩
      have := HP'.out
      rw [bodT_no HO.out] at this
      simpa using this
end Go.Proofs.YthkmacgjekienaaDoor.P
/- A loop over the bodies that collects them: what stays and what it leaves. -/
namespace Go.Proofs.YthkmacgjekienaaDoor.P
attribute [-simp] List.length_drop List.length_take ByteArray.size_append
open Go.RowKit Go.Shelf Go.Proofs.YthkmacgjekienaaDoor.Pure Go.Proofs.YthkmacgjekienaaDoorW.PrintWords Go.Proofs.YthkmacgjekienaaDoorW.PrintLast Go.Proofs.YthkmacgjekienaaDoorW.PrintMore
set_option linter.unusedVariables false
set_option linter.unusedSimpArgs false
/-- a walk's stop -/
theorem tstop {p : Prop} (h : p) : p := h
section
variable {F : Fence} {n : Nat} {P : Program} {ops : Array Oper} {rest : List Oper} {o : Oper} {a : Act} {Q : Exit → Act → World → Prop} {α : Type}
/-- append(v, x) within a round. -/
theorem in_append (d : Kd α) {W : World} (base : Nat) (hgd : o.guard = none) (s x : Operand) (t e : TypeId) (z : Value) (bytes : Nat)
    (ho : o.op = .call { callee := .builtin .append, args := #[s, x], argTypes := #[t, t] })
    (ht : P.underlying t = some (.slice e)) (hinfo : (P.info? e).map (fun i => (i.zero, i.size, i.bytes)) = some (some z, d.sz, bytes)) (hz : z.cells.size = d.sz) (hs0 : 0 < d.sz) (hb0 : 0 < bytes)
    (v : Value) (xs : List α) (p : α) (cs : List Value) (ok okp : Nat → Prop) (hs : a.eval s = v) (hx : a.eval x = .slice (some ⟨W.heap.size, 0, none⟩) 1 1) (hp : d.M W base okp p cs) (hokp : ∀ k, okp k → ok k ∧ some k ≠ v.ownBlock) (hfresh : ∀ k, W.heap.size ≤ k → ok k)
    (HO : d.R e W base ok v xs) (hbase : base ≤ W.heap.size) (hl : (xs.length + 1) * bytes ≤ 140737488355328)
    (h : ∀ v1 w1, d.R e w1 base ok v1 (xs ++ [p]) → W.grownBy w1 v.ownBlock → (v1.ownBlock = v.ownBlock ∨ ∃ b, v1.ownBlock = some b ∧ W.heap.size ≤ b) → wpListIn F n P ops Q rest (a.put o.dst v1) w1) :
    wpListIn F n P ops Q (o :: rest) a (W.alloc (.cells cs.toArray e)) := by
  obtain ⟨h0, inner, hown, hr⟩ := HO
  obtain ⟨i0, hi, hzz⟩ := Option.map_eq_some_iff.1 hinfo
  simp only [Prod.mk.injEq] at hzz
  obtain ⟨hz0, hz1, hz2⟩ := hzz
  have hlen : xs.length + 1 ≤ 140737488355328 := Nat.le_trans (Nat.le_mul_of_pos_right _ hb0) hl
  have hcl := d.K_len (d.K_of_M hp)
  refine wpListIn_plain hgd fun K hK' => ?_
  obtain ⟨v', w', hrun, r1, r2, _, r4⟩ := run_append_own_at (P := P) (W.alloc (.cells cs.toArray e)) base t o.type e i0 z d.sz bytes ht hi hz0 hz1 hz2 hz hs0 v xs.length inner (hown.alloc _) ⟨W.heap.size, 0, none⟩ 1 1 cs (by rw [hcl]; simp)
    (by simpa using World.news_of_block (cs := cs.toArray) (t := e) (fr := (0, 0)) (heap_alloc_new W (.cells cs.toArray e))) (d.K_one (d.K_of_M hp)) (by simp only [maxLen]; omega) hl (by simp; omega)
  have hg : W.grownBy w' v.ownBlock := World.grownBy.trans (World.grownBy_alloc W _ _) r2
  have hat : v'.ownBlock = v.ownBlock ∨ ∃ b, v'.ownBlock = some b ∧ W.heap.size ≤ b := by
    rcases r4 with r4 | r4
    · exact .inl r4
    · exact .inr ⟨_, r4, by simp⟩
  unfold Oper.wpIn
  refine ⟨?_, ?_⟩
  · simp [Oper.about, ho, resolve, Target.leads, Sem.run_pure]
  · rw [Oper.semAt_plain F _ _ (by rw [ho]; intro c hc'; cases hc')]
    simp [execOp, ho, resolve, invoke, builtin, hs, hx, hrun, Result.andThen]
    exact hK' _ _ (h v' w' (Kd.R_appended h0 hr hp hokp hfresh r1 hg hat) hg hat)
end
/-- what the loop's own blocks of book-keeping do not turn -/
theorem R_ownFrom {α : Type} {d : Kd α} {e : Nat} {W W' : World} {lo : Nat} {ok : Nat → Prop} {v : Value} {xs : List α} {row : Option Nat} (h : d.R e W lo ok v xs) (hg : W.grownBy W' row) (hr : ∀ r, row = some r → ∃ o : Obj, W.heap[r]? = some o ∧ o.isCells = false) : d.R e W' lo ok v xs :=
  Kd.R_mono (Kd.R_step (Kd.R_bound h) fun k hk hlt => hg.block k hlt fun e => by
    obtain ⟨_, _, _, q, _, cells, hc⟩ := hk
    obtain ⟨o, ho, hcell⟩ := hr k e.symm
    rw [hc] at ho; cases ho; cases hcell) fun _ hk => hk.1
/-- between two rounds: the box's rows are newer than the loop; what lay there lies as it did, but for the box -/
structure CI (w0 wS : World) (bo : Nat) (pre : List (Value × List Int)) (W : World) : Prop where
  box : ∃ vo, Boxed W bo 22 vo ∧ Kd.R (Kd.slice 5 (Kd.int .u8)) 27 W wS.heap.size (fun k => wS.heap.size ≤ k) vo (pre.map (·.2))
  kp : ∀ k, k < wS.heap.size → k ≠ bo → W.heap[k]? = wS.heap[k]?
  be : Below w0.heap.size wS W
theorem CI.start {w0 wS : World} {bo : Nat} (h : Boxed wS bo 22 (.slice none 0 0)) : CI w0 wS bo [] wS := ⟨⟨_, h, Kd.R_nil _ _ _ _ _⟩, fun _ _ _ => rfl, Below.refl _ _⟩
theorem CI.own {w0 wS : World} {bo : Nat} (hbo : bo < wS.heap.size) (h0 : w0.heap.size ≤ wS.heap.size) : OwnFrom wS.heap.size (CI w0 wS bo) := fun pre W W' row hs hg hr => by
  obtain ⟨vo, h1, h2⟩ := hs.box
  refine ⟨⟨vo, h1.kept hg fun e => ?_, R_ownFrom h2 hg fun r e => (hr r e).2⟩, fun k hk hb => (hg.block k (Nat.lt_of_lt_of_le hk hs.be.size) fun e => ?_).trans (hs.kp k hk hb), hs.be.grown hg (Nat.le_trans h0 hs.be.size) fun j e => Nat.le_trans h0 (hr j e).1⟩
  · have := (hr bo e.symm).1; omega
  · have := (hr k e.symm).1; omega
/-- a body is collected -/
theorem CI.step {w0 wS : World} {bo : Nat} {pre : List (Value × List Int)} {W : World} (hs : CI w0 wS bo pre W) (hbo : bo < wS.heap.size) (h0 : w0.heap.size ≤ bo) {g : Nat} (hg : g < wS.heap.size) (hgb : g ≠ bo) {vo v1 : Value} (h1 : Boxed W bo 22 vo) (h2 : Kd.R (Kd.slice 5 (Kd.int .u8)) 27 W wS.heap.size (fun k => wS.heap.size ≤ k) vo (pre.map (·.2)))
    {x : Value × List Int} {w1 : World} (r1 : Kd.R (Kd.slice 5 (Kd.int .u8)) 27 w1 wS.heap.size (fun k => wS.heap.size ≤ k) v1 (pre.map (·.2) ++ [x.2])) (r2 : W.grownBy w1 vo.ownBlock) :
    KeepsFrom wS.heap.size W (w1.setCell ⟨bo, 0, none⟩ v1) ∧ Kpp w0 g W (w1.setCell ⟨bo, 0, none⟩ v1) ∧ CI w0 wS bo (pre ++ [x]) (w1.setCell ⟨bo, 0, none⟩ v1) := by
  have hvo : ∀ k, vo.ownBlock = some k → wS.heap.size ≤ k := fun k e => Kd.R_base h2 k e
  have hv1 : ∀ k, v1.ownBlock = some k → wS.heap.size ≤ k := fun k e => Kd.R_base r1 k e
  have b1 := h1.kept r2 (fun e => by have := hvo bo e.symm; omega)
  have hbe : Below w0.heap.size W (w1.setCell ⟨bo, 0, none⟩ v1) := ((Below.refl w0.heap.size W).grown r2 (Nat.le_trans (Nat.le_trans h0 (Nat.le_of_lt hbo)) hs.be.size) fun j e => Nat.le_trans (Nat.le_trans h0 (Nat.le_of_lt hbo)) (hvo j e)).setCell (p := ⟨bo, 0, none⟩) h0 _
  have kp : ∀ k, k < W.heap.size → k ≠ bo → some k ≠ vo.ownBlock → (w1.setCell ⟨bo, 0, none⟩ v1).heap[k]? = W.heap[k]? := fun k hk hb hv => (Below.heap_setCell w1 ⟨bo, 0, none⟩ v1 k hb).trans (r2.block k hk hv)
  refine ⟨?_, ⟨hbe, fun hgl => kp g hgl hgb fun e => by have := hvo g e.symm; omega⟩, ⟨⟨v1, b1.set v1, ?_⟩, fun k hk hb => (kp k (Nat.lt_of_lt_of_le hk hs.be.size) hb fun e => by have := hvo k e.symm; omega).trans (hs.kp k hk hb), hs.be.trans hbe⟩⟩
  · refine ((KeepsOthers.of_grownBy r2 fun j o ej hj => ?_).trans (KeepsOthers.setCell _ _ _)).from _
    obtain ⟨cells, hc⟩ := Kd.R_typed h2 j ej
    rw [hc] at hj; cases hj; rfl
  · rw [List.map_append]
    exact Kd.R_far r1 (fun k hk e => by have e2 : k = bo := e; omega) v1
theorem Rd.moved {lo : Nat} {w W : World} {g : Nat} {v : Value} {B : List Int} {cl : Bool} (h : Rd lo w g v B cl) (hg : W.heap[g]? = w.heap[g]?) (hr : ∀ k, v.ownBlock = some k → W.heap[k]? = w.heap[k]?) : Rd lo W g v B cl := by
  refine ⟨hg.trans h.blk, ?_, h.lo⟩
  have h1 := Kd.R_tight (d := Kd.int .u8) rfl h.row
  exact Kd.R_mono (Kd.R_step h1 fun k hk _ => hr k hk.symm) fun _ _ => trivial
theorem all1_seq {w0 w : World} {g : Nat} {A : Option Addr} {n c : Nat} {l0 : List Int} (hv : Vw g w A n c l0) (hg : g < w.heap.size) (hb : Byt l0) (hn : n ≤ 140737488353792) (hT : TAB w0) (hB : Below w0.heap.size w0 w) (b : Nat) (hbx : w.cell? ⟨b, 0, none⟩ = some (.slice A n c)) :
    SeqX Fence.wide 3 Tryd.prog 34 #[.pointer (some ⟨b, 0, none⟩)] (fun x : Value × List Int => #[x.1]) (Hx w.heap.size (bodT l0).1) (Kpp w0 g) (fun xs => xs.map (·.2) = (bodT l0).1) (fun pre => ∃ k, pre.map (·.2) = (bodT l0).1.take k) w :=
  fun l J Jx W hW hJ _ hY h0 => all1_in hv hg hb hn hT hB b hbx l J Jx W hW hJ hY h0
theorem Hx_own {lo : Nat} {bs : List (List Int)} {B : Nat} (m : Nat) (pre : List (Value × List Int)) (x : Value × List Int) : OwnFrom B (fun (_ : Unit) W => Hx lo bs m pre x W) := fun _ W W' row hs hg hr => ⟨R_ownFrom hs.1 hg fun r e => (hr r e).2, hs.2⟩
theorem Kpp_book {w0 w : World} {g : Nat} (h0 : w0.heap.size ≤ w.heap.size) (hg : g < w.heap.size) (W : World) (l : Nat) (o o' : Obj) (hl : w.heap.size ≤ l) (h : W.heap[l]? = some o) (_ : o.isCells = false) (_ : o.isWalk = false) : Kpp w0 g W (W.putObj l o') :=
  ⟨belowK_b h0 W l o o' hl h (by assumption) (by assumption), fun _ => World.putObj_heap_other (by omega)⟩
theorem Rd.view {lo : Nat} {w : World} {g : Nat} {A : Option Addr} {n c : Nat} {B : List Int} {cl : Bool} (h : Rd lo w g (.slice A n c) B cl) (s bo : Nat) {t : TypeId} {u : Value} (hs : s < w.heap.size) (h1 : s ≠ g) (h2 : s ≠ bo) (hb : Boxed w bo t u) (ht : t ≠ 5) : ∃ gb, gb < w.heap.size ∧ Vw gb w A n c B ∧ gb ≠ g ∧ gb ≠ bo := by
  obtain ⟨e1, e2, e3⟩ := Kd.R_reads' h.row
  cases A with
  | none => exact ⟨s, hs, ⟨e1.symm, by rw [e1]; exact e3, e2, fun _ ad e => by cases e⟩, h1, h2⟩
  | some ad =>
    obtain ⟨gb, rfl⟩ := Kd.R_head h.row
    obtain ⟨cells, hc⟩ := Kd.R_typed h.row gb rfl
    refine ⟨gb, blk_lt hc, ⟨e1.symm, by rw [e1]; exact e3, e2, fun _ ad e => by cases e; rfl⟩, ?_, ?_⟩
    · rintro rfl
      rw [h.blk] at hc; cases hc
    · rintro rfl
      rw [show w.heap[gb]? = _ from hb] at hc
      cases hc
      exact ht rfl
end Go.Proofs.YthkmacgjekienaaDoor.P
