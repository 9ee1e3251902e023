/- frame.first: the frame that bytes begin with. -/
import Derived.Test.YthkmacgjekienaaDoorF2
import Derived.Test.YthkmacgjekienaaDoorFS
namespace Go.Proofs.YthkmacgjekienaaDoor.P
attribute [-simp] List.length_drop List.length_take ByteArray.size_append
open Go.RowKit Go.Proofs.YthkmacgjekienaaDoor.Pure Go.Proofs.YthkmacgjekienaaDoorW.PrintWords Go.Proofs.YthkmacgjekienaaDoorW.PrintLast Go.Proofs.YthkmacgjekienaaDoorW.PrintMore
set_option linter.unusedVariables false
set_option linter.unusedSimpArgs false
/-- a slice that is read, all of whose bytes lie in block g -/
structure Vw (g : Nat) (W : World) (A : Option Addr) (n c : Nat) (l : List Int) : Prop where
  len : l.length = n
  C : Kd.C (Kd.int .u8) W A n l
  cap : n ≤ c
  blk : ∀ ad, A = some ad → ad.block = g
theorem C_cell {w : World} {ad : Addr} {n : Nat} {l : List Int} (h : Kd.C (Kd.int .u8) w (some ad) n l) (j : Nat) (x : Int) (hx : l[j]? = some x) : w.cell? (ad.add j) = some (.int .u8 x) := by
  obtain ⟨h1, h2, h3⟩ := h
  have hl : 0 < n := by have := (List.getElem?_eq_some_iff.1 hx).1; omega
  obtain ⟨ad', e, h4⟩ := h3 hl
  cases e
  obtain ⟨cs, hk, hl2, hc⟩ := h4 j x hx
  have hk' : cs = [.int .u8 x] := hl2
  subst hk'
  have := hc 0 _ rfl
  simpa [show (Kd.int .u8).sz = 1 from rfl] using this
theorem C_of_cells {w : World} {ad : Addr} {l : List Int} (hl : l.length ≤ 9223372036854775807) (hc : ∀ (j : Nat) (x : Int), l[j]? = some x → w.cell? (ad.add j) = some (.int .u8 x)) : Kd.C (Kd.int .u8) w (some ad) l.length l := by
  refine ⟨rfl, hl, fun hp => ⟨ad, rfl, fun j x hx => ⟨[.int .u8 x], rfl, rfl, fun i u hu => ?_⟩⟩⟩
  cases i with
  | zero => cases hu; show w.cell? (ad.add (j * 1 + 0)) = _; rw [Nat.mul_one, Nat.add_zero]; exact hc j x hx
  | succ i => cases hu
theorem C_empty (w : World) (A : Option Addr) : Kd.C (Kd.int .u8) w A 0 ([] : List Int) := ⟨rfl, by decide, fun h => absurd h (by decide)⟩
theorem C_max {w : World} {A : Option Addr} {n : Nat} {l : List Int} (h : Kd.C (Kd.int .u8) w A n l) : n ≤ 9223372036854775807 := h.2.1
theorem Vw.move {g : Nat} {W W' : World} {A : Option Addr} {n c : Nat} {l : List Int} (h : Vw g W A n c l) (hg : g < W.heap.size → W'.heap[g]? = W.heap[g]?) : Vw g W' A n c l := by
  refine ⟨h.len, ?_, h.cap, h.blk⟩
  have hl := h.len
  subst hl
  cases A with
  | none =>
    have h0 : l.length = 0 := by
      rcases Nat.eq_zero_or_pos l.length with e | e
      · exact e
      · obtain ⟨ad, e2, _⟩ := h.C.2.2 e; cases e2
    obtain rfl := List.eq_nil_of_length_eq_zero h0
    exact C_empty _ _
  | some ad =>
    refine C_of_cells (C_max h.C) fun j x hx => ?_
    have hc := C_cell h.C j x hx
    have hb := h.blk ad rfl
    have hlt := World.block_lt_of_cell? W _ hc
    have e : (ad.add j).block = g := (add_block _ _).trans hb
    have := hg (by rw [← e]; exact hlt)
    unfold World.cell? at hc ⊢
    rw [e] at hc ⊢
    rw [this]; exact hc
/-- a part of it -/
theorem Vw.sub {g : Nat} {W : World} {ad : Addr} {n c : Nat} {l : List Int} (h : Vw g W (some ad) n c l) (lo m : Nat) (hm : lo + m ≤ n) : Vw g W (if c = lo then some ad else some (ad.add lo)) m (c - lo) ((l.take (lo + m)).drop lo) := by
  have hl := h.len
  have hln : ((l.take (lo + m)).drop lo).length = m := by rw [List.length_drop, List.length_take]; omega
  refine ⟨hln, ?_, by have := h.cap; omega, ?_⟩
  · by_cases hc : c = lo
    · have hm0 : m = 0 := by have := h.cap; omega
      subst hm0
      obtain e := List.eq_nil_of_length_eq_zero hln
      rw [e]
      exact C_empty _ _
    · rw [if_neg hc]
      have := C_of_cells (w := W) (ad := ad.add lo) (l := (l.take (lo + m)).drop lo) (by have := C_max h.C; omega) fun j x hx => by
        rw [List.getElem?_drop, List.getElem?_take] at hx
        split at hx
        · have := C_cell h.C (lo + j) x hx
          rw [add_add]; exact this
        · cases hx
      rw [hln] at this
      exact this
  · intro ad' e
    by_cases hc : c = lo
    · rw [if_pos hc] at e; cases e; exact h.blk _ rfl
    · rw [if_neg hc] at e; cases e; exact (add_block _ _).trans (h.blk ad rfl)
theorem hp_calls (A : Option Addr) (c n : Nat) (l : List Int) (w : World) (hn : l.length = n) (hr : Kd.C (Kd.int .u8) w A n l) (hc : n ≤ c) (hb : Byt l) (hl : n ≤ 140737488351232) (hT : TAB w) (r1 r2 r3 : Int) (h : hp l = (r1, r2, r3)) :
    Calls Tryd.prog 37 #[.slice A n c] w fun e w' => e = .returned (.tuple #[.int .i64 r1, .int .i64 r2, .int .i64 r3]) ∧ Below w.heap.size w w' := by
  subst hn
  obtain ⟨k, hk⟩ := hp_ev hb hl
  exact head_Parse.calls k A c l r1 r2 r3 w hr hc hT (by rw [← h]; exact hk k (Nat.le_refl _))
set_option maxRecDepth 100000 in
set_option maxHeartbeats 2000000 in
theorem first_no (A : Option Addr) (c n : Nat) (l : List Int) (w : World) (hn : l.length = n) (hr : Kd.C (Kd.int .u8) w A n l) (hc : n ≤ c) (hb : Byt l) (hl : n ≤ 140737488351232) (hT : TAB w) (h : ¬ ok1 l) :
    Calls Tryd.prog 30 #[.slice A n c] w fun e w' => e = .returned (.tuple #[.slice none 0 0, .slice A n c, .int .i64 (err1 l)]) ∧ Below w.heap.size w w' := by
  have HR := Aside0.mk hr
  have HT := Aside0.mk hT
  have HN := Aside0.mk hn
  rcases no1_form hb (by omega) h with ⟨h1, h2, h3⟩ | ⟨m, s, h1, h2, h3, h4, h5, h6⟩
  · obtain ⟨r, hr3⟩ : ∃ r, hp l = r := ⟨_, rfl⟩
    obtain ⟨r1, r2, r3⟩ := r
    rw [hr3] at h1 h2
    simp only at h1 h2
    rw [h2]
    have e1 : (r3 != 0) = true := by simpa using h1
    have HC := Aside0.mk (hp_calls A c n l w hn hr hc hb hl hT r1 r2 r3 hr3)
    clear hr hT h h1 h2 h3 hr3 hb hn
    go_enter Tryd.func30, Tryd.ntmps30
    go_wp2_with (go_at_call 37; (with_reducible refine HC.out.mono ?_); rintro e w' ⟨rfl, hb1⟩)
    go_ret3
    exact ⟨rfl, hb1⟩
  · rw [h2]
    have HC := Aside0.mk (hp_calls A c n l w hn hr hc hb hl hT _ _ _ h1)
    have e1 : ((0 : Int) != 0) = false := rfl
    have e2 : IntKind.i64.wrap ((n : Int) - (s : Int)) = (n : Int) - (s : Int) := by rw [IntKind.wrap_i64]; omega
    have e3 : decide ((n : Int) - (s : Int) < (m : Int)) = true := decide_eq_true (by omega)
    clear hr hT h h1 h2 h3 hb hn
    go_enter Tryd.func30, Tryd.ntmps30
    go_wp2_with (go_at_call 37; (with_reducible refine HC.out.mono ?_); rintro e w' ⟨rfl, hb1⟩)
    go_ret3
    exact ⟨rfl, hb1⟩
set_option maxRecDepth 100000 in
set_option maxHeartbeats 2000000 in
theorem first_ok {g : Nat} {w : World} {A : Option Addr} {n c : Nat} {l : List Int} (h : Vw g w A n c l) (hb : Byt l) (hl : n ≤ 140737488351232) (hT : TAB w) (ho : ok1 l) :
    Calls Tryd.prog 30 #[.slice A n c] w fun e w' => Below w.heap.size w w' ∧ ∃ A1 c1 A2 c2, e = .returned (.tuple #[.slice A1 (body1 l).length c1, .slice A2 (rest1 l).length c2, .int .i64 0]) ∧ Vw g w A1 (body1 l).length c1 (body1 l) ∧ Vw g w A2 (rest1 l).length c2 (rest1 l) := by
  have hl0 := h.len
  obtain ⟨m, s, h1, h2, h3, h4, h5, h6⟩ := ok1_ref hb (by omega) ho
  cases A with
  | none =>
    obtain ⟨ad, e, _⟩ := h.C.2.2 (by omega)
    cases e
  | some ad =>
  have HC := Aside0.mk (hp_calls (some ad) c n l w hl0 h.C h.cap hb hl hT _ _ _ h1)
  have b1 := body1_len ho
  have b2 : (rest1 l).length = n - (s + m) := by unfold rest1; rw [List.length_drop]; omega
  have v1 := h.sub s m (by omega)
  have v2 := h.sub (s + m) (n - (s + m)) (by omega)
  rw [show (l.take (s + m)).drop s = body1 l by unfold body1; rw [h2, h3]] at v1
  rw [show (l.take (s + m + (n - (s + m)))).drop (s + m) = rest1 l by unfold rest1; rw [h2, h3, List.take_of_length_le (by omega)]] at v2
  rw [b1, b2, h3]
  have hcap := h.cap
  have e2 : IntKind.i64.wrap ((n : Int) - (s : Int)) = (n : Int) - (s : Int) := by rw [IntKind.wrap_i64]; omega
  have e3 : decide ((n : Int) - (s : Int) < (m : Int)) = false := decide_eq_false (by omega)
  have e4 : IntKind.i64.wrap ((s : Int) + (m : Int)) = (s : Int) + (m : Int) := by rw [IntKind.wrap_i64]; omega
  have e5 : (0 : Int) ≤ (s : Int) + (m : Int) := by omega
  have e6 : (s : Int) ≤ (s : Int) + (m : Int) := by omega
  have e7 : (s : Int) + (m : Int) ≤ (n : Int) := by omega
  have e8 : (s : Int) + (m : Int) ≤ (c : Int) := by omega
  have e9 : (s : Int) ≤ (n : Int) := by omega
  obtain ⟨i0, hi0, hz0, hz1, hz2⟩ := info_parts info5
  have k1 := cut_mid (P := Tryd.prog) 27 5 .i64 .i64 Tryd.underlying27 hi0 1 hz1 (some ad) n c (s : Int) ((s : Int) + (m : Int)) (by omega) e6 e7 hcap
  have k2 := cut_from (P := Tryd.prog) 27 5 .i64 Tryd.underlying27 hi0 1 hz1 (some ad) n c ((s : Int) + (m : Int)) e5 e7
  rw [show ((s : Int) + (m : Int)).toNat = s + m by omega, Int.toNat_natCast, Nat.mul_one, show s + m - s = m by omega, show (Option.map (fun x => x.add s) (some ad)) = some (ad.add s) from rfl] at k1
  rw [show ((s : Int) + (m : Int)).toNat = s + m by omega, Nat.mul_one, show (Option.map (fun x => x.add (s + m)) (some ad)) = some (ad.add (s + m)) from rfl] at k2
  obtain ⟨A1, hA1⟩ : ∃ A1, (if c = s then some ad else some (ad.add s)) = A1 := ⟨_, rfl⟩
  obtain ⟨A2, hA2⟩ : ∃ A2, (if c = s + m then some ad else some (ad.add (s + m))) = A2 := ⟨_, rfl⟩
  rw [hA1] at k1 v1
  rw [hA2] at k2 v2
  have V1 := Aside0.mk v1
  have V2 := Aside0.mk v2
  clear h hT ho h1 h2 h3 hb hl0 v1 v2 b1 b2 hA1 hA2 hi0 hz0 hz1 hz2 e5 e6 e7 e8 e9
  go_enter Tryd.func30, Tryd.ntmps30
  go_wp2_with (go_at_call 37; (with_reducible refine HC.out.mono ?_); rintro e w' ⟨rfl, hb1⟩)
  go_quiet (fail)
  go_wp2
  go_ret3
  exact ⟨pw_below_drewN hb1 _, _, _, _, _, rfl, V1.out, V2.out⟩
end Go.Proofs.YthkmacgjekienaaDoor.P
