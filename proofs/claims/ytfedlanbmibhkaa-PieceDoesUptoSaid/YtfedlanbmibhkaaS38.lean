/- PieceSlice: the walk. -/
import Derived.Test.YtfedlanbmibhkaaSR
namespace Go.Proofs.Ytfedlanbmibhkaa.P
open Go.RowKit Go.Shelf Go.Proofs.YtfedlanbmibhkaaW.PrintWords Go.Proofs.YtfedlanbmibhkaaW.PrintLast Go.Proofs.YtfedlanbmibhkaaW.PrintMore
set_option linter.unusedVariables false
set_option linter.unusedSimpArgs false
/-- a row of bytes that may be spoilt -/
def SpR (W : World) (A : Option Addr) (n lo : Nat) : Prop := 0 < n → ∃ ad cur, A = some ad ∧ ad = ⟨ad.block, 0, none⟩ ∧ lo ≤ ad.block ∧ W.heap[ad.block]? = some (.cells cur 5 (0, 0)) ∧ ∀ q, q < n → ∃ y : Int, cur[q]? = some (.int .u8 y)
theorem SpR.of_own {w : World} {lo n c : Nat} {A : Option Addr} {x : List Int} (h : w.ownsRow lo 5 1 (.slice A n c) n (nums .u8 x)) : SpR w A n lo := by
  intro h0
  rcases own_rowAt h with ⟨e, h1, -⟩ | ⟨g, cap, cur, e, hR⟩
  · omega
  · injection e with e1 e2 e3
    subst e1
    refine ⟨⟨g, 0, none⟩, cur, rfl, rfl, hR.lo, hR.blk, fun q hq => ?_⟩
    have hl := hR.len
    have hx : x.length = n := by unfold nums at hl; rwa [List.length_map] at hl
    obtain ⟨y, hy⟩ := getElem_lt (show q < x.length by omega)
    refine ⟨y, ?_⟩
    have : (nums .u8 x)[q]? = some (.int .u8 y) := by unfold nums; rw [List.getElem?_map, hy]; rfl
    rw [← hR.tk, List.getElem?_take_of_lt hq] at this
    simpa using this
theorem SpR.below {w w' : World} {A : Option Addr} {n lo : Nat} (h : SpR w A n lo) (hb : Below w.heap.size w w') : SpR w' A n lo := fun h0 => by
  obtain ⟨ad, cur, e1, e2, h1, h2, h3⟩ := h h0
  exact ⟨ad, cur, e1, e2, h1, (hb.block _ (blk_ltF h2)).trans h2, h3⟩
theorem SpR.set {w : World} {ad : Addr} {n lo : Nat} (h : SpR w (some ad) n lo) (j : Nat) (hj : j < n) (z : Int) : SpR (w.setCell (ad.add j) (.int .u8 z)) (some ad) n lo := fun h0 => by
  obtain ⟨ad', cur, e1, e2, h1, h2, h3⟩ := h h0
  cases e1
  have e3 : ad.add j = ⟨ad.block, j, none⟩ := by rw [e2, add_at, Nat.zero_add]
  refine ⟨ad, cur.setIfInBounds j (.int .u8 z), rfl, e2, h1, by rw [e3]; exact blk_set h2 j _, fun q hq => ?_⟩
  rw [Array.getElem?_setIfInBounds]
  split
  · rename_i hqj
    obtain ⟨y, hy⟩ := h3 q hq
    have := (Array.getElem?_eq_some_iff.1 hy).1
    subst hqj
    rw [if_pos this]
    exact ⟨z, rfl⟩
  · exact h3 q hq
theorem SpR.at {w : World} {A : Option Addr} {n lo : Nat} (h : SpR w A n lo) (j : Nat) (hj : j < n) : ∃ ad y, A = some ad ∧ lo ≤ (ad.add j).block ∧ w.cell? (ad.add j) = some (.int .u8 y) ∧ w.frozen? (ad.add j) = false := by
  obtain ⟨ad, cur, e1, e2, h1, h2, h3⟩ := h (by omega)
  obtain ⟨y, hy⟩ := h3 j hj
  have e3 : ad.add j = ⟨ad.block, j, none⟩ := by rw [e2, add_at, Nat.zero_add]
  exact ⟨ad, y, e1, by rw [e3]; exact h1, by rw [e3, blk_cell h2 j]; exact hy, by rw [e3]; exact blk_frozen h2 j⟩
theorem cells5p {w : World} {g : Nat} {t : TypeId} {a b c d e : Value} (h : w.heap[g]? = some (.cells #[a, b, c, d, e] t (0, 0))) : w.cell? ⟨g, 0, none⟩ = some a ∧ w.cell? ⟨g, 1, none⟩ = some b ∧ w.cell? ⟨g, 2, none⟩ = some c := ⟨blk_cell h 0, blk_cell h 1, blk_cell h 2⟩
theorem cells2p {w : World} {g : Nat} {t : TypeId} {a b : Value} (h : w.heap[g]? = some (.cells #[a, b] t (0, 0))) : w.cell? ⟨g, 0, none⟩ = some a ∧ w.cell? ⟨g, 1, none⟩ = some b := ⟨blk_cell h 0, blk_cell h 1⟩
theorem below_setA {w W : World} {p : Addr} {v : Value} (h : Below w.heap.size w W) (hp : w.heap.size ≤ p.block) : Below w.heap.size w (W.setCell p v) := h.setCell hp _
set_option maxRecDepth 100000 in
set_option maxHeartbeats 40000000 in
theorem slice_walk (l : List Int) (A : Option Addr) (c : Nat) (f t : Int) (xs : List Int) (Ax : Option Addr) (cx : Nat) (b1 b2 : Bool) (a0 a1 : Int) (w : World) (hr : Kd.C (Kd.int .u8) w A l.length l) (hc : l.length ≤ c) (hrx : Kd.C (Kd.int .u8) w Ax xs.length xs) (hcx : xs.length ≤ cx) (hb : l.length ≤ 1048576) (hbx : xs.length ≤ 1048576) :
    Calls Try.prog 4 #[.slice A l.length c, .agg #[.int .i64 f, .int .i64 t, .slice Ax xs.length cx, .bool b1, .bool b2], .agg #[.int .i64 a0, .int .i64 a1]] w fun e w' => e = .returned (.bool true) ∧ Below w.heap.size w w' := by
  obtain ⟨n, hn⟩ : ∃ n, l.length = n := ⟨_, rfl⟩
  obtain ⟨m, hm⟩ : ∃ m, xs.length = m := ⟨_, rfl⟩
  have q1 := repA_full f t xs (newS_full l)
  have q2 := repA_flat f t xs (newS_full l)
  have q3 := repA_len f t xs (newS_full l)
  have q4 := newS_len l
  rw [newS_flat] at q2
  obtain ⟨ps, hps⟩ : ∃ ps, repA (newS l) f t xs = ps := ⟨_, rfl⟩
  rw [hps] at q1 q2 q3
  obtain ⟨x, hx⟩ : ∃ x, cutA ps.flatten a0 a1 = x := ⟨_, rfl⟩
  obtain ⟨xn, hxn⟩ : ∃ n, x.length = n := ⟨_, rfl⟩
  obtain ⟨er, her⟩ : ∃ r, errA ps.flatten.length a0 a1 = r := ⟨_, rfl⟩
  have q5 := cutA_len ps.flatten a0 a1
  rw [hx, hxn] at q5
  rw [hn] at hr hc hb q2 q4 ⊢
  rw [hm] at hrx hcx hbx q2 ⊢
  have HPS := Aside0.mk hps
  have HN := Aside0.mk hn
  have HM := Aside0.mk hm
  have HX := Aside0.mk hx
  have HXN := Aside0.mk hxn
  have HER := Aside0.mk her
  have HR := Aside0.mk hr
  have HRX := Aside0.mk hrx
  have HC := Aside0.mk hc
  have HCX := Aside0.mk hcx
  have HB := Aside0.mk hb
  have HBX := Aside0.mk hbx
  have Q1 := Aside0.mk q1
  have Q2 := Aside0.mk (show ps.flatten.length ≤ 3000000 by omega)
  have Q5 := Aside0.mk (show xn ≤ 3000000 by omega)
  have Q4 := Aside0.mk (show (newS l).length ≤ 1 by omega)
  have Q6 := Aside0.mk (show (newS l).flatten.length ≤ 1048576 by rw [newS_flat, hn]; exact hb)
  clear hps hn hm hx hxn her hr hrx hc hcx hb hbx q1 q2 q3 q4 q5
  go_enter Try.func4, Try.ntmps4
  go_upto_region 1 with (fail)
  have hb1 := below_alloc (below_alloc (Below.refl w.heap.size w) (.cells #[.int .i64 f, .int .i64 t, .slice Ax m cx, .bool b1, .bool b2] 34)) (.cells #[.int .i64 a0, .int .i64 a1] 39)
  have k1 : ((w.alloc (.cells #[.int .i64 f, .int .i64 t, .slice Ax m cx, .bool b1, .bool b2] 34)).alloc (.cells #[.int .i64 a0, .int .i64 a1] 39)).heap[w.heap.size]? = some (.cells #[.int .i64 f, .int .i64 t, .slice Ax m cx, .bool b1, .bool b2] 34 (0, 0)) := (Below.heap_alloc _ _ _ (by simp)).trans (heap_alloc_new w _)
  have k2 := heap_alloc_new (w.alloc (.cells #[.int .i64 f, .int .i64 t, .slice Ax m cx, .bool b1, .bool b2] 34)) (.cells #[.int .i64 a0, .int .i64 a1] 39)
  rw [World.size_alloc] at k2
  have KL := Aside0.mk (show w.heap.size + 1 < ((w.alloc (.cells #[.int .i64 f, .int .i64 t, .slice Ax m cx, .bool b1, .bool b2] 34)).alloc (.cells #[.int .i64 a0, .int .i64 a1] 39)).heap.size by simp)
  have K1 := Aside0.mk k1
  have K2 := Aside0.mk k2
  have B1 := Aside0.mk hb1
  clear k1 k2 hb1
  generalize (w.alloc (.cells #[.int .i64 f, .int .i64 t, .slice Ax m cx, .bool b1, .bool b2] 34)).alloc (.cells #[.int .i64 a0, .int .i64 a1] 39) = w1 at *
  have HR1 := Aside0.mk (Kd.C_below HR.out B1.out)
  have HRX1 := Aside0.mk (Kd.C_below HRX.out B1.out)
  have LX := Aside0.mk (fun (h0 : 0 < m) ad (e : Ax = some ad) => Nat.lt_of_lt_of_le (C_lt_b HRX.out h0 ad e) B1.out.size)
  obtain ⟨x0, x1, x2⟩ := cells5p K1.out
  obtain ⟨y0, y1⟩ := cells2p K2.out
  go_wp2_with (first
    | (go_at_call 13; refine (show Calls Try.prog 13 #[.slice A n c] _ (fun e w' => ∃ t v, e = .returned (.pointer (some ⟨t, 0, none⟩)) ∧ Tab_b w1.heap.size w' t (fun g => w1.heap.size ≤ g) v (newS l) ∧ Below w1.heap.size w1 w' ∧ w1.heap.size ≤ t ∧ ∀ b, v.ownBlock = some b → w1.heap.size ≤ b) from by have := new_calls_b (B := w1.heap.size) A c l (by rw [HN.out]; exact HR1.out) (by have := HB.out; rw [HN.out]; omega) (Nat.le_refl _); rwa [HN.out] at this).mono ?_; rintro e w2 ⟨tb, v, rfl, T_, b_, -, -⟩; have T := Aside0.mk (T_.weaken (fun _ _ => trivial) : Tab_b _ _ _ (fun _ => True) _ _); have SB := Aside0.mk b_; clear T_ b_)
    | (go_at_call 14; refine (newRx HN.out (Kd.C_below HR1.out SB.out) HC.out (by have := HB.out; omega)).mono ?_; rintro e w3 ⟨rb, rfl, R_, b_, lr_⟩; have R := Aside0.mk R_; have LR := Aside0.mk (Nat.le_trans SB.out.size lr_); replace T := Aside0.mk (T.out.below b_); replace SB := Aside0.mk (below_step SB.out b_); clear R_ b_ lr_ x0 x1 x2 y0 y1; obtain ⟨x0, x1, x2⟩ := cells5p (blk_below K1.out SB.out); obtain ⟨y0, y1⟩ := cells2p (blk_below K2.out SB.out))
    | (go_at_call 19; refine (repA_calls T.out f t (by have := Q6.out; omega) (by have := Q4.out; omega) Ax cx m xs HM.out (Kd.C_below HRX1.out SB.out) (by have := HBX.out; omega) (fun h0 ad ea => ⟨fun e_ => absurd (LX.out h0 ad ea) (Nat.not_lt.mpr (e_ ▸ T.out.lo)), fun e_ => absurd (LX.out h0 ad ea) (Nat.not_lt.mpr (T.out.ownB _ e_.symm).1)⟩) SB.out.size).mono ?_; rintro e w4 ⟨rfl, v', T_, e_, -⟩; rw [HPS.out] at T_; replace R := Aside0.mk (R.out.eff T.out e_); replace SB := Aside0.mk (e_.to_below T.out.lo (fun b hb => (T.out.ownB b hb).1) SB.out SB.out.size); replace T := Aside0.mk (T_.weaken (fun _ _ => trivial) : Tab_b _ _ _ (fun _ => True) _ _); clear T_ e_ x0 x1 x2 y0 y1; obtain ⟨x0, x1, x2⟩ := cells5p (blk_below K1.out SB.out); obtain ⟨y0, y1⟩ := cells2p (blk_below K2.out SB.out))
    | (go_at_call 20; refine (rep14A R.out (newS_full l) f t (by have := Q6.out; omega) HM.out (by have := HBX.out; omega) (Kd.C_below HRX1.out SB.out) HCX.out).mono ?_; rintro e w5 ⟨rfl, R_, g_⟩; rw [HPS.out] at R_; obtain ⟨cs_, bx_⟩ := R.out.box; replace T := Aside0.mk (T.out.grown bx_ g_); replace SB := Aside0.mk (pw_below_grown SB.out _ SB.out.size g_ (fun q hq => by injection hq with hq; subst hq; exact LR.out)); replace R := Aside0.mk R_; clear R_ g_ bx_ x0 x1 x2 y0 y1; obtain ⟨x0, x1, x2⟩ := cells5p (blk_below K1.out SB.out); obtain ⟨y0, y1⟩ := cells2p (blk_below K2.out SB.out))
    | (go_at_call 22; refine (show Calls Try.prog 22 _ _ (fun e w' => ∃ Ax cx, e = .returned (.tuple #[.slice Ax xn cx, .int .i64 er]) ∧ w'.ownsRow w5.heap.size 5 1 (.slice Ax xn cx) xn (nums .u8 x) ∧ Below w5.heap.size w5 w') from by have := slice22A T.out a0 a1 (by have := Q2.out; omega) x xn HX.out HXN.out; rwa [HER.out] at this).mono ?_; rintro e w6 ⟨A6, c6, rfl, o_, b_⟩; have O6 := Aside0.mk o_; have S6 := Aside0.mk b_; clear o_ b_ x0 x1 x2 y0 y1; obtain ⟨y0, y1⟩ := cells2p (blk_below K2.out (below_step SB.out S6.out)))
    | (go_at_call 23; refine (show Calls Try.prog 23 _ _ (fun e w' => ∃ Ax cx, e = .returned (.tuple #[.slice Ax xn cx, .int .i64 er]) ∧ w'.ownsRow w6.heap.size 5 1 (.slice Ax xn cx) xn (nums .u8 x) ∧ Below w6.heap.size w6 w') from by have := slice23A (R.out.below S6.out) a0 a1 (by have := Q2.out; omega) x xn HX.out HXN.out; rwa [HER.out] at this).mono ?_; rintro e w7 ⟨A7, c7, rfl, o_, b_⟩; have O7 := Aside0.mk o_; have S7 := Aside0.mk b_; clear o_ b_ y0 y1)
    | (go_at_call 16; refine (eqB HXN.out (own_bytes O6.out HXN.out S7.out).2 (own_bytes O6.out HXN.out S7.out).1 (own_bytes O7.out HXN.out (Below.refl _ _)).2 (own_bytes O7.out HXN.out (Below.refl _ _)).1 (by have := Q5.out; omega)).mono ?_; rintro e w8 ⟨rfl, b_⟩; have S8 := Aside0.mk b_; clear b_))
  go_loopg [13] (xn + 1) (fun kq v13 wr => ∃ j : Nat, v13 = .int .i64 (j : Int) ∧ Aside0 (j ≤ xn ∧ xn < kq + j) ∧ Aside0 (SpR wr A6 xn w5.heap.size) ∧ Aside0 (Below w5.heap.size w5 wr))
  case atStart => exact ⟨0, rfl, ⟨by omega⟩, ⟨((SpR.of_own O6.out).below S7.out).below S8.out⟩, ⟨below_step (below_step S6.out S7.out) S8.out⟩⟩
  case round =>
    obtain ⟨j, rfl, hj, SP, SW⟩ := hrel
    cases gk with
    | zero => exact absurd hj.out (by omega)
    | succ k1 =>
      by_cases hlt : j < xn
      · have t1 : decide (j < xn) = true := decide_eq_true hlt
        obtain ⟨ad, y, rfl, hlo, hy, hfz⟩ := SP.out.at j hlt
        have LO := Aside0.mk hlo
        have HL := Aside0.mk hlt
        have p1 : (0 : Int) ≤ (j : Int) := by omega
        have p2 : (j : Int) < (xn : Int) := by omega
        have w2_ : wrap64 ((j : Int) + 1) = (j : Int) + 1 := w64_in _ (by omega) (by have := Q5.out; omega)
        clear hlt hlo
        go_wp2_with (fail)
        go_roundg k1
        case measure => omega
        case rel => exact ⟨j + 1, by go_num, ⟨by have := hj.out; have := HL.out; omega⟩, ⟨SP.out.set j HL.out _⟩, ⟨below_setA SW.out LO.out⟩⟩
      · have t1 : decide (j < xn) = false := decide_eq_false hlt
        clear hlt
        go_wp2_with (first
          | (go_at_call 15; refine (sameA (T.out.below SW.out) (R.out.below SW.out) (by have := Q2.out; omega)).mono ?_; rintro e w9 ⟨rfl, b_⟩; have S9 := Aside0.mk b_; clear b_)
          | (go_at_call 21; refine (works_calls _).mono ?_; rintro e w10 ⟨rfl, b_⟩; have S10 := Aside0.mk b_; clear b_))
        go_ret
        exact ⟨rfl, below_step B1.out (below_step SB.out (below_step SW.out (below_step S9.out S10.out)))⟩
end Go.Proofs.Ytfedlanbmibhkaa.P
