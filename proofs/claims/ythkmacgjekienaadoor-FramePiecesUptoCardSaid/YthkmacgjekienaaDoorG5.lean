/- FrameBound. -/
import Derived.Test.YthkmacgjekienaaDoorG4
import Derived.Test.YthkmacgjekienaaDoorG3
namespace Go.Proofs.YthkmacgjekienaaDoor.P
attribute [-simp] List.length_drop List.length_take ByteArray.size_append
open Go.RowKit Go.Shelf Go.Proofs.YthkmacgjekienaaDoor.Pure Go.Proofs.YthkmacgjekienaaDoorW.PrintWords Go.Proofs.YthkmacgjekienaaDoorW.PrintLast Go.Proofs.YthkmacgjekienaaDoorW.PrintMore
set_option linter.unusedVariables false
set_option linter.unusedSimpArgs false
/-- a reader that goes on, and keeps less than one frame can be -/
def RdS (w0 w : World) (g : Nat) : Prop := ∃ B, RdE w0 w g B ∧ Byt B ∧ B.length < 66048
theorem bnd_write {w0 w : World} {g : Nat} (h : RdS w0 w g) (A : Option Addr) (n c : Nat) (l : List Int) (hn : l.length = n) (hl : Kd.C (Kd.int .u8) w A n l) (hc : n ≤ c) (hT : TAB w0) (hB : Below w0.heap.size w0 w) (hby : Byt l) (hsz : n ≤ 2000000) :
    Calls Tryd.prog 14 #[.pointer (some ⟨g, 0, none⟩), .slice A n c] w fun e w' => ∃ vo er, e = .returned (.tuple #[vo, .int .i64 er]) ∧ ((er = 0 ∧ RdS w0 w' g) ∨ (er ≠ 0 ∧ RdC w0 w' g)) ∧ Below w0.heap.size w0 w' := by
  obtain ⟨B, ⟨v, h⟩, hb, hbl⟩ := h
  have hbb := Byt.app hb hby
  have hlen : (B ++ l).length ≤ 140737488353792 := by rw [List.length_append]; omega
  obtain ⟨bs, left, er, hbod⟩ : ∃ bs left er, bodT (B ++ l) = (bs, left, er) := ⟨_, _, _, rfl⟩
  have hcnt := bod_count (B ++ l)
  have herr := bod_err (B ++ l) hbb hlen
  have hleft := left_small (B ++ l) hbb hlen
  have hlb := (bod_left (B ++ l) hbb).1
  rw [hbod] at hcnt herr hleft hlb
  simp only at hcnt herr hleft hlb
  rw [List.length_append] at hcnt
  refine (write_walk h A n c l hn hl hc hT hB hbb hlen bs left er hbod (by omega)).mono ?_
  rintro e w' ⟨vo, v', rfl, h1, h2, _, h3, _⟩
  refine ⟨vo, _, rfl, ?_, h3⟩
  by_cases he : er = 3
  · subst he
    rw [if_pos rfl, decide_eq_false (by simp)] at h2
    exact .inl ⟨if_pos rfl, left, ⟨v', h2⟩, hlb, hleft rfl⟩
  · rw [if_neg he, decide_eq_true he] at h2
    rw [if_neg he]
    exact .inr ⟨by omega, v', h2⟩
theorem RdS.left {w0 w : World} {g : Nat} (h : RdS w0 w g) : ∃ nb : Nat, nb < 66048 ∧ Calls Tryd.prog 17 #[.pointer (some ⟨g, 0, none⟩)] w fun e w' => e = .returned (.int .i64 nb) ∧ w = w' := by
  obtain ⟨B, h, _, hl⟩ := h
  exact ⟨B.length, hl, leftE h _ rfl⟩
theorem RdS.closed {w0 w : World} {g : Nat} (h : RdS w0 w g) : Calls Tryd.prog 19 #[.pointer (some ⟨g, 0, none⟩)] w fun e w' => e = .returned (.bool false) ∧ w = w' := by
  obtain ⟨B, h, _, hl⟩ := h
  exact closedE h
set_option maxRecDepth 100000 in
set_option maxHeartbeats 4000000 in
theorem bound_walk (l : List (List Int)) (A : Option Addr) (c : Nat) (w : World) (hr : Kd.C (Kd.slice 5 (Kd.int .u8)) w A l.length l) (hc : l.length ≤ c) (hby : ∀ x ∈ l, Byt x ∧ x.length ≤ 2000000) (hT : TAB w) :
    Calls Tryd.prog 6 #[.slice A l.length c] w fun e w' => e = .returned (.bool true) ∧ Below w.heap.size w w' := by
  have HR := Aside0.mk hr
  have HT := Aside0.mk hT
  have HBY := Aside0.mk hby
  obtain ⟨n, hn⟩ : ∃ n, l.length = n := ⟨_, rfl⟩
  rw [hn] at hc HR ⊢
  have HN := Aside0.mk hn
  clear hr hT hby hn
  go_enter Tryd.func6, Tryd.ntmps6
  go_wp2_with (go_at_call 11; (with_reducible refine (newE (Below.refl _ w)).mono ?_); rintro e wn ⟨g, rfl, r_, b_, _, _⟩; have R0 := Aside0.mk r_; have B0 := Aside0.mk b_; clear r_ b_)
  go_loopw [4, 5, 6] (fun i u v wr => ∃ q : Nat, q ≤ n ∧ q ≤ 40 ∧ i = .int .i64 q ∧ Aside0 (RdS w wr g) ∧ Aside0 (Below w.heap.size w wr)) (fun i u v _ => 40 - (intOf i).toNat)
  case atStart => exact ⟨0, Nat.zero_le _, Nat.zero_le _, rfl, ⟨⟨[], R0.out, fun x hx => by (cases hx), by simp⟩⟩, B0⟩
  case round =>
    obtain ⟨q, hq, hq40, rfl, HS, HB⟩ := hrel
    clear R0 B0
    by_cases hlt : q < n ∧ q < 40
    · have HRw := Aside0.mk (Kd.C_below HR.out HB.out)
      obtain ⟨ad, A0, c0, hA, hcell, hc0, hC⟩ := at_L1 HRw.out (q : Int) (by omega) (by omega)
      subst hA
      have hmem := HBY.out _ (rd_mem l q (by rw [HN.out]; omega))
      obtain ⟨x, hx⟩ : ∃ x, rd_L1 l (q : Int) = x := ⟨_, rfl⟩
      rw [hx] at hcell hc0 hC hmem
      obtain ⟨xn, hxn⟩ : ∃ n, x.length = n := ⟨_, rfl⟩
      rw [hxn] at hcell hc0 hC hmem
      have WC := Aside0.mk (bnd_write HS.out A0 xn c0 x hxn hC hc0 HT.out HB.out hmem.1 hmem.2)
      have h1 : (q : Int) < (n : Int) := by omega
      have h0 : (0 : Int) ≤ (q : Int) := by omega
      have t1 : decide (q < n) = true := decide_eq_true hlt.1
      have t2 : decide ((q : Int) < 40) = true := decide_eq_true (by omega)
      have hw1 : wrap64 ((q : Int) + 1) = ((q + 1 : Nat) : Int) := by unfold wrap64; omega
      simp only [Int.toNat_natCast] at hcell
      clear hC hmem hx hxn
      go_upto_region 6 with (go_at_call 14; (with_reducible refine WC.out.mono ?_); rintro e w4 ⟨vo, er, rfl, h_, b_⟩; have H4 := Aside0.mk h_; have B4 := Aside0.mk b_; clear h_ b_)
      rcases H4.out with ⟨rfl, h_⟩ | ⟨he, h_⟩
      · have S4 := Aside0.mk h_
        obtain ⟨nb, hnb, L_⟩ := h_.left
        have L4 := Aside0.mk L_
        have e0 : ((0 : Int) != 0) = false := rfl
        have t3 : decide ((nb : Int) < 0) = false := decide_eq_false (by omega)
        have t4 : decide ((66048 : Int) ≤ (nb : Int)) = false := decide_eq_false (by omega)
        clear h_ L_
        go_wp2_with (first
          | (go_at_call 17; (with_reducible refine L4.out.mono ?_); rintro e w_ ⟨rfl, rfl⟩)
          | (go_at_call 19; (with_reducible refine S4.out.closed.mono ?_); rintro e w_ ⟨rfl, rfl⟩))
        exact ⟨⟨q + 1, by omega, by omega, by simp, S4, B4⟩, by simp [intOf]; omega⟩
      · have e0 : (er != 0) = true := by simpa using he
        have R4 := Aside0.mk h_
        clear h_
        go_wp2_with (first
          | (go_at_call 19; (with_reducible refine (closedC R4.out).mono ?_); rintro e w_ ⟨rfl, rfl⟩)
          | (go_at_call 17; (with_reducible refine (leftC R4.out).mono ?_); rintro e w_ ⟨rfl, rfl⟩)
          | (go_at_call 21; (with_reducible refine (awake_calls HT.out B4.out).mono ?_); rintro e w6 ⟨rfl, b_⟩; have B6 := Aside0.mk b_; clear b_))
        go_ret
        exact ⟨rfl, B6.out⟩
    · have hout : (q < n) = False ∨ ((q < n) = True ∧ ((q : Int) < 40) = False) := by
        rcases Nat.lt_or_ge q n with h | h
        · exact .inr ⟨eq_true h, eq_false (by omega)⟩
        · exact .inl (eq_false (by omega))
      clear hlt hq hq40
      rcases hout with c1 | ⟨c1, c2⟩
      all_goals
        go_wp2_with (go_at_call 21; (with_reducible refine (awake_calls HT.out HB.out).mono ?_); rintro e w6 ⟨rfl, b_⟩; have B6 := Aside0.mk b_; clear b_)
        go_ret
        exact ⟨rfl, B6.out⟩
end Go.Proofs.YthkmacgjekienaaDoor.P
