/- Readers that are closed, or none; the document's reader; a body with its header. -/
import Derived.Test.YthkmacgjekienaaDoorF6
namespace Go.Proofs.YthkmacgjekienaaDoor.P
attribute [-simp] List.length_drop List.length_take ByteArray.size_append
open Go.RowKit Go.Shelf Go.Proofs.YthkmacgjekienaaDoor.Pure Go.Proofs.YthkmacgjekienaaDoorW.PrintWords Go.Proofs.YthkmacgjekienaaDoorW.PrintLast Go.Proofs.YthkmacgjekienaaDoorW.PrintMore
set_option linter.unusedVariables false
set_option linter.unusedSimpArgs false
theorem heap_new_cell (w : World) (t : TypeId) (u : Value) : (w.alloc (.cells #[u] t)).cell? ⟨w.heap.size, 0, none⟩ = some u ∧ (w.alloc (.cells #[u] t)).frozen? ⟨w.heap.size, 0, none⟩ = false := ⟨(Boxed.new w t u).cell, (Boxed.new w t u).frozen⟩
set_option maxRecDepth 100000 in
set_option maxHeartbeats 1000000 in
theorem write_closed {lo : Nat} {w : World} {g : Nat} {v : Value} {B : List Int} (hR : Rd lo w g v B true) (A : Value) :
    Calls Tryd.prog 14 #[.pointer (some ⟨g, 0, none⟩), A] w fun e w' => e = .returned (.tuple #[.slice none 0 0, .int .i64 70]) ∧ Below w.heap.size w w' := by
  have HRa := Aside0.mk (hR.below (below_alloc (Below.refl _ w) (.cells #[.slice none 0 0] 22)))
  have h1 := HRa.out.c1
  have h2 := HRa.out.c2
  obtain ⟨k1, k2⟩ := heap_new_cell w 22 (.slice none 0 0)
  clear hR
  go_enter Tryd.func14, Tryd.ntmps14
  go_wp2_with (go_at_call 29; (with_reducible refine (none_calls HRa.out.c1).mono ?_); rintro e w' ⟨rfl, rfl⟩)
  exact bodyPost_ret (results_ct (g := w.heap.size) (A := none) (n := 0) (c := 0) rfl rfl rfl k1) rfl ⟨rfl, below_alloc (Below.refl _ w) _⟩
theorem write_none {w : World} (p A : Value) (hp : ∀ W, Below w.heap.size w W → Calls Tryd.prog 29 #[p] W fun e w' => e = .returned (.bool true) ∧ W = w') :
    Calls Tryd.prog 14 #[p, A] w fun e w' => e = .returned (.tuple #[.slice none 0 0, .int .i64 1]) ∧ Below w.heap.size w w' := by
  have HP := Aside0.mk (hp _ (below_alloc (Below.refl _ w) (.cells #[.slice none 0 0] 22)))
  obtain ⟨k1, k2⟩ := heap_new_cell w 22 (.slice none 0 0)
  clear hp
  go_enter Tryd.func14, Tryd.ntmps14
  go_wp2_with (go_at_call 29; (with_reducible refine HP.out.mono ?_); rintro e w' ⟨rfl, rfl⟩)
  exact bodyPost_ret (results_ct (g := w.heap.size) (A := none) (n := 0) (c := 0) rfl rfl rfl k1) rfl ⟨rfl, below_alloc (Below.refl _ w) _⟩
set_option maxRecDepth 100000 in
set_option maxHeartbeats 2000000 in
/-- writes: what a reader that goes on answers is what was asked. -/
theorem writes_calls {w0 w : World} {g : Nat} {v : Value} {B : List Int} (hR : Rd w0.heap.size w g v B false) (s : ByteArray) (Aw : Option Addr) (cw : Nat) (ws : List ByteArray) (hw : Kd.C Kd.string w Aw ws.length ws) (hcw : ws.length ≤ cw) (hwl : ∀ ad, Aw = some ad → ∃ cells, w.heap[ad.block]? = some (.cells cells 9 (0, 0)))
    (hT : TAB w0) (hB : Below w0.heap.size w0 w) (hby : Byt (B ++ bytesOf s)) (hsz : (B ++ bytesOf s).length ≤ 1000000) (bs : List (List Int)) (left : List Int) (hbod : bodT (B ++ bytesOf s) = (bs, left, 3)) (hws : bs.map strOfNums = ws) (hc1 : bs.length ≤ 1000000) :
    Calls Tryd.prog 32 #[.pointer (some ⟨g, 0, none⟩), .string s, .slice Aw ws.length cw] w fun e w' => e = .returned (.bool true) ∧ ∃ v', Rd w0.heap.size w' g v' left false ∧ Below w0.heap.size w0 w' := by
  have hss : s.size ≤ 1000000 := by rw [List.length_append, bytesOf_length] at hsz; omega
  have hxs : X_bytes.f s = some (bytesOf s) := by unfold X_bytes.f; rw [if_pos (by omega)]
  have HXS := Aside0.mk hxs
  have HR := Aside0.mk hR
  have HW := Aside0.mk hw
  have HWL := Aside0.mk hwl
  have HT := Aside0.mk hT
  have HB := Aside0.mk hB
  have HBy := Aside0.mk hby
  have HSZ := Aside0.mk hsz
  have HBOD := Aside0.mk hbod
  have HWS := Aside0.mk hws
  have HC1 := Aside0.mk hc1
  have hle : ws.length = bs.length := by rw [← hws, List.length_map]
  have HLE := Aside0.mk hle
  clear hR hw hwl hT hB hby hsz hbod hws hss hxs hle
  go_enter Tryd.func32, Tryd.ntmps32
  go_upto_region 2 with (first
    | ((with_reducible refine gate_dst (N := 13) rfl ?_); refine conv_run rfl (.tmp 12) 9 27 5 rfl Tryd.underlying9 Tryd.underlying27 Tryd.underlying5 s rfl HXS.out ?_; intro vb w1 hv1 hb1; obtain ⟨Ab, cb, rfl⟩ := Kd.V_slice hv1; have HV1 := Aside0.mk hv1; have HB1 := Aside0.mk hb1; clear hv1 hb1)
    | (go_at_call 14; (with_reducible refine (write_walk (HR.out.below HB1.out) Ab _ cb (bytesOf s) rfl (Kd.V_reads' HV1.out).2.2 (Kd.V_reads' HV1.out).2.1 HT.out (HB.out.trans (HB1.out.mono HB.out.size)) HBy.out (by have := HSZ.out; omega) bs left 3 HBOD.out (by have := HC1.out; omega)).mono ?_); rintro e w2 ⟨vo, v2, rfl, ho2, hr2, _, hb2, hk2⟩; obtain ⟨Ao, co, rfl⟩ := Kd.R_slice ho2; have HO2 := Aside0.mk ho2; have HR2 := Aside0.mk hr2; have HB2 := Aside0.mk hb2; have HK2 := Aside0.mk hk2; clear ho2 hr2 hb2 hk2))
  have e0 : ((0 : Int) != 0) = false := rfl
  have e1 : ((bs.length : Int) != (ws.length : Int)) = false := by rw [HLE.out]; simp
  have HCo := Aside0.mk (Kd.R_reads' HO2.out).2.2
  have HCw := Aside0.mk (show Kd.C Kd.string w2 Aw ws.length ws from by
    have hw1 := Kd.C_below HW.out HB1.out
    rcases Nat.eq_zero_or_pos ws.length with h0 | h0
    · obtain rfl := List.eq_nil_of_length_eq_zero h0
      exact ⟨rfl, by decide, fun h => absurd h (by decide)⟩
    · obtain ⟨ad, e, _⟩ := hw1.2.2 h0
      subst e
      obtain ⟨cells, hc⟩ := HWL.out ad rfl
      have hc1 := (HB1.out.block _ (blk_lt hc)).trans hc
      have hkeep : w2.heap[ad.block]? = w1.heap[ad.block]? := HK2.out ad.block (blk_lt hc1) (fun e => by
        have h2 := (HR.out.below HB1.out).blk
        rw [← e, hc1] at h2; cases h2) (fun e => by
        obtain ⟨cells2, h2⟩ := Kd.R_typed (HR.out.below HB1.out).row _ e.symm
        rw [hc1] at h2; cases h2)
      refine ⟨hw1.1, hw1.2.1, fun hp => ?_⟩
      obtain ⟨ad', e', hh⟩ := hw1.2.2 hp
      cases e'
      refine ⟨ad, rfl, fun j x hx => ?_⟩
      obtain ⟨cs, h3, h4, h5⟩ := hh j x hx
      refine ⟨cs, h3, h4, fun i u hu => ?_⟩
      have h6 := h5 i u hu
      unfold World.cell? at h6 ⊢
      rw [show (ad.add (j * Kd.string.sz + i)).block = ad.block from add_block _ _] at h6 ⊢
      rw [hkeep]; exact h6)
  clear HW HWL HB1 HK2 HV1 HB
  go_wp2
  go_loopw [9] (fun i wr => ∃ q : Nat, q ≤ bs.length ∧ i = .int .i64 q ∧ Aside0 (∃ m, wr = w2.drewN m)) (fun i _ => bs.length - (intOf i).toNat)
  case atStart => exact ⟨0, Nat.zero_le _, rfl, ⟨0, rfl⟩⟩
  case round =>
    obtain ⟨q, hq, rfl, HM⟩ := hrel
    obtain ⟨m, rfl⟩ := HM.out
    have hbl := HC1.out
    by_cases hlt : q < bs.length
    · obtain ⟨ad, A0, c0, hA, hcell, hc0, hC⟩ := at_L1 HCo.out (q : Int) (by omega) (by omega)
      obtain ⟨ad2, hA2, hcell2⟩ := Kd.at_string HCw.out (q : Int) (by omega) (by rw [HLE.out]; omega)
      subst hA
      subst hA2
      have hstr : rdOf ByteArray.empty ws (q : Int) = strOfNums (rd_L1 bs (q : Int)) := by
        have := HWS.out
        subst this
        unfold rdOf rd_L1
        rw [Int.toNat_natCast]
        simp [List.getD, hlt]
      rw [hstr] at hcell2
      obtain ⟨x, hx⟩ : ∃ x, rd_L1 bs (q : Int) = x := ⟨_, rfl⟩
      rw [hx] at hcell hcell2 hC hc0
      have hcv : ∀ k, (convert 27 9 (.slice A0 x.length c0)).run Tryd.prog (w2.drewN k) = .ok (.string (strOfNums x)) (w2.drewN k) := fun k => Kd.C_string Tryd.underlying27 Tryd.underlying5 Tryd.underlying9 (Kd.C_drewN hC k)
      have h1 : (q : Int) < (bs.length : Int) := by omega
      have h2 : (q : Int) < (ws.length : Int) := by rw [HLE.out]; omega
      have h0 : (0 : Int) ≤ (q : Int) := by omega
      have t1 : decide (q < bs.length) = true := decide_eq_true hlt
      have hw1 : wrap64 ((q : Int) + 1) = ((q + 1 : Nat) : Int) := by unfold wrap64; omega
      simp only [Int.toNat_natCast] at hcell hcell2
      clear hstr hx hC HM
      go_wp2
      go_quiet (fail)
      go_wp2
      exact ⟨⟨q + 1, by omega, by simp, ⟨_, rfl⟩⟩, by simp [intOf]; omega⟩
    · have t1 : decide (q < bs.length) = false := decide_eq_false hlt
      clear HM
      go_wp2
      go_ret
      exact ⟨rfl, _, HR2.out.below (pw_below_drewN (Below.refl _ w2) m), pw_below_drewN HB2.out m⟩
end Go.Proofs.YthkmacgjekienaaDoor.P
