/- escape.Unquote in the printed form. -/
import Derived.Test.YtjioglaobabmmaaDoorP1
import Derived.Test.YtjioglaobabmmaaDoorP3
import Derived.Test.YtjioglaobabmmaaDoorShelf
import Derived.Test.YtjioglaobabmmaaDoorBuilder
import Derived.Shelf.Strings.MapGrows
import Derived.Lib.BufferKept
import Derived.WalkKit
import Derived.BigCall
namespace Go.Proofs.YtjioglaobabmmaaDoor.P
attribute [-simp] List.length_drop List.length_take
open Go.RowKit Go.Proofs.YtjioglaobabmmaaDoorW.PrintWords Go.Proofs.YtjioglaobabmmaaDoorW.PrintLast Go.Proofs.YtjioglaobabmmaaDoorW.PrintMore
set_option linter.unusedVariables false
set_option linter.unusedSimpArgs false
def toU8 (l : List Int) : List UInt8 := l.map fun x => UInt8.ofNat x.toNat
def uq : Nat → List Int → Int → List UInt8 → Option (ByteArray × Int × Int)
  | 0, _, _, _ => none
  | k + 1, l, at_, acc =>
    if at_ < (l.length : Int) then
      if 0 ≤ at_ then
        if rd l at_ = 34 then some (⟨acc.toArray⟩, wrap64 (at_ + 1), 0)
        else if rd l at_ < 32 then some (⟨#[]⟩, 0, 80)
        else if rd l at_ = 92 then
          (escape_escaped.f k (l.drop at_.toNat)).bind fun t =>
            if t.2.2 = 0 then (if acc.length + 4 ≤ 140737488355328 ∧ -2147483648 ≤ t.1 ∧ t.1 ≤ 2147483647 then uq k l (wrap64 (at_ + t.2.1)) (acc ++ Lib.encodeRune t.1) else none)
            else some (⟨#[]⟩, 0, t.2.2)
        else
          (runes_Decode.f k l at_).bind fun t =>
            if t.2.2 = 0 then (if at_ < wrap64 (at_ + t.2.1) ∧ wrap64 (at_ + t.2.1) ≤ (l.length : Int) ∧ acc.length + ((l.take (wrap64 (at_ + t.2.1)).toNat).drop at_.toNat).length ≤ 140737488355328 ∧ (∀ x ∈ (l.take (wrap64 (at_ + t.2.1)).toNat).drop at_.toNat, 0 ≤ x ∧ x < 256) then uq k l (wrap64 (at_ + t.2.1)) (acc ++ toU8 ((l.take (wrap64 (at_ + t.2.1)).toNat).drop at_.toNat)) else none)
            else some (⟨#[]⟩, 0, 10)
      else none
    else some (⟨#[]⟩, 0, 3)
def escape_Unquote.f (k : Nat) (l0 : List Int) (a1 : Int) : Option (ByteArray × Int × Int) :=
  if a1 < 0 then some (⟨#[]⟩, 0, 9) else if a1 > (l0.length : Int) then some (⟨#[]⟩, 0, 9) else if a1 = (l0.length : Int) then some (⟨#[]⟩, 0, 3)
  else if rd l0 a1 = 34 then uq k l0 (wrap64 (a1 + 1)) [] else some (⟨#[]⟩, 0, 80)
theorem uq_mono : ∀ (k : Nat) (l : List Int) (at_ : Int) (acc : List UInt8), LeO (uq k l at_ acc) (uq (k + 1) l at_ acc)
  | 0, _, _, _ => LeO.none _
  | k + 1, l, at_, acc => by
    intro r h
    rw [uq] at h ⊢
    split at h
    · rename_i c1
      rw [if_pos c1]
      split at h
      · rename_i c2
        rw [if_pos c2]
        split at h
        · rename_i c3; rw [if_pos c3]; exact h
        · rename_i c3
          rw [if_neg c3]
          split at h
          · rename_i c4; rw [if_pos c4]; exact h
          · rename_i c4
            rw [if_neg c4]
            split at h
            · rename_i c5
              rw [if_pos c5]
              obtain ⟨t, h1, h⟩ := Option.bind_eq_some_iff.mp h
              rw [escape_escaped.mono _ k _ h1, Option.bind_some]
              split at h
              · rename_i c6
                rw [if_pos c6]
                split at h
                · rename_i c7; rw [if_pos c7]; exact uq_mono k _ _ _ r h
                · cases h
              · rename_i c6; rw [if_neg c6]; exact h
            · rename_i c5
              rw [if_neg c5]
              obtain ⟨t, h1, h⟩ := Option.bind_eq_some_iff.mp h
              rw [runes_Decode.mono _ _ k _ h1, Option.bind_some]
              split at h
              · rename_i c6
                rw [if_pos c6]
                split at h
                · rename_i c7; rw [if_pos c7]; exact uq_mono k _ _ _ r h
                · cases h
              · rename_i c6; rw [if_neg c6]; exact h
      · cases h
    · rename_i c1; rw [if_neg c1]; exact h
theorem escape_Unquote.mono (l0 : List Int) (a1 : Int) (k : Nat) : LeO (escape_Unquote.f k l0 a1) (escape_Unquote.f (k + 1) l0 a1) := by
  unfold escape_Unquote.f
  exact LeO.ite (LeO.refl _) (LeO.ite (LeO.refl _) (LeO.ite (LeO.refl _) (LeO.ite (uq_mono k _ _ _) (LeO.refl _))))
theorem cells_toU8 (l : List Int) (h : ∀ x ∈ l, 0 ≤ x ∧ x < 256) : l.map (Value.int .u8) = Lib.byteCells (toU8 l) := by
  unfold Lib.byteCells toU8
  rw [List.map_map]
  apply List.map_congr_left
  intro x hx
  have := h x hx
  simp only [Function.comp_def, UInt8.toNat_ofNat']
  congr 1
  omega
theorem isB_drewN {B b : Nat} {bs : List Value} {w : World} (h : Lib.IsBuilderF 50 5 B b bs w) (n : Nat) : Lib.IsBuilderF 50 5 B b bs (w.drewN n) := h
theorem news_drewN {w' : World} {ad : Addr} {vs : List Value} (h : ∀ (j : Nat) (u : Value), vs[j]? = some u → w'.cell? (ad.add j) = some u) (n : Nat) : ∀ (j : Nat) (u : Value), vs[j]? = some u → (w'.drewN n).cell? (ad.add j) = some u := h
theorem hnews_of {w' : World} {ad : Addr} {l : List Int} (hrd : ∀ j, j < l.length → w'.cell? (ad.add j) = some (.int .u8 (l.getD j 0))) : ∀ (j : Nat) (u : Value), (l.map (Value.int .u8))[j]? = some u → w'.cell? (ad.add j) = some u := by
  intro j u hj
  rw [List.getElem?_map] at hj
  obtain ⟨z, hz, rfl⟩ := Option.map_eq_some_iff.mp hj
  have hlt : j < l.length := (List.getElem?_eq_some_iff.1 hz).1
  have := hrd j hlt
  rw [this, List.getD, hz]
  rfl
set_option maxHeartbeats 1000000 in
set_option maxRecDepth 1000000 in
theorem escape_Unquote.calls (k : Nat) (A0 : Option Addr) (c0 : Nat) (l0 : List Int) (a1 : Int) (r1 : ByteArray) (r2 : Int) (r3 : Int) (w : World) (hr0 : Kd.C (Kd.int .u8) w A0 l0.length l0) (hc0 : l0.length ≤ c0) (h : escape_Unquote.f k l0 a1 = some (r1, r2, r3)) :
    Calls Tryd.prog 14 #[.slice A0 l0.length c0, .int .i64 a1] w fun e w' => e = .returned (.tuple #[.string r1, .int .i64 r2, .int .i64 r3]) ∧ Below w.heap.size w w' := by
  unfold escape_Unquote.f at h
  split at h
  · rename_i c1
    obtain ⟨rfl, rfl, rfl⟩ : r1 = ⟨#[]⟩ ∧ r2 = 0 ∧ r3 = 9 := by simp only [Option.some.injEq, Prod.mk.injEq] at h; exact ⟨h.1.symm, h.2.1.symm, h.2.2.symm⟩
    have d1 : decide (a1 < 0) = true := decide_eq_true c1
    go_enter Tryd.func14, Tryd.ntmps14
    go_wp2
    go_ret3
    exact ⟨rfl, Below.refl _ _⟩
  · rename_i c1
    split at h
    · rename_i c2
      obtain ⟨rfl, rfl, rfl⟩ : r1 = ⟨#[]⟩ ∧ r2 = 0 ∧ r3 = 9 := by simp only [Option.some.injEq, Prod.mk.injEq] at h; exact ⟨h.1.symm, h.2.1.symm, h.2.2.symm⟩
      go_enter Tryd.func14, Tryd.ntmps14
      go_wp2
      go_ret3
      exact ⟨rfl, Below.refl _ _⟩
    · rename_i c2
      split at h
      · rename_i c3
        obtain ⟨rfl, rfl, rfl⟩ : r1 = ⟨#[]⟩ ∧ r2 = 0 ∧ r3 = 3 := by simp only [Option.some.injEq, Prod.mk.injEq] at h; exact ⟨h.1.symm, h.2.1.symm, h.2.2.symm⟩
        go_enter Tryd.func14, Tryd.ntmps14
        go_wp2
        go_ret3
        exact ⟨rfl, Below.refl _ _⟩
      · rename_i c3
        have p1 : 0 ≤ a1 := by omega
        have q1 : a1 < (l0.length : Int) := by omega
        obtain ⟨ad, e102, hx⟩ := Kd.at_int hr0 a1 p1 q1
        subst e102
        have qi : (a1.toNat < l0.length) = True := eq_true (by omega)
        split at h
        · rename_i c4
          rw [c4] at hx
          go_enter Tryd.func14, Tryd.ntmps14
          go_wp2
          go_loopg [1] k (fun kq v1 w' => ∃ (x1 : Int) (acc : List UInt8), v1 = .int .i64 x1 ∧ Aside0 (uq kq l0 x1 acc = some (r1, r2, r3)) ∧ Aside0 (kq ≤ k) ∧ Aside0 (Lib.IsBuilderF 50 5 w.heap.size w.heap.size (Lib.byteCells acc) w') ∧ Aside0 (Below w.heap.size w w'))
          case atStart => exact ⟨wrap64 (a1 + 1), [], by first | rfl | (simp [*]; done), ⟨h⟩, ⟨Nat.le_refl _⟩, ⟨Lib.IsBuilderF.of (Lib.fresh_isBuilder 50 5 _)⟩, ⟨below_alloc (Below.refl _ _) _⟩⟩
          case round =>
            obtain ⟨x1, acc, rfl, HA, HK, HI, HB⟩ := hrel
            clear h
            cases gk with
            | zero => exact absurd HA.out (by simp [uq])
            | succ k1 =>
              have h := HA.out
              clear HA
              rw [uq] at h
              split at h
              · rename_i b1
                split at h
                · rename_i b2
                  have HR := Aside0.mk (Kd.C_below hr0 HB.out)
                  obtain ⟨ad2, e103, hx2⟩ := Kd.at_int HR.out x1 b2 b1
                  cases e103
                  have qi2 : (x1.toNat < l0.length) = True := eq_true (by omega)
                  have b1b := eq_true b1
                  have b2b := eq_true b2
                  split at h
                  · rename_i b3
                    obtain ⟨rfl, rfl, rfl⟩ : r1 = ⟨acc.toArray⟩ ∧ r2 = wrap64 (x1 + 1) ∧ r3 = 0 := by simp only [Option.some.injEq, Prod.mk.injEq] at h; exact ⟨h.1.symm, h.2.1.symm, h.2.2.symm⟩
                    rw [b3] at hx2
                    go_wp2_with (go_at_call 31; refine (Tryd.Builder_String_any_k w.heap.size w.heap.size acc _ HI.out HB.out.size).mono ?_; rintro e Wb ⟨rfl, _, b4, _⟩)
                    go_ret3
                    exact ⟨rfl, HB.out.trans b4⟩
                  · rename_i b3
                    have b3b : (rd l0 x1 == 34) = false := beq_eq_false_iff_ne.mpr b3
                    split at h
                    · rename_i b4
                      obtain ⟨rfl, rfl, rfl⟩ : r1 = ⟨#[]⟩ ∧ r2 = 0 ∧ r3 = 80 := by simp only [Option.some.injEq, Prod.mk.injEq] at h; exact ⟨h.1.symm, h.2.1.symm, h.2.2.symm⟩
                      have b4b := decide_eq_true b4
                      go_wp2
                      go_ret3
                      exact ⟨rfl, HB.out⟩
                    · rename_i b4
                      have b4b := decide_eq_false b4
                      split at h
                      · rename_i b5
                        obtain ⟨⟨c, n, e⟩, A1, h⟩ := Option.bind_eq_some_iff.mp h
                        dsimp only at h
                        rw [b5] at hx2
                        obtain ⟨i011, hi011, _, hsz11, _⟩ := info_parts info5
                        obtain ⟨A11, hcut11, hA11, hC11⟩ := print_drop_of (P := Tryd.prog) (Value.int .u8) 0 27 5 .i64 Tryd.underlying27 hi011 hsz11 (some ad) c0 l0 x1 b2 (by omega) hc0
                        have HRd := Aside0.mk (Kd.C_of_reads (h1 := fun _ => rfl) (hA11 _ (Kd.reads_of_C HR.out)))
                        have hle1 : (x1 ≤ (l0.length : Int)) = True := eq_true (by omega)
                        by_cases be : e = 0
                        · rw [if_pos be] at h
                          subst be
                          split at h
                          · rename_i g
                            obtain ⟨g1, g2, g3⟩ := g
                            go_wp2_with (first | (go_at_call 36; refine (escape_escaped.calls k1 _ _ (l0.drop x1.toNat) c n 0 _ (by repeat (first | exact HRd.out | (with_reducible refine Kd.C_alloc ?_ _) | (with_reducible refine Kd.C_drewN ?_ _) | (with_reducible refine Kd.C_drew ?_))) hC11 A1).mono ?_; rintro e' We ⟨rfl, bee⟩) | (go_at_call 27; refine (WriteRune_k w.heap.size w.heap.size _ c g2 g3 _ (HI.out.below bee) (by rw [Lib.byteCells_length]; exact g1) (by have := bee.size; have := HB.out.size; omega)).mono ?_; rintro e'' Wf ⟨rfl, h3, b3', k3⟩))
                            go_roundg k1
                            case measure => have := HK.out; omega
                            case rel => exact ⟨wrap64 (x1 + n), acc ++ Lib.encodeRune c, (by first | rfl | (simp; done) | (simp [*]; done)), ⟨h⟩, ⟨by have := HK.out; omega⟩, ⟨by rw [Lib.byteCells_append, Lib.byteCells_encodeRune]; exact Or.inr h3⟩, ⟨below_weaken (below_step HB.out bee) (Nat.le_refl _) b3'⟩⟩
                          · cases h
                        · rw [if_neg be] at h
                          obtain ⟨rfl, rfl, rfl⟩ : r1 = ⟨#[]⟩ ∧ r2 = 0 ∧ r3 = e := by simp only [Option.some.injEq, Prod.mk.injEq] at h; exact ⟨h.1.symm, h.2.1.symm, h.2.2.symm⟩
                          have beb : (r3 != 0) = true := bne_iff_ne.mpr be
                          go_wp2_with (first | (go_at_call 36; refine (escape_escaped.calls k1 _ _ (l0.drop x1.toNat) c n r3 _ (by repeat (first | exact HRd.out | (with_reducible refine Kd.C_alloc ?_ _) | (with_reducible refine Kd.C_drewN ?_ _) | (with_reducible refine Kd.C_drew ?_))) hC11 A1).mono ?_; rintro e' We ⟨rfl, bee⟩))
                          go_ret3
                          exact ⟨rfl, below_step HB.out bee⟩
                      · rename_i b5
                        have b5b : (rd l0 x1 == 92) = false := beq_eq_false_iff_ne.mpr b5
                        obtain ⟨⟨c, n, e⟩, A1, h⟩ := Option.bind_eq_some_iff.mp h
                        dsimp only at h
                        by_cases be : e = 0
                        · rw [if_pos be] at h
                          subst be
                          split at h
                          · rename_i g
                            obtain ⟨g1, g2, g3, g4⟩ := g
                            obtain ⟨i011, hi011, _, hsz11, _⟩ := info_parts info5
                            obtain ⟨A11, hcut11, hA11, hC11⟩ := print_mid_of (P := Tryd.prog) (Value.int .u8) 0 27 5 .i64 .i64 Tryd.underlying27 hi011 hsz11 (some ad) c0 l0 x1 (wrap64 (x1 + n)) b2 (by omega) g2 hc0
                            have hl1 : ((l0.take (wrap64 (x1 + n)).toNat).drop x1.toNat).length = (wrap64 (x1 + n)).toNat - x1.toNat := by rw [List.length_drop, List.length_take]; omega
                            obtain ⟨ad3, rfl, hrd⟩ := (hA11 _ (Kd.reads_of_C HR.out)).2.2 (by omega)
                            obtain ⟨ad4, e4, hrw⟩ := (hA11 _ (Kd.reads_of_C hr0)).2.2 (by omega)
                            cases e4
                            have hblk : ad3.block < w.heap.size := by
                              have h0 := hrw 0 (by omega)
                              rcases Nat.lt_or_ge ad3.block w.heap.size with h' | h'
                              · exact h'
                              · simp [World.cell?, Addr.add, Array.getElem?_eq_none h'] at h0
                            have hone : ∀ u ∈ ((l0.take (wrap64 (x1 + n)).toNat).drop x1.toNat).map (Value.int .u8), u.oneCell' = true := by
                              intro u hu
                              obtain ⟨z, _, rfl⟩ := List.mem_map.mp hu
                              rfl
                            have hbk := Aside0.mk (hnews_of hrd)
                            clear hrd hrw hA11
                            have hx1 : (x1 ≤ wrap64 (x1 + n)) = True := eq_true (by omega)
                            have hx3 : (wrap64 (x1 + n) ≤ (l0.length : Int)) = True := eq_true g2
                            have hxl := Aside0.mk (show ((l0.take (wrap64 (x1 + n)).toNat).drop x1.toNat).length ≤ l0.length by rw [hl1]; omega)
                            clear hl1
                            go_wp2_with (first | (go_at_call 37; refine (runes_Decode.calls k1 _ _ l0 x1 c n 0 _ (by repeat (first | exact HR.out | (with_reducible refine Kd.C_alloc ?_ _) | (with_reducible refine Kd.C_drewN ?_ _) | (with_reducible refine Kd.C_drew ?_))) hc0 A1).mono ?_; rintro e' We ⟨rfl, nd, rfl⟩) | (go_at_call 38; refine (Write_k w.heap.size w.heap.size _ ad3 _ _ (((l0.take (wrap64 (x1 + n)).toNat).drop x1.toNat).map (Value.int .u8)) _ (isB_drewN HI.out nd) (by rw [List.length_map]) hblk (news_drewN hbk.out nd) hone (by rw [Lib.byteCells_length]; exact g3) HB.out.size).mono ?_; rintro e'' Wf ⟨rfl, h3, b3', k3⟩))
                            go_roundg k1
                            case measure => have := HK.out; omega
                            case rel => exact ⟨wrap64 (x1 + n), acc ++ toU8 ((l0.take (wrap64 (x1 + n)).toNat).drop x1.toNat), (by first | rfl | (simp; done) | (simp [*]; done)), ⟨h⟩, ⟨by have := HK.out; omega⟩, ⟨by rw [Lib.byteCells_append, ← cells_toU8 _ g4]; exact Or.inr h3⟩, ⟨below_weaken (pw_below_drewN HB.out _) (Nat.le_refl _) b3'⟩⟩
                          · cases h
                        · rw [if_neg be] at h
                          obtain ⟨rfl, rfl, rfl⟩ : r1 = ⟨#[]⟩ ∧ r2 = 0 ∧ r3 = 10 := by simp only [Option.some.injEq, Prod.mk.injEq] at h; exact ⟨h.1.symm, h.2.1.symm, h.2.2.symm⟩
                          have beb : (e != 0) = true := bne_iff_ne.mpr be
                          go_wp2_with (first | (go_at_call 37; refine (runes_Decode.calls k1 _ _ l0 x1 c n e _ (by repeat (first | exact HR.out | (with_reducible refine Kd.C_alloc ?_ _) | (with_reducible refine Kd.C_drewN ?_ _) | (with_reducible refine Kd.C_drew ?_))) hc0 A1).mono ?_; rintro e' We ⟨rfl, nd, rfl⟩))
                          go_ret3
                          exact ⟨rfl, pw_below_drewN HB.out _⟩
                · cases h
              · rename_i b1
                obtain ⟨rfl, rfl, rfl⟩ : r1 = ⟨#[]⟩ ∧ r2 = 0 ∧ r3 = 3 := by simp only [Option.some.injEq, Prod.mk.injEq] at h; exact ⟨h.1.symm, h.2.1.symm, h.2.2.symm⟩
                go_wp2
                go_ret3
                exact ⟨rfl, HB.out⟩
        · rename_i c4
          obtain ⟨rfl, rfl, rfl⟩ : r1 = ⟨#[]⟩ ∧ r2 = 0 ∧ r3 = 80 := by simp only [Option.some.injEq, Prod.mk.injEq] at h; exact ⟨h.1.symm, h.2.1.symm, h.2.2.symm⟩
          have c4b : (rd l0 a1 != 34) = true := bne_iff_ne.mpr c4
          go_enter Tryd.func14, Tryd.ntmps14
          go_wp2
          go_ret3
          exact ⟨rfl, Below.refl _ _⟩
end Go.Proofs.YtjioglaobabmmaaDoor.P
