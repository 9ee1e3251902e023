/- A law's rows: what a table does not turn. -/
import Derived.Test.YtfedlanbmibhkaaS12tb
import Derived.Test.YtfedlanbmibhkaaP1
namespace Go.Proofs.Ytfedlanbmibhkaa.P
open Go.RowKit Go.Shelf Go.Proofs.YtfedlanbmibhkaaW.PrintWords Go.Proofs.YtfedlanbmibhkaaW.PrintLast Go.Proofs.YtfedlanbmibhkaaW.PrintMore
set_option linter.unusedVariables false
set_option linter.unusedSimpArgs false
/-- a row that is read, beside a table -/
structure Row_b (w : World) (t : Nat) (v : Value) (A : Option Addr) (c n : Nat) (xs : List Int) : Prop where
  len : xs.length = n
  C : Kd.C (Kd.int .u8) w A n xs
  cap : n ≤ c
  ap : 0 < n → ∀ ad, A = some ad → ad.block ≠ t ∧ some ad.block ≠ v.ownBlock
theorem Row_b.step {w w' : World} {t : Nat} {v : Value} {A : Option Addr} {c n : Nat} {xs : List Int} (h : Row_b w t v A c n xs) (hb : Below w.heap.size w w') : Row_b w' t v A c n xs := ⟨h.len, Kd.C_below h.C hb, h.cap, h.ap⟩
theorem Row_b.rep {w w' : World} {t : Nat} {v v' : Value} {A : Option Addr} {c n : Nat} {xs : List Int} (h : Row_b w t v A c n xs) (e : Eff_b t v.ownBlock w w') (ho : v'.ownBlock = v.ownBlock ∨ ∃ b, v'.ownBlock = some b ∧ w.heap.size ≤ b) : Row_b w' t v' A c n xs := by
  refine ⟨h.len, C_mv_b h.C (fun h0 ad ea hl => e.blk _ hl (h.ap h0 ad ea).1 (h.ap h0 ad ea).2), h.cap, fun h0 ad ea => ⟨(h.ap h0 ad ea).1, fun eo => ?_⟩⟩
  rcases ho with ho | ⟨b, ho, hb⟩
  · exact (h.ap h0 ad ea).2 (eo.trans ho)
  · rw [ho] at eo; injection eo with eo
    have := C_lt_b h.C h0 ad ea
    omega
theorem Row_b.of_own {w0 w w1 : World} {t : Nat} {v : Value} {ps : List (List Int)} (h : TT_b w0 w t v ps) {A : Option Addr} {c n : Nat} {xs : List Int} (ho : w1.ownsRow w.heap.size 5 1 (.slice A n c) n (nums .u8 xs)) : Row_b w1 t v A c n xs := by
  have hl := nums_len_b ho
  subst hl
  obtain ⟨A', c', e, hC, hB⟩ := own_C_b ho
  injection e with e1 e2 e3
  subst e1; subst e3
  refine ⟨rfl, hC, ?_, fun h0 ad ea => h.fresh (hB ad ea)⟩
  rcases own_rowAt ho with ⟨e, h0, -⟩ | ⟨g, cap, cur, e, hR⟩
  · injection e with _ e2 _; omega
  · injection e with _ _ e3; subst e3; exact hR.nc
theorem Row_b.of_old {w0 w : World} {t : Nat} {v : Value} {ps : List (List Int)} (h : TT_b w0 w t v ps) {A : Option Addr} {c n : Nat} {xs : List Int} (hl : xs.length = n) (hC : Kd.C (Kd.int .u8) w0 A n xs) (hc : n ≤ c) : Row_b w t v A c n xs :=
  ⟨hl, Kd.C_below hC h.be, hc, fun h0 ad ea => h.old (C_lt_b hC h0 ad ea)⟩
theorem eq_same_b (l : List Int) (hl : l.length ≤ 140737488355328) (d : Nat) : ∀ i : Nat, i + d = l.length → ∃ k, colophonref00_EqBytes.l0 k l l (i : Int) = some true := by
  induction d with
  | zero => intro i hi; exact ⟨1, by unfold colophonref00_EqBytes.l0; rw [if_neg (by omega)]⟩
  | succ d ih =>
    intro i hi
    obtain ⟨k, hk⟩ := ih (i + 1) (by omega)
    refine ⟨k + 1, ?_⟩
    unfold colophonref00_EqBytes.l0
    rw [if_pos (by omega), if_pos (by omega), if_pos (by omega), if_pos rfl, show wrap64 ((i : Int) + 1) = ((i + 1 : Nat) : Int) by unfold wrap64; omega]
    exact hk
/-- EqBytes, of what is the same -/
theorem Row_b.eq {w : World} {t t' : Nat} {v v' : Value} {A A' : Option Addr} {c c' n : Nat} {xs : List Int} (h : Row_b w t v A c n xs) (h' : Row_b w t' v' A' c' n xs) (hl : n ≤ 140737488355328) :
    Calls Try.prog 16 #[.slice A n c, .slice A' n c'] w fun e w' => e = .returned (.bool true) ∧ Below w.heap.size w w' := by
  have hL := h.len
  subst hL
  obtain ⟨k, hk⟩ := eq_same_b xs hl xs.length 0 (by omega)
  refine (colophonref00_EqBytes.calls k A c xs A' c' xs true w h.C h.cap h'.C h'.cap (by unfold colophonref00_EqBytes.f; rw [if_pos rfl]; exact hk)).mono ?_
  rintro e w' ⟨rfl, hd⟩
  exact ⟨rfl, hd.below⟩
end Go.Proofs.Ytfedlanbmibhkaa.P
