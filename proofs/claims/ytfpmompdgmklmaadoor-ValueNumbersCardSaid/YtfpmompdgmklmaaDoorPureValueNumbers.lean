/- The plain law ValueNumbers. -/
import Derived.Test.YtfpmompdgmklmaaDoorVN
import Derived.Test.YtfpmompdgmklmaaDoorP12
namespace Go.Proofs.YtfpmompdgmklmaaDoor.Pure
open Go.RowKit Go.Proofs.YtfpmompdgmklmaaDoor.P Go.Proofs.YtfpmompdgmklmaaDoorW.PrintWords
set_option linter.unusedSimpArgs false
set_option linter.unusedVariables false
theorem numbers_loop (a b : Int) (s : ByteArray) (hn : 0 < s.size) (hs : s.size ≤ 100) (hd : ∀ i : Nat, i < s.size → 48 ≤ bt s i ∧ bt s i ≤ 57) (hz : 1 < s.size → bt s 0 ≠ 48) (x y : S25) (he : eqV x y = (a == b)) (hc : Ev (fun k => value_Check.f k x.f0 x.f1 x.f2 x.f3 x.f4) 0) :
    ∀ d i : Nat, i + d = s.size → Ev (fun k => colophonlaw10_ValueNumbers.l0 k a b s i x.f0 x.f1 x.f2 x.f3 x.f4 y.f0 y.f1 y.f2 y.f3 y.f4) true := by
  intro d
  induction d with
  | zero =>
    intro i hi
    refine Ev.step (fun k => by rw [colophonlaw10_ValueNumbers.l0, if_neg (by omega), if_pos (by omega)]) ?_
    unfold value_Equal.f
    rw [eq_eta, he]
    refine Ev.bind (Ev.now _) ?_
    simp only [beq_self_eq_true, if_true]
    refine Ev.bind hc ?_
    simp only [if_true]
    unfold colophonlaw10_awake.f
    exact Ev.now true
  | succ d ih =>
    intro i hi
    have := hd i (by omega)
    have h1 := ih (i + 1) (by omega)
    have hw : wrap64 ((i : Int) + 1) = ((i + 1 : Nat) : Int) := wrap_succ (n := s.size) (by omega) (by omega)
    refine Ev.step (fun k => ?_) h1
    rw [colophonlaw10_ValueNumbers.l0, if_pos (by omega), if_pos (by omega), if_neg (by omega), if_neg (by omega), hw]
    by_cases h0 : (i : Int) = 0
    · rw [if_pos h0]
      by_cases h48 : bt s i = 48
      · rw [if_pos h48, if_neg (fun hgt => hz (by omega) (by rw [← h48, h0]))]
      · rw [if_neg h48]
    · rw [if_neg h0]
theorem bt_mk (l : List UInt8) (i : Nat) (h : i < l.length) : bt ⟨l.toArray⟩ (i : Int) = (l[i].toNat : Int) := by
  unfold bt
  rw [dif_pos (show (i : Int).toNat < (⟨l.toArray⟩ : ByteArray).size from by rw [Int.toNat_natCast]; exact h)]
  simp only [Int.toNat_natCast]
  rfl
theorem ValueNumbers : colophonlaw10_ValueNumbers.Pure := by
  intro a b ha hb
  obtain ⟨ha0, ha1⟩ := int_wf ha
  obtain ⟨hb0, hb1⟩ := int_wf hb
  refine Ev.rounds (g := fun k => colophonlaw10_ValueNumbers.f k a b) ?_
  unfold colophonlaw10_ValueNumbers.f
  have na : value_Number.f a = some (2, false, numS a, [], []) := by unfold value_Number.f strconv_Itoa_44.f; rw [if_pos ⟨ha0, ha1⟩]; rfl
  have nb : value_Number.f b = some (2, false, numS b, [], []) := by unfold value_Number.f strconv_Itoa_44.f; rw [if_pos ⟨hb0, hb1⟩]; rfl
  rw [na, nb]
  simp only [Option.bind_some]
  have he : eqV (numV a) (numV b) = (a == b) := by
    rw [Bool.eq_iff_iff, eqV_iff, beq_iff_eq]
    constructor
    · intro h; injection h with _ _ h; exact numS_inj h
    · rintro rfl; rfl
  have hc : Ev (fun k => value_Check.f k (numV a).f0 (numV a).f1 (numV a).f2 (numV a).f3 (numV a).f4) 0 := by
    have := check16 (numV a) (by rw [numV]; exact fit_mk (by have := numS_size a ha0 ha1; omega) (by simp) (by simp) (fun s hs => by simp at hs) rfl) (by rw [numV, depthV, depthL]; omega)
    have e : checkV (numV a) = 0 := by
      unfold checkV numV
      rw [mayV, depthV, depthL, mayL]
      simp
    rwa [e] at this
  have key : ∀ (l : List UInt8), l ≠ [] → l.length ≤ 100 → (∀ c ∈ l, 48 ≤ c.toNat ∧ c.toNat ≤ 57) → (∀ c r, l = c :: r → c.toNat = 48 → r = []) → Ev (fun k => colophonlaw10_ValueNumbers.j0 k a b ⟨l.toArray⟩ 2 false (numS a) [] [] 2 false (numS b) [] []) true := by
    intro l h1 h2 h3 h4
    have hsz : (⟨l.toArray⟩ : ByteArray).size = l.length := List.size_toArray
    have := numbers_loop a b ⟨l.toArray⟩ (by rw [hsz]; exact List.length_pos_iff.mpr h1) (by rw [hsz]; exact h2) (fun i hi => by
      rw [hsz] at hi
      rw [bt_mk l i hi]
      have := h3 _ (List.getElem_mem hi)
      omega) (fun hgt e => by
        rw [hsz] at hgt
        cases l with
        | nil => exact h1 rfl
        | cons c r =>
          have e' := bt_mk (c :: r) 0 (by simp)
          have : c.toNat = 48 := by
            have e0 : bt ⟨(c :: r).toArray⟩ ((0 : Nat) : Int) = 48 := e
            rw [e'] at e0
            have e1 : (c.toNat : Int) = 48 := e0
            omega
          rw [h4 c r rfl this] at hgt
          simp at hgt) (numV a) (numV b) he hc l.length 0 (by rw [hsz]; omega)
    exact Ev.step (fun k => by rw [colophonlaw10_ValueNumbers.j0]; rfl) this
  by_cases h0 : a < 0
  · simp only [if_pos h0]
    have hl : Lib.itoa a = 45 :: Lib.decDigits a.natAbs := by unfold Lib.itoa; rw [if_pos h0]
    have hsz : (numS a).size = (Lib.decDigits a.natAbs).length + 1 := by
      have : (numS a).size = (Lib.itoa a).length := by unfold numS; exact List.size_toArray
      rw [this, hl]; rfl
    have hb45 : bt (numS a) 0 = 45 := by
      have : bt ⟨(Lib.itoa a).toArray⟩ ((0 : Nat) : Int) = ((Lib.itoa a)[0]'(by rw [hl]; simp)).toNat := bt_mk _ 0 (by rw [hl]; simp)
      simp only [hl] at this
      unfold numS
      rw [hl]
      simpa using this
    have hex : (numS a).extract 1 (numS a).size = ⟨(Lib.decDigits a.natAbs).toArray⟩ := by
      apply ByteArray.ext
      apply Array.toList_inj.mp
      rw [Lib.extract_data]
      have hsz' := hsz
      unfold numS at hsz' ⊢
      rw [hsz', hl]
      simp
    simp only [if_neg (show ¬ ((numS a).size : Int) = 0 by omega), if_pos (show (0 : Int) < ((numS a).size : Int) by omega), hb45, if_true, if_pos (show (1 : Int) ≤ ((numS a).size : Int) by omega), hex]
    exact key _ (dd_ne _) (by have := dd_len20 19 a.natAbs (by omega); omega) (dd_digits _) (dd_head _)
  · simp only [if_neg h0]
    have hl : Lib.itoa a = Lib.decDigits a.toNat := by unfold Lib.itoa; rw [if_neg h0]
    have : numS a = ⟨(Lib.decDigits a.toNat).toArray⟩ := by unfold numS; rw [hl]
    have hk := key _ (dd_ne a.toNat) (by have := dd_len20 19 a.toNat (by omega); omega) (dd_digits _) (dd_head _)
    rw [← this] at hk
    exact hk
end Go.Proofs.YtfpmompdgmklmaaDoor.Pure
