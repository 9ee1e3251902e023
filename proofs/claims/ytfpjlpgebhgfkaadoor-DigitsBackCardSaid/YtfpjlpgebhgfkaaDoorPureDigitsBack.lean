/- The plain law DigitsBack: a number's text is parsed as that number, with noughts ahead, too. -/
import Derived.Test.YtfpjlpgebhgfkaaDoorQ4
import Derived.Test.YtfpjlpgebhgfkaaDoorP5
namespace Go.Proofs.YtfpjlpgebhgfkaaDoor.Pure
open Go.RowKit Go.Proofs.YtfpjlpgebhgfkaaDoor.P Go.Proofs.YtfpjlpgebhgfkaaDoorW.PrintWords
set_option linter.unusedVariables false
set_option linter.unusedSimpArgs false
theorem nought (x : ByteArray) : bytesOf ((⟨#[48]⟩ : ByteArray) ++ x) = 48 :: bytesOf x := by
  unfold bytesOf
  simp [ByteArray.data_append]
theorem nought_size (x : ByteArray) : ((⟨#[48]⟩ : ByteArray) ++ x).size = x.size + 1 := by
  rw [← bytesOf_length, nought, List.length_cons, bytesOf_length]
theorem back_loop (v most : Int) (u : Nat) (hu : v = u) (hm : most < 9223372036854775808) (hv : v ≤ most) (hb : v ≤ 4611686018427387903) (a2 : Int) (d : Nat) : ∀ (i : Nat) (x : ByteArray), (i : Int) + d = a2 % 41 → x.size ≤ 100 + i →
    (∀ c ∈ bytesOf x, isDig c = true) → bytesOf x ≠ [] → val 0 (bytesOf x) = v → Ev (fun k => colophonlaw05_DigitsBack.l0 k a2 v (txt u) most x i) true := by
  have hlen := nd_len20 u (by omega)
  induction d with
  | zero =>
    intro i x hi hs hd hne hval
    have hbr := bring_is a2 41 (by omega) (by omega)
    by_cases h0 : v = 0
    · refine Ev.step (f := fun k => (colophonlaw05_parses.f k (txt u) most v).bind fun t => if t = true then ((colophonlaw05_parses.f k x most v).bind fun t => if t = true then ((colophonlaw05_awake.f k).bind fun t => some t) else some false) else some false) (fun k => ?_) ?_
      · simp only [colophonlaw05_DigitsBack.l0]
        rw [hbr]
        simp only [Option.bind_some]
        rw [if_neg (by omega)]
        simp only [if_pos h0]
      · refine Ev.bind (parses_ev _ _ _ (by rw [txt_size]; omega) hm (by rw [txt_bytes]; exact nd_digits u) (by rw [txt_bytes]; exact nd_ne u) (by rw [txt_bytes, val_nd]; omega) (by omega) hv) ?_
        simp only [if_true]
        refine Ev.bind (parses_ev _ _ _ (by have := Int.emod_lt_of_pos a2 (show (0 : Int) < 41 by omega); omega) hm hd hne hval (by omega) hv) ?_
        simp only [if_true]
        exact awake_ev
    · refine Ev.step (f := fun k => (colophonlaw05_parses.f k (txt u) most v).bind fun t => if t = true then ((colophonlaw05_parses.f k x most v).bind fun t => if t = true then ((colophonlaw05_fails.f k (txt u) (v - 1) 5).bind fun t => if t = true then ((colophonlaw05_awake.f k).bind fun t => some t) else some false) else some false) else some false) (fun k => ?_) ?_
      · simp only [colophonlaw05_DigitsBack.l0]
        rw [hbr]
        simp only [Option.bind_some]
        rw [if_neg (by omega), wrap_nat (by omega) (by omega)]
        simp only [if_neg h0]
      · refine Ev.bind (parses_ev _ _ _ (by rw [txt_size]; omega) hm (by rw [txt_bytes]; exact nd_digits u) (by rw [txt_bytes]; exact nd_ne u) (by rw [txt_bytes, val_nd]; omega) (by omega) hv) ?_
        simp only [if_true]
        refine Ev.bind (parses_ev _ _ _ (by have := Int.emod_lt_of_pos a2 (show (0 : Int) < 41 by omega); omega) hm hd hne hval (by omega) hv) ?_
        simp only [if_true]
        refine Ev.bind (fails_ev _ _ _ (by rw [txt_size]; omega) (by omega) ?_) ?_
        · rw [txt_bytes]
          unfold parsed told
          have hn : (nd u).length ≠ 0 := fun h => nd_ne u (List.eq_nil_of_length_eq_zero h)
          rw [if_neg (by omega), if_neg (by rw [runLen_all (nd_digits u)]; omega), val_nd, if_neg (by omega)]
        · simp only [if_true]
          exact awake_ev
  | succ d ih =>
    intro i x hi hs hd hne hval
    have hlt := Int.emod_lt_of_pos a2 (show (0 : Int) < 41 by omega)
    refine Ev.step (f := fun k => colophonlaw05_DigitsBack.l0 k a2 v (txt u) most ((⟨#[48]⟩ : ByteArray) ++ x) ((i + 1 : Nat) : Int)) (fun k => ?_) ?_
    · simp only [colophonlaw05_DigitsBack.l0]
      rw [bring_is a2 41 (by omega) (by omega)]
      simp only [Option.bind_some]
      rw [if_pos (by omega), if_pos (by omega), wrap_nat (by omega) (by omega)]
      rfl
    · refine ih (i + 1) _ (by omega) (by rw [nought_size]; omega) ?_ (by rw [nought]; simp) (by rw [nought]; exact hval)
      rw [nought]
      intro c hc
      rcases List.mem_cons.1 hc with rfl | hc
      · decide
      · exact hd c hc
theorem DigitsBack : colophonlaw05_DigitsBack.Pure := by
  intro a b c _ _ _
  refine Ev.rounds (g := fun k => colophonlaw05_DigitsBack.f k a b c) ?_
  unfold colophonlaw05_DigitsBack.f
  have hx := bits_mask a 4611686018427387903 (by omega)
  have hy := bits_mask b 2305843009213693951 (by omega)
  simp only [Int.cast_ofNat_Int] at hx hy
  generalize hX : Go.bits .and .i64 a 4611686018427387903 = X at *
  obtain ⟨u, rfl⟩ := Int.eq_ofNat_of_zero_le hx.1
  have hlen := nd_len20 u (by omega)
  have hne := nd_ne u
  have hsz : (((txt u).size : Int) == 0) = false := by
    rw [txt_size]
    have : (nd u).length ≠ 0 := fun h => hne (List.eq_nil_of_length_eq_zero h)
    simp
    exact hne
  simp only [text_is _ hx.1 (show (u : Int) ≤ 9223372036854775807 by omega), Option.bind_some, Int.toNat_natCast, if_true, hsz]
  refine Ev.step (f := fun k => colophonlaw05_DigitsBack.l0 k c u (txt u) (u + Go.bits .and .i64 b 2305843009213693951) (txt u) 0) (fun k => ?_) ?_
  · simp only [colophonlaw05_DigitsBack.j0]
    rw [if_neg (by simp), wrap_nat (by omega) (by omega)]
  · have h0 := Int.emod_nonneg c (show (41 : Int) ≠ 0 by omega)
    refine back_loop u _ u rfl (by omega) (by omega) (by omega) c (c % 41).toNat 0 (txt u) (by omega) (by rw [txt_size]; omega) (by rw [txt_bytes]; exact nd_digits u) (by rw [txt_bytes]; exact nd_ne u) (by rw [txt_bytes, val_nd])
end Go.Proofs.YtfpjlpgebhgfkaaDoor.Pure
