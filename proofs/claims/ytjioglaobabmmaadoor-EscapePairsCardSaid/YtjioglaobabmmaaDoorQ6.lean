/- What an escape tells: the program's and the document's. -/
import Derived.Test.YtjioglaobabmmaaDoorP3
import Derived.Test.YtjioglaobabmmaaDoorQ5
namespace Go.Proofs.YtjioglaobabmmaaDoor.Pure
open Go.RowKit Go.Proofs.YtjioglaobabmmaaDoor.P Go.Proofs.YtjioglaobabmmaaDoorW.PrintWords
set_option linter.unusedVariables false
set_option linter.unusedSimpArgs false
/-- The character of an escape's letter. -/
def letR (c : Int) : Option Int := if c = 34 ∨ c = 92 ∨ c = 47 then some c else if c = 98 then some 8 else if c = 102 then some 12 else if c = 110 then some 10 else if c = 114 then some 13 else if c = 116 then some 9 else none
/-- An escape, from its backslash on: the character, how many bytes, what is wrong. -/
def escR (b : List Int) : Int × Int × Int :=
  if b.length < 2 then (0, 0, 3) else match letR (rd b 1) with
    | some c => (c, 2, 0)
    | none =>
      let u := unitR b
      if u.2 ≠ 0 then (u.1, 6, u.2) else if u.1 < 55296 ∨ 57343 < u.1 then (u.1, 6, 0) else
        let v := unitR (b.drop 6)
        if v.2 = 0 ∧ u.1 < 56320 ∧ 56320 ≤ v.1 ∧ v.1 ≤ 57343 then (65536 + (u.1 - 55296) * 1024 + v.1 - 56320, 12, 0) else (65533, 6, 0)
theorem idx1 : ∀ c : Nat, c < 256 → Lib.indexByte (⟨#[34, 92, 47]⟩ : ByteArray).data.toList ((c : Int)).toNat.toUInt8 = if c = 34 then 0 else if c = 92 then 1 else if c = 47 then 2 else -1 := by decide +kernel
theorem idx2 : ∀ c : Nat, c < 256 → Lib.indexByte (⟨#[98, 102, 110, 114, 116]⟩ : ByteArray).data.toList ((c : Int)).toNat.toUInt8 = if c = 98 then 0 else if c = 102 then 1 else if c = 110 then 2 else if c = 114 then 3 else if c = 116 then 4 else -1 := by decide +kernel
theorem fourR_len : ∀ (r : Nat) (l : List Int) (n : Int), (fourR r l n).2 = 0 → r ≤ l.length
  | 0, _, _, _ => Nat.zero_le _
  | r + 1, [], _, h => absurd h (by simp [fourR])
  | r + 1, c :: t, n, h => by
    simp only [fourR] at h
    split at h
    · have := fourR_len r t _ h
      simp only [List.length_cons]; omega
    · exact absurd h (by decide)
theorem unitR_len (b : List Int) (h : (unitR b).2 = 0) : 6 ≤ b.length := by
  unfold unitR at h
  split at h
  · exact absurd h (by decide)
  · split at h
    · split at h
      · exact absurd h (by decide)
      · split at h
        · have := fourR_len 4 _ _ h
          simp only [List.length_cons]; omega
        · exact absurd h (by decide)
    · exact absurd h (by decide)
theorem escaped_ev (b : List Int) (hb : Bytes b) (hl : b.length ≤ 140737488355328) : Ev (fun k => escape_escaped.f k b) (escR b) := by
  unfold escape_escaped.f escR
  by_cases h2 : b.length < 2
  · simp only [if_pos (show (b.length : Int) < 2 by omega), if_pos h2]; exact Ev.now _
  · simp only [if_neg (show ¬ (b.length : Int) < 2 by omega), if_neg h2, if_pos (show (1 : Int) < (b.length : Int) by omega)]
    obtain ⟨g0, g1⟩ : 0 ≤ rd b 1 ∧ rd b 1 ≤ 255 := rd_byte hb (i := 1) (by omega)
    obtain ⟨c, hc⟩ := Int.eq_ofNat_of_zero_le g0
    rw [hc] at g1 ⊢
    have i1 := idx1 c (by omega)
    have i2 := idx2 c (by omega)
    simp only [strings_IndexByte.f, Option.bind_some, i1, i2]
    by_cases a1 : c = 34
    · subst a1; rw [show letR ((34 : Nat) : Int) = some 34 by decide +kernel]; exact ⟨0, fun k _ => by show (if _ then _ else _) = _; rw [if_pos (by decide), if_pos (by decide), if_pos (by decide)]; show some _ = some (34, 2, 0); decide +kernel⟩
    · by_cases a2 : c = 92
      · subst a2; rw [show letR ((92 : Nat) : Int) = some 92 by decide +kernel]; exact ⟨0, fun k _ => by show (if _ then _ else _) = _; rw [if_pos (by decide), if_pos (by decide), if_pos (by decide)]; show some _ = some (92, 2, 0); decide +kernel⟩
      · by_cases a3 : c = 47
        · subst a3; rw [show letR ((47 : Nat) : Int) = some 47 by decide +kernel]; exact ⟨0, fun k _ => by show (if _ then _ else _) = _; rw [if_pos (by decide), if_pos (by decide), if_pos (by decide)]; show some _ = some (47, 2, 0); decide +kernel⟩
        · by_cases a4 : c = 98
          · subst a4; rw [show letR ((98 : Nat) : Int) = some 8 by decide +kernel]; exact ⟨0, fun k _ => by show (if _ then _ else _) = _; rw [if_neg (by decide), if_pos (by decide), if_pos (by decide), if_pos (by decide)]; show some _ = some (8, 2, 0); decide +kernel⟩
          · by_cases a5 : c = 102
            · subst a5; rw [show letR ((102 : Nat) : Int) = some 12 by decide +kernel]; exact ⟨0, fun k _ => by show (if _ then _ else _) = _; rw [if_neg (by decide), if_pos (by decide), if_pos (by decide), if_pos (by decide)]; show some _ = some (12, 2, 0); decide +kernel⟩
            · by_cases a6 : c = 110
              · subst a6; rw [show letR ((110 : Nat) : Int) = some 10 by decide +kernel]; exact ⟨0, fun k _ => by show (if _ then _ else _) = _; rw [if_neg (by decide), if_pos (by decide), if_pos (by decide), if_pos (by decide)]; show some _ = some (10, 2, 0); decide +kernel⟩
              · by_cases a7 : c = 114
                · subst a7; rw [show letR ((114 : Nat) : Int) = some 13 by decide +kernel]; exact ⟨0, fun k _ => by show (if _ then _ else _) = _; rw [if_neg (by decide), if_pos (by decide), if_pos (by decide), if_pos (by decide)]; show some _ = some (13, 2, 0); decide +kernel⟩
                · by_cases a8 : c = 116
                  · subst a8; rw [show letR ((116 : Nat) : Int) = some 9 by decide +kernel]; exact ⟨0, fun k _ => by show (if _ then _ else _) = _; rw [if_neg (by decide), if_pos (by decide), if_pos (by decide), if_pos (by decide)]; show some _ = some (9, 2, 0); decide +kernel⟩
                  · have hlet : letR (c : Int) = none := by
                      unfold letR
                      rw [if_neg (by omega), if_neg (by omega), if_neg (by omega), if_neg (by omega), if_neg (by omega), if_neg (by omega)]
                    simp only [hlet, if_neg a1, if_neg a2, if_neg a3, if_neg a4, if_neg a5, if_neg a6, if_neg a7, if_neg a8, if_neg (show ¬ ((-1 : Int) ≥ 0) by decide)]
                    have hr := unitR_range b
                    have hu := unit_ev b hb hl
                    have hlen := unitR_len b
                    generalize hU : unitR b = u at hr hu hlen ⊢
                    obtain ⟨n, e⟩ := u
                    simp only at hr hlen ⊢
                    refine Ev.bind hu ?_
                    simp only
                    rw [wrap32_is (by omega) (by omega)]
                    by_cases he : e = 0
                    · subst he
                      simp only [if_true, ne_eq, not_true_eq_false, if_false]
                      have h6 := hlen rfl
                      by_cases q1 : n < 55296
                      · simp only [if_pos q1, if_pos (show n < 55296 ∨ 57343 < n from .inl q1)]
                        refine Ev.step (f := fun _ => some (n, 6, 0)) (fun k => ?_) (Ev.now _)
                        simp only [escape_escaped.j0, if_true]
                      · simp only [if_neg q1]
                        by_cases q2 : n > 57343
                        · simp only [decide_eq_true q2, if_pos (show n < 55296 ∨ 57343 < n from .inr q2)]
                          refine Ev.step (f := fun _ => some (n, 6, 0)) (fun k => ?_) (Ev.now _)
                          simp only [escape_escaped.j0, if_true]
                        · simp only [decide_eq_false q2, if_neg (show ¬ (n < 55296 ∨ 57343 < n) by omega)]
                          have hr2 := unitR_range (b.drop 6)
                          have hu2 := unit_ev (b.drop 6) (hb.drop 6) (by rw [List.length_drop]; omega)
                          generalize unitR (b.drop 6) = v at hr2 hu2 ⊢
                          obtain ⟨m, e2⟩ := v
                          simp only at hr2 ⊢
                          refine Ev.step (f := fun k => (escape_unit.f k (b.drop 6)).bind fun bt248 => (if bt248.2 = 0 then (if n < 56320 then (if (wrap32 (bt248.1)) ≥ 56320 then (if (wrap32 (bt248.1)) ≤ 57343 then (some (wrap32 ((wrap32 ((wrap32 (65536 + (wrap32 ((wrap32 (n - 55296)) * 1024)))) + (wrap32 (bt248.1)))) - 56320), wrap64 (2 * 6), 0)) else (some (65533, 6, 0))) else (some (65533, 6, 0))) else (some (65533, 6, 0))) else (some (65533, 6, 0)))) (fun k => ?_) (Ev.bind hu2 ?_)
                          · simp only [escape_escaped.j0, Bool.false_eq_true, if_false]
                            rw [if_pos (by decide), if_pos (by omega)]
                            rfl
                          · simp only
                            rw [wrap32_is (i := m) (by omega) (by omega)]
                            by_cases r1 : e2 = 0
                            · by_cases r2 : n < 56320
                              · by_cases r3 : m ≥ 56320
                                · by_cases r4 : m ≤ 57343
                                  · rw [if_pos r1, if_pos r2, if_pos r3, if_pos r4, if_pos ⟨r1, r2, r3, r4⟩]
                                    rw [wrap32_is (i := n - 55296) (by omega) (by omega), wrap32_is (i := (n - 55296) * 1024) (by omega) (by omega), wrap32_is (i := 65536 + (n - 55296) * 1024) (by omega) (by omega), wrap32_is (i := 65536 + (n - 55296) * 1024 + m) (by omega) (by omega), wrap32_is (by omega) (by omega), wrap_nat (i := 2 * 6) (by decide) (by decide)]
                                    exact Ev.now _
                                  · rw [if_pos r1, if_pos r2, if_pos r3, if_neg r4, if_neg (fun h => r4 h.2.2.2)]; exact Ev.now _
                                · rw [if_pos r1, if_pos r2, if_neg r3, if_neg (fun h => r3 h.2.2.1)]; exact Ev.now _
                              · rw [if_pos r1, if_neg r2, if_neg (fun h => r2 h.2.1)]; exact Ev.now _
                            · rw [if_neg r1, if_neg (fun h => r1 h.1)]; exact Ev.now _
                    · simp only [if_neg he, if_pos (show e ≠ 0 from he)]
                      refine Ev.step (f := fun _ => some (n, 6, e)) (fun k => ?_) (Ev.now _)
                      simp only [escape_escaped.j0, if_true]
end Go.Proofs.YtjioglaobabmmaaDoor.Pure
