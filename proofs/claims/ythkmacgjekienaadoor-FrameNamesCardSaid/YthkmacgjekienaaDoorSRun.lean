/- digits.Run in the printed form: how many digits stand at a place; slices.IndexFunc at the literal that Run hands it. -/
import Derived.Test.YthkmacgjekienaaDoorP0
namespace Go.Proofs.YthkmacgjekienaaDoor.P
open Go.RowKit Go.Proofs.YthkmacgjekienaaDoorW.PrintWords Go.Proofs.YthkmacgjekienaaDoorW.PrintLast Go.Proofs.YthkmacgjekienaaDoorW.PrintMore
set_option linter.unusedVariables false
set_option linter.unusedSimpArgs false

def isDig (c : Int) : Bool := decide (48 ≤ c) && decide (c ≤ 57)
def runLen (l : List Int) : Nat := (l.takeWhile isDig).length
def digits_Run.f (l0 : List Int) (a1 : Int) : Option Int :=
  if a1 < 0 then some 0 else if (l0.length : Int) ≤ a1 then some 0 else some (runLen (l0.drop a1.toNat))

theorem ret_i64 {a b : Int} (h : a = b) : Ending.returned (.int .i64 a) = .returned (.int .i64 b) := by rw [h]
theorem runLen_le (l : List Int) : runLen l ≤ l.length := (List.takeWhile_sublist _).length_le
theorem runLen_lt {l : List Int} {k : Nat} (h : k < runLen l) : isDig (l.getD k 0) = true := by
  have hk : k < l.length := Nat.lt_of_lt_of_le h (runLen_le l)
  unfold runLen at h
  have h2 : ∀ x ∈ l.takeWhile isDig, isDig x = true := fun x hx => List.all_eq_true.1 (List.all_takeWhile (l := l) (p := isDig)) x hx
  have := h2 _ (List.getElem_mem h)
  rw [(List.takeWhile_prefix isDig).getElem h] at this
  simpa [List.getD, hk] using this
theorem runLen_step {l : List Int} {k : Nat} (hk : k < l.length) (h : k ≤ runLen l) : isDig (l.getD k 0) = true ↔ k + 1 ≤ runLen l := by
  refine ⟨fun hd => ?_, fun h2 => runLen_lt (by omega)⟩
  rcases Nat.lt_or_ge k (runLen l) with h1 | h1
  · omega
  · have e : k = runLen l := by omega
    exfalso
    induction l generalizing k with
    | nil => simp at hk
    | cons a l ih =>
      by_cases ha : isDig a = true
      · have hr : runLen (a :: l) = runLen l + 1 := by simp [runLen, ha]
        obtain ⟨j, rfl⟩ : ∃ j, k = j + 1 := ⟨k - 1, by omega⟩
        exact ih (k := j) (by simpa using hk) (by omega) (by simpa using hd) (by omega) (by omega)
      · have hr : runLen (a :: l) = 0 := by simp [runLen, ha]
        obtain rfl : k = 0 := by omega
        simp at hd
        exact ha hd

theorem run1_yes (c : Int) (h1 : 48 ≤ c) (h2 : c ≤ 57) (w : World) :
    Calls Tryd.prog 83 #[.int .u8 c] w fun e w' => e = .returned (.bool false) ∧ w = w' := by
  go_enter Tryd.func83, Tryd.ntmps83
  go_wp2
  go_ret
  exact ⟨rfl, rfl⟩
theorem run1_no (c : Int) (h : c < 48 ∨ 57 < c) (w : World) :
    Calls Tryd.prog 83 #[.int .u8 c] w fun e w' => e = .returned (.bool true) ∧ w = w' := by
  rcases h with h | h
  · go_enter Tryd.func83, Tryd.ntmps83
    go_wp2
    go_ret
    exact ⟨rfl, rfl⟩
  · have h1 : 48 ≤ c := by omega
    have h2 : decide (c ≤ 57) = false := decide_eq_false (by omega)
    clear h
    go_enter Tryd.func83, Tryd.ntmps83
    go_wp2
    go_ret
    exact ⟨rfl, rfl⟩

def idxNot (l : List Int) : Int := if runLen l < l.length then runLen l else -1

set_option maxHeartbeats 1000000 in
theorem idx_any (A : Option Addr) (c : Nat) (l : List Int) (w : World) (hr : Kd.C (Kd.int .u8) w A l.length l) (hc : l.length ≤ 9223372036854775807) :
    Calls Tryd.prog 82 #[.slice A l.length c, .func (.func 83) #[] #[]] w fun e w' => e = .returned (.int .i64 (idxNot l)) ∧ w = w' := by
  have HR := Aside0.mk hr
  clear hr
  go_enter Tryd.func82, Tryd.ntmps82
  go_wp2
  go_loop [5, 8] (fun _ i => ∃ k : Nat, k ≤ l.length ∧ i = .int .i64 k ∧ Aside0 (k ≤ runLen l)) (fun _ i => l.length - (intOf i).toNat)
  case atStart => exact ⟨0, Nat.zero_le _, rfl, ⟨Nat.zero_le _⟩⟩
  case round =>
    obtain ⟨k, hk, rfl, HK⟩ := hrel
    by_cases hlt : k < l.length
    · obtain ⟨ad, e, hx⟩ := Kd.at_int HR.out k (by omega) (by omega)
      cases e
      simp only [Int.toNat_natCast] at hx
      have hrd : rd l k = l.getD k 0 := by simp [rd]
      have st := runLen_step hlt HK.out
      by_cases hd : isDig (rd l k) = true
      · have hd2 := hd
        simp only [isDig, Bool.and_eq_true, decide_eq_true_eq] at hd2
        have HK' : Aside0 (k + 1 ≤ runLen l) := ⟨st.1 (hrd ▸ hd)⟩
        clear st hd
        obtain ⟨h1, h2⟩ := hd2
        have H1 := Aside0.mk h1
        have H2 := Aside0.mk h2
        clear h1 h2 hrd
        go_wp2_with (go_at_call 83; refine (run1_yes _ H1.out H2.out _).mono ?_; rintro e w' ⟨rfl, rfl⟩)
        go_round
        case rel => exact ⟨k + 1, by omega, by go_num, HK'⟩
        case measure => simp [intOf]; omega
      · have HE : Aside0 (idxNot l = k) := ⟨by
          have h1 : ¬ k + 1 ≤ runLen l := fun h => hd (hrd ▸ st.2 h)
          have := HK.out
          unfold idxNot
          rw [if_pos (by omega)]
          omega⟩
        have H1 : Aside0 (rd l k < 48 ∨ 57 < rd l k) := ⟨by simp [isDig] at hd; omega⟩
        clear st hd hrd
        go_wp2_with (go_at_call 83; refine (run1_no _ H1.out _).mono ?_; rintro e w' ⟨rfl, rfl⟩)
        go_ret
        exact ⟨ret_i64 HE.out.symm, rfl⟩
    · have HE : Aside0 (idxNot l = -1) := ⟨by
        have := HK.out
        have := runLen_le l
        unfold idxNot
        rw [if_neg (by omega)]⟩
      go_wp2
      go_ret
      exact ⟨ret_i64 HE.out.symm, rfl⟩

theorem digits_Run.calls (A0 : Option Addr) (c0 : Nat) (l0 : List Int) (a1 : Int) (r : Int) (w : World) (hr0 : Kd.C (Kd.int .u8) w A0 l0.length l0) (hc0 : l0.length ≤ c0) (h : digits_Run.f l0 a1 = some r) :
    Calls Tryd.prog 60 #[.slice A0 l0.length c0, .int .i64 a1] w fun e w' => e = .returned (.int .i64 r) ∧ Drawn0 w w' := by
  unfold digits_Run.f at h
  have hm : l0.length ≤ 9223372036854775807 := hr0.2.1
  by_cases h1 : a1 < 0
  · rw [if_pos h1] at h
    obtain rfl := Option.some.inj h
    go_enter Tryd.func60, Tryd.ntmps60
    go_wp2_with fail
    go_ret
    exact ⟨rfl, Drawn0.refl _⟩
  · rw [if_neg h1] at h
    by_cases h2 : (l0.length : Int) ≤ a1
    · rw [if_pos h2] at h
      obtain rfl := Option.some.inj h
      have h1b : decide (a1 < 0) = false := decide_eq_false h1
      go_enter Tryd.func60, Tryd.ntmps60
      go_wp2_with fail
      go_ret
      exact ⟨rfl, Drawn0.refl _⟩
    · rw [if_neg h2] at h
      obtain rfl := Option.some.inj h
      obtain ⟨k, rfl⟩ := Int.eq_ofNat_of_zero_le (show 0 ≤ a1 by omega)
      have hk : k < l0.length := by omega
      have h2b : decide ((l0.length : Int) ≤ (k : Int)) = false := decide_eq_false h2
      have hC : Aside0 (Kd.C (Kd.int .u8) w (A0.map fun x => x.add k) (l0.drop k).length (l0.drop k)) := ⟨by
        have z := Kd.C_drop (k := Kd.int .u8) (m := k) hr0 (by omega) hc0
        rw [if_neg (show ¬ c0 = k by omega)] at z
        rw [show k * (Kd.int .u8).sz = k from Nat.mul_one k] at z
        exact z⟩
      have hck : c0 ≠ k := by omega
      have hl : Aside0 ((l0.drop k).length = l0.length - k) := ⟨List.length_drop⟩
      have hm2 : Aside0 ((l0.drop k).length ≤ 9223372036854775807) := ⟨by rw [hl.out]; omega⟩
      have hn : Aside0 (idxNot (l0.drop k) = if runLen (l0.drop k) < (l0.drop k).length then ((runLen (l0.drop k) : Nat) : Int) else -1) := ⟨rfl⟩
      have hle : Aside0 (runLen (l0.drop k) ≤ (l0.drop k).length) := ⟨runLen_le _⟩
      rw [Int.toNat_natCast]
      generalize l0.drop k = xs at *
      clear h1 h2 hr0
      go_enter Tryd.func60, Tryd.ntmps60
      go_wp2_with fail
      rw [← hl.out]
      refine (idx_any _ _ _ _ hC.out hm2.out).mono ?_
      rintro e w' ⟨rfl, rfl⟩
      by_cases hq : runLen xs < xs.length
      · rw [hn.out, if_pos hq]
        clear hq hck
        go_wp2
        go_ret
        exact ⟨rfl, Drawn0.refl _⟩
      · rw [hn.out, if_neg hq]
        have he : Aside0 (((l0.length : Int) - (k : Int)) = ((runLen xs : Nat) : Int)) := ⟨by have := hl.out; have := hle.out; omega⟩
        clear hq hck
        go_wp2
        go_ret
        exact ⟨ret_i64 he.out, Drawn0.refl _⟩
end Go.Proofs.YthkmacgjekienaaDoor.P
