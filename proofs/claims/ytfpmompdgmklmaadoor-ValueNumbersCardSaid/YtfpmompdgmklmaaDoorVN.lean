/- Numbers' texts: digits, no nought ahead, each number's its own. -/
import Derived.Test.YtfpmompdgmklmaaDoorVB
namespace Go.Proofs.YtfpmompdgmklmaaDoor.P
open Go.RowKit Go.Proofs.YtfpmompdgmklmaaDoorW.PrintWords Go.Proofs.YtfpmompdgmklmaaDoorW.PrintLast Go.Proofs.YtfpmompdgmklmaaDoorW.PrintMore
set_option linter.unusedVariables false
set_option linter.unusedSimpArgs false
theorem dd_small {u : Nat} (h : u < 10) : Lib.decDigits u = [UInt8.ofNat (48 + u)] := by
  rw [Lib.decDigits, dif_pos h]
theorem dd_big {u : Nat} (h : ¬ u < 10) : Lib.decDigits u = Lib.decDigits (u / 10) ++ [UInt8.ofNat (48 + u % 10)] := by
  rw [Lib.decDigits, dif_neg h]
theorem dd_digits (u : Nat) : ∀ c ∈ Lib.decDigits u, 48 ≤ c.toNat ∧ c.toNat ≤ 57 := by
  induction u using Nat.strongRecOn with
  | _ u ih =>
    by_cases h : u < 10
    · rw [dd_small h]
      intro c hc
      simp at hc
      subst hc
      simp
      omega
    · rw [dd_big h]
      intro c hc
      rcases List.mem_append.1 hc with hc | hc
      · exact ih (u / 10) (by omega) c hc
      · simp at hc
        subst hc
        simp
        omega
theorem dd_ne (u : Nat) : Lib.decDigits u ≠ [] := by
  by_cases h : u < 10
  · rw [dd_small h]; simp
  · rw [dd_big h]; simp
theorem dd_head (u : Nat) : ∀ c r, Lib.decDigits u = c :: r → c.toNat = 48 → r = [] := by
  induction u using Nat.strongRecOn with
  | _ u ih =>
    intro c r he hc
    by_cases h : u < 10
    · rw [dd_small h] at he
      injection he with _ h2
      exact h2.symm
    · exfalso
      rw [dd_big h] at he
      cases hd : Lib.decDigits (u / 10) with
      | nil => exact dd_ne _ hd
      | cons c' r' =>
        rw [hd, List.cons_append] at he
        injection he with h1 h2
        subst h1
        have := ih (u / 10) (by omega) c' r' hd hc
        subst this
        by_cases h10 : u / 10 < 10
        · rw [dd_small h10] at hd
          injection hd with h3 _
          rw [← h3] at hc
          simp at hc
          omega
        · rw [dd_big h10] at hd
          cases hd2 : Lib.decDigits (u / 10 / 10) with
          | nil => exact dd_ne _ hd2
          | cons a b => rw [hd2] at hd; simp at hd
/-- The number of digits. -/
def ddVal : Nat → List UInt8 → Nat
  | n, [] => n
  | n, c :: l => ddVal (n * 10 + (c.toNat - 48)) l
theorem ddVal_one (n : Nat) (c : UInt8) : ddVal n [c] = n * 10 + (c.toNat - 48) := rfl
theorem ddVal_append (a b : List UInt8) : ∀ n, ddVal n (a ++ b) = ddVal (ddVal n a) b := by
  induction a with
  | nil => intro n; rfl
  | cons c a ih => intro n; exact ih _
theorem dd_nat {u : Nat} (h : u < 10) : (UInt8.ofNat (48 + u)).toNat = 48 + u := by
  rw [UInt8.toNat_ofNat']
  omega
theorem ddVal_dd (u : Nat) : ddVal 0 (Lib.decDigits u) = u := by
  induction u using Nat.strongRecOn with
  | _ u ih =>
    by_cases h : u < 10
    · rw [dd_small h, ddVal_one, dd_nat h]
      omega
    · rw [dd_big h, ddVal_append, ih (u / 10) (by omega), ddVal_one, dd_nat (Nat.mod_lt _ (by omega))]
      omega
theorem dd_inj {u v : Nat} (h : Lib.decDigits u = Lib.decDigits v) : u = v := by rw [← ddVal_dd u, ← ddVal_dd v, h]
theorem itoa_inj {a b : Int} (h : Lib.itoa a = Lib.itoa b) : a = b := by
  unfold Lib.itoa at h
  by_cases ha : a < 0 <;> by_cases hb : b < 0
  · rw [if_pos ha, if_pos hb] at h
    injection h with _ h
    have := dd_inj h
    omega
  · rw [if_pos ha, if_neg hb] at h
    have := dd_digits b.toNat 45 (by rw [← h]; exact List.mem_cons_self)
    simp at this
  · rw [if_neg ha, if_pos hb] at h
    have := dd_digits a.toNat 45 (by rw [h]; exact List.mem_cons_self)
    simp at this
  · rw [if_neg ha, if_neg hb] at h
    have := dd_inj h
    omega
theorem numS_inj {a b : Int} (h : numS a = numS b) : a = b := by
  unfold numS at h
  injection h with h
  have := congrArg Array.toList h
  exact itoa_inj (by simpa using this)
theorem dd_len (u : Nat) : (Lib.decDigits u).length ≤ u + 1 := by
  induction u using Nat.strongRecOn with
  | _ u ih =>
    by_cases h : u < 10
    · rw [dd_small h]; simp
    · rw [dd_big h]
      have := ih (u / 10) (by omega)
      simp
      omega
theorem dd_len20 (k : Nat) : ∀ u : Nat, u < 10 ^ (k + 1) → (Lib.decDigits u).length ≤ k + 1 := by
  induction k with
  | zero => intro u hu; rw [dd_small (by simpa using hu)]; simp
  | succ k ih =>
    intro u hu
    by_cases h : u < 10
    · rw [dd_small h]; simp
    · rw [dd_big h]
      have := ih (u / 10) (by rw [Nat.pow_succ] at hu; omega)
      simp
      omega
theorem numS_size (n : Int) (h0 : -9223372036854775808 ≤ n) (h1 : n ≤ 9223372036854775807) : (numS n).size ≤ 21 := by
  have e : (numS n).size = (Lib.itoa n).length := by unfold numS; exact List.size_toArray
  rw [e]
  unfold Lib.itoa
  split
  · have := dd_len20 19 n.natAbs (by omega); simp; omega
  · have := dd_len20 19 n.toNat (by omega); omega
theorem int_wf {n : Int} (h : (Lit.int .i64 n).wf = true) : -9223372036854775808 ≤ n ∧ n ≤ 9223372036854775807 := by
  simp [Lit.wf, IntKind.min, IntKind.max, IntKind.signed, IntKind.bits] at h
  omega
end Go.Proofs.YtfpmompdgmklmaaDoor.P
