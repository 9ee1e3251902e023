/- Bring; how parses and fails answer of digits. -/
import Derived.Test.YtfpjlpgebhgfkaaDoorQ3
namespace Go.Proofs.YtfpjlpgebhgfkaaDoor.Pure
open Go.RowKit Go.Proofs.YtfpjlpgebhgfkaaDoor.P Go.Proofs.YtfpjlpgebhgfkaaDoorW.PrintWords
set_option linter.unusedVariables false
set_option linter.unusedSimpArgs false

theorem bring_is (a n : Int) (h0 : 0 < n) (h1 : n ≤ 4611686018427387904) : colophonref00_Bring.f a n = some (a % n) := by
  unfold colophonref00_Bring.f
  rw [if_neg (by omega), if_neg (by omega)]
  have h2 := Int.emod_nonneg a (show n ≠ 0 by omega)
  have h3 := Int.emod_lt_of_pos a h0
  have h4 : a.tmod n = a % n ∨ (a.tmod n = a % n - n ∧ a % n ≠ 0) := by
    rw [Int.tmod_eq_emod]
    by_cases hc : 0 ≤ a ∨ n ∣ a
    · rw [if_pos hc]; left; omega
    · rw [if_neg hc]
      right
      refine ⟨by omega, fun e => hc (.inr (Int.dvd_of_emod_eq_zero e))⟩
  rcases h4 with h4 | ⟨h4, h5⟩
  · rw [h4, if_neg (by omega)]
  · rw [h4, if_pos (by omega), wrap_nat (by omega) (by omega)]
    congr 1
    omega
theorem parses_ev (s : ByteArray) (most v : Int) (hs : s.size ≤ 140737488351232) (hm : most < 9223372036854775808) (hd : ∀ c ∈ bytesOf s, isDig c = true) (hn : bytesOf s ≠ []) (hv : val 0 (bytesOf s) = v) (h0 : 0 ≤ v) (hle : v ≤ most) :
    Ev (fun k => colophonlaw05_parses.f k s most v) true := by
  unfold colophonlaw05_parses.f X_bytes.f
  rw [if_pos (by omega)]
  simp only [Option.bind_some]
  refine Ev.bind (parse_ev (bytesOf s) (by rw [bytesOf_length]; omega) most hm) ?_
  have hp : parsed (bytesOf s) most = (v, 0) := by
    unfold parsed told
    have : (bytesOf s).length ≠ 0 := fun h => hn (List.eq_nil_of_length_eq_zero h)
    rw [if_neg (by omega), if_neg (by rw [runLen_all hd]; omega), hv, if_pos hle]
  rw [hp]
  simp only [if_true, beq_self_eq_true]
  exact Ev.now _
theorem fails_ev (s : ByteArray) (most e : Int) (hs : s.size ≤ 140737488351232) (hm : most < 9223372036854775808) (hp : parsed (bytesOf s) most = (0, e)) :
    Ev (fun k => colophonlaw05_fails.f k s most e) true := by
  unfold colophonlaw05_fails.f X_bytes.f
  rw [if_pos (by omega)]
  simp only [Option.bind_some]
  refine Ev.bind (parse_ev (bytesOf s) (by rw [bytesOf_length]; omega) most hm) ?_
  rw [hp]
  simp only [if_true, beq_self_eq_true]
  exact Ev.now _
end Go.Proofs.YtfpjlpgebhgfkaaDoor.Pure
