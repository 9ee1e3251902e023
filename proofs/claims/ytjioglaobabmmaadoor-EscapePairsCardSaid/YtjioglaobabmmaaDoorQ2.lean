/- The document's UTF-8: Encode, Decode, Check, in plain words. -/
import Derived.Test.YtjioglaobabmmaaDoorP4
import Derived.Test.YtjioglaobabmmaaDoorP5
import Derived.Test.YtjioglaobabmmaaDoorP6
import Derived.Test.YtjioglaobabmmaaDoorQ1
namespace Go.Proofs.YtjioglaobabmmaaDoor.Pure
open Go.RowKit Go.Proofs.YtjioglaobabmmaaDoor.P Go.Proofs.YtjioglaobabmmaaDoorW.PrintWords
set_option linter.unusedVariables false
set_option linter.unusedSimpArgs false

def isChar (c : Int) : Prop := 0 ≤ c ∧ c ≤ 1114111 ∧ ¬ (55296 ≤ c ∧ c ≤ 57343)
instance (c : Int) : Decidable (isChar c) := by unfold isChar; infer_instance
def bytesOfChar (c : Int) : List Int :=
  if c < 128 then [c] else if c < 2048 then [192 + c / 64, 128 + c % 64] else if c < 65536 then [224 + c / 4096, 128 + c / 64 % 64, 128 + c % 64]
  else [240 + c / 262144, 128 + c / 4096 % 64, 128 + c / 64 % 64, 128 + c % 64]
def encOf (c : Int) : List Int × Int := if isChar c then (bytesOfChar c, 0) else ([], 10)
theorem isChar_iff (c : Int) : isChar c ↔ (0 ≤ c ∧ c ≤ 1114111 ∧ ¬ (55296 ≤ c ∧ c ≤ 57343)) := Iff.rfl
theorem is_is (c : Int) : colophonref01_Is.f c = some (decide (isChar c)) := by
  unfold colophonref01_Is.f
  by_cases hc : isChar c
  · obtain ⟨h0, h1, h2⟩ := id hc
    rw [decide_eq_true hc, if_pos h0, if_pos h1]
    by_cases h3 : c ≥ 55296
    · rw [if_pos h3, decide_eq_false (by omega)]; rfl
    · rw [if_neg h3]; rfl
  · rw [decide_eq_false hc]
    rw [isChar_iff] at hc
    by_cases h1 : c ≥ 0
    · rw [if_pos h1]
      by_cases h2 : c ≤ 1114111
      · rw [if_pos h2, if_pos (by omega), decide_eq_true (by omega)]; rfl
      · rw [if_neg h2]
    · rw [if_neg h1]
theorem enc_is (c : Int) : colophonref01_Encode.f c = some (encOf c) := by
  unfold colophonref01_Encode.f encOf
  rw [is_is, Option.bind_some]
  by_cases h : isChar c
  · simp only [h, decide_true, if_true]
    obtain ⟨h0, h1, h2⟩ := h
    unfold bytesOfChar
    have d1 : Int.tdiv c 64 = c / 64 := Int.tdiv_eq_ediv_of_nonneg h0
    have d2 : Int.tdiv c 4096 = c / 4096 := Int.tdiv_eq_ediv_of_nonneg h0
    have d3 : Int.tdiv c 262144 = c / 262144 := Int.tdiv_eq_ediv_of_nonneg h0
    have w1 : wrap64 (c / 64) = c / 64 := wrap_nat (by omega) (by omega)
    have w2 : wrap64 (c / 4096) = c / 4096 := wrap_nat (by omega) (by omega)
    have w3 : wrap64 (c / 262144) = c / 262144 := wrap_nat (by omega) (by omega)
    have m0 : Int.tmod c 64 = c % 64 := Int.tmod_eq_emod_of_nonneg h0
    have m1 : Int.tmod (c / 64) 64 = c / 64 % 64 := Int.tmod_eq_emod_of_nonneg (by omega)
    have m2 : Int.tmod (c / 4096) 64 = c / 4096 % 64 := Int.tmod_eq_emod_of_nonneg (by omega)
    rw [d1, d2, d3, w1, w2, w3, m0, m1, m2]
    by_cases a1 : c < 128
    · simp only [if_pos a1]
      rw [show c % 256 = c by omega]
    · simp only [if_neg a1]
      by_cases a2 : c < 2048
      · simp only [if_pos a2]
        rw [wrap_nat (i := 192 + c / 64) (by omega) (by omega), wrap_nat (i := 128 + c % 64) (by omega) (by omega), show (192 + c / 64) % 256 = 192 + c / 64 by omega, show (128 + c % 64) % 256 = 128 + c % 64 by omega]
      · simp only [if_neg a2]
        by_cases a3 : c < 65536
        · simp only [if_pos a3]
          rw [wrap_nat (i := 224 + c / 4096) (by omega) (by omega), wrap_nat (i := 128 + c / 64 % 64) (by omega) (by omega), wrap_nat (i := 128 + c % 64) (by omega) (by omega), show (224 + c / 4096) % 256 = 224 + c / 4096 by omega, show (128 + c / 64 % 64) % 256 = 128 + c / 64 % 64 by omega, show (128 + c % 64) % 256 = 128 + c % 64 by omega]
        · simp only [if_neg a3]
          rw [wrap_nat (i := 240 + c / 262144) (by omega) (by omega), wrap_nat (i := 128 + c / 4096 % 64) (by omega) (by omega), wrap_nat (i := 128 + c / 64 % 64) (by omega) (by omega), wrap_nat (i := 128 + c % 64) (by omega) (by omega), show (240 + c / 262144) % 256 = 240 + c / 262144 by omega, show (128 + c / 4096 % 64) % 256 = 128 + c / 4096 % 64 by omega, show (128 + c / 64 % 64) % 256 = 128 + c / 64 % 64 by omega, show (128 + c % 64) % 256 = 128 + c % 64 by omega]
  · simp only [h, decide_false, Bool.false_eq_true, if_false]
theorem encOf_len (c : Int) : (encOf c).1.length ≤ 4 := by
  unfold encOf bytesOfChar
  repeat' split
  all_goals simp

theorem rd_getElem {l : List Int} {i : Nat} (h : i < l.length) : rd l (i : Int) = l[i] := by simp [rd, List.getD, h]
theorem eqb_loop (a b : List Int) (hl : a.length = b.length) (hm : a.length < 4611686018427387904) (d : Nat) : ∀ i : Nat, i + d = a.length → Ev (fun k => colophonref00_EqBytes.l0 k a b i) (decide (a.drop i = b.drop i)) := by
  induction d with
  | zero =>
    intro i h
    refine Ev.step (f := fun _ => some _) (fun k => ?_) (Ev.now _)
    simp only [colophonref00_EqBytes.l0]
    rw [if_neg (by omega), List.drop_eq_nil_of_le (by omega), List.drop_eq_nil_of_le (by omega)]
    simp
  | succ d ih =>
    intro i h
    have h1 : i < a.length := by omega
    have h2 : i < b.length := by omega
    by_cases he : rd a i = rd b i
    · refine Ev.step (f := fun k => colophonref00_EqBytes.l0 k a b ((i + 1 : Nat) : Int)) (fun k => ?_) ?_
      · simp only [colophonref00_EqBytes.l0]
        rw [if_pos (by omega), if_pos (by omega), if_pos (by omega), if_pos he, wrap_nat (by omega) (by omega)]
        rfl
      · have := ih (i + 1) (by omega)
        rw [rd_getElem h1, rd_getElem h2] at he
        have hd : (a.drop i = b.drop i) ↔ (a.drop (i + 1) = b.drop (i + 1)) := by
          rw [List.drop_eq_getElem_cons h1, List.drop_eq_getElem_cons h2, he]
          exact ⟨fun h => (List.cons.inj h).2, fun h => by rw [h]⟩
        rw [decide_eq_decide.mpr hd]
        exact this
    · refine Ev.step (f := fun _ => some false) (fun k => ?_) ?_
      · simp only [colophonref00_EqBytes.l0]
        rw [if_pos (by omega), if_pos (by omega), if_pos (by omega), if_neg he]
      · rw [rd_getElem h1, rd_getElem h2] at he
        have hd : ¬ (a.drop i = b.drop i) := by
          rw [List.drop_eq_getElem_cons h1, List.drop_eq_getElem_cons h2]
          exact fun h => he (List.cons.inj h).1
        rw [decide_eq_false hd]
        exact Ev.now false
theorem eqb_ev (a b : List Int) (hm : a.length < 4611686018427387904) : Ev (fun k => colophonref00_EqBytes.f k a b) (decide (a = b)) := by
  unfold colophonref00_EqBytes.f
  by_cases h : a.length = b.length
  · simp only [if_pos (show (a.length : Int) = (b.length : Int) by omega)]
    have := eqb_loop a b h hm a.length 0 (by omega)
    simpa using this
  · simp only [if_neg (show ¬ ((a.length : Int) = (b.length : Int)) by omega)]
    have : decide (a = b) = false := decide_eq_false (fun e => h (by rw [e]))
    rw [this]
    exact Ev.now _
theorem jl_end (x : List Int) (n c : Int) : Ev (fun k => colophonref01_joined.l0 k x n c n) c := by
  refine Ev.step (f := fun _ => some c) (fun k => ?_) (Ev.now _)
  simp only [colophonref01_joined.l0]
  rw [if_neg (by omega)]
theorem jl_go (x : List Int) (n c i b : Int) (hrd : rd x i = b) (h0 : 0 ≤ i) (h : i < n) (hn : n ≤ 4) (hl : i < (x.length : Int)) (hb0 : 0 ≤ b) (hb1 : b ≤ 255) (hc0 : 0 ≤ c) (hc1 : c < 4294967296) (r : Int)
    (k : Ev (fun k => colophonref01_joined.l0 k x n (c * 64 + b % 64) (i + 1)) r) : Ev (fun k => colophonref01_joined.l0 k x n c i) r := by
  subst hrd
  refine Ev.step (f := fun k => colophonref01_joined.l0 k x n (c * 64 + rd x i % 64) (i + 1)) (fun k => ?_) k
  simp only [colophonref01_joined.l0]
  rw [if_pos h, if_pos h0, if_pos hl, wrap_nat (i := rd x i) (by omega) (by omega), Int.tmod_eq_emod_of_nonneg hb0, wrap_nat (i := c * 64) (by omega) (by omega), wrap_nat (i := c * 64 + rd x i % 64) (by omega) (by omega), wrap_nat (i := i + 1) (by omega) (by omega)]
/-- What counts of the first byte of a form of n bytes. -/
def headOf (n b0 : Int) : Int := if n = 2 then b0 % 32 else if n = 3 then b0 % 16 else if n = 4 then b0 % 8 else b0
theorem jf_head (b0 : Int) (t : List Int) (n : Int) (h0 : 0 ≤ b0) (h1 : b0 ≤ 255) (r : Int) (k : Ev (fun k => colophonref01_joined.l0 k (b0 :: t) n (headOf n b0) 1) r) : Ev (fun k => colophonref01_joined.f k (b0 :: t) n) r := by
  unfold colophonref01_joined.f headOf at *
  have w : wrap64 b0 = b0 := wrap_nat (by omega) (by omega)
  simp only [rd0, List.length_cons, if_pos (show (0 : Int) < ((t.length + 1 : Nat) : Int) by omega), w]
  by_cases a2 : n = 2
  · simp only [if_pos a2] at *
    rw [Int.tmod_eq_emod_of_nonneg h0]
    refine Ev.step (f := fun k => colophonref01_joined.j1 k (b0 :: t) n (b0 % 32)) (fun k => ?_) ?_
    · simp only [colophonref01_joined.j0]; rw [if_neg (by omega)]
    · refine Ev.step (f := fun k => colophonref01_joined.j2 k (b0 :: t) n (b0 % 32)) (fun k => ?_) ?_
      · simp only [colophonref01_joined.j1]; rw [if_neg (by omega)]
      · exact Ev.step (f := fun k => colophonref01_joined.l0 k (b0 :: t) n (b0 % 32) 1) (fun k => rfl) k
  · simp only [if_neg a2] at *
    by_cases a3 : n = 3
    · simp only [if_pos a3] at *
      refine Ev.step (f := fun k => colophonref01_joined.j1 k (b0 :: t) n (b0 % 16)) (fun k => ?_) ?_
      · simp only [colophonref01_joined.j0]; rw [if_pos a3, Int.tmod_eq_emod_of_nonneg h0]
      · refine Ev.step (f := fun k => colophonref01_joined.j2 k (b0 :: t) n (b0 % 16)) (fun k => ?_) ?_
        · simp only [colophonref01_joined.j1]; rw [if_neg (by omega)]
        · exact Ev.step (f := fun k => colophonref01_joined.l0 k (b0 :: t) n (b0 % 16) 1) (fun k => rfl) k
    · simp only [if_neg a3] at *
      refine Ev.step (f := fun k => colophonref01_joined.j1 k (b0 :: t) n b0) (fun k => ?_) ?_
      · simp only [colophonref01_joined.j0]; rw [if_neg a3]
      · by_cases a4 : n = 4
        · simp only [if_pos a4] at *
          refine Ev.step (f := fun k => colophonref01_joined.j2 k (b0 :: t) n (b0 % 8)) (fun k => ?_) ?_
          · simp only [colophonref01_joined.j1]; rw [if_pos a4, Int.tmod_eq_emod_of_nonneg h0]
          · exact Ev.step (f := fun k => colophonref01_joined.l0 k (b0 :: t) n (b0 % 8) 1) (fun k => rfl) k
        · simp only [if_neg a4] at *
          refine Ev.step (f := fun k => colophonref01_joined.j2 k (b0 :: t) n b0) (fun k => ?_) ?_
          · simp only [colophonref01_joined.j1]; rw [if_neg a4]
          · exact Ev.step (f := fun k => colophonref01_joined.l0 k (b0 :: t) n b0 1) (fun k => rfl) k
/-- One try of the document's decoder. -/
theorem ref_try (rest : List Int) (n : Int) (m : Nat) (hm : n = (m : Int)) (h1 : 1 ≤ m) (h4 : m ≤ 4) (hl : m ≤ rest.length) (c : Int) (hj : Ev (fun k => colophonref01_joined.f k rest n) c) (r : Int × Int × Int)
    (hr : if encOf c = (rest.take m, 0) then r = (c, n, 0) else Ev (fun k => colophonref01_Decode.l0 k rest (n + 1)) r) : Ev (fun k => colophonref01_Decode.l0 k rest n) r := by
  subst hm
  refine Ev.step (f := fun k => colophonref01_Decode.j2 k rest m true) (fun k => ?_) ?_
  · simp only [colophonref01_Decode.l0]
    rw [if_pos (by omega), decide_eq_true (by omega)]
  · refine Ev.step (f := fun k => (colophonref01_joined.f k rest m).bind fun t186 => ((colophonref01_Encode.f t186).bind fun bt187 => (if bt187.2 = 0 then (if 0 ≤ (m : Int) then (if (m : Int) ≤ (rest.length : Int) then ((colophonref00_EqBytes.f k bt187.1 (rest.take ((m : Int)).toNat)).bind fun t192 => (if t192 = true then (some (t186, (m : Int), 0)) else (colophonref01_Decode.l0 k rest (wrap64 ((m : Int) + 1))))) else (none)) else (none)) else (colophonref01_Decode.l0 k rest (wrap64 ((m : Int) + 1)))))) (fun k => ?_) ?_
    · simp only [colophonref01_Decode.j2, if_true]
    · refine Ev.bind hj ?_
      simp only [enc_is, Option.bind_some, Int.toNat_natCast, if_pos (show (0 : Int) ≤ (m : Int) by omega), if_pos (show (m : Int) ≤ (rest.length : Int) by omega)]
      rw [wrap_nat (by omega) (by omega)]
      by_cases he : (encOf c).2 = 0
      · simp only [if_pos he]
        refine Ev.bind (eqb_ev _ _ (by have := encOf_len c; omega)) ?_
        by_cases heq : (encOf c).1 = rest.take m
        · rw [if_pos (Prod.ext heq he)] at hr
          subst hr
          simp only [decide_eq_true heq, if_true]
          exact Ev.now _
        · rw [if_neg (fun h => heq (congrArg Prod.fst h))] at hr
          simp only [decide_eq_false heq, Bool.false_eq_true, if_false]
          exact hr
      · simp only [if_neg he]
        rw [if_neg (fun h => he (congrArg Prod.snd h))] at hr
        exact hr
/-! Totality of 'begins'. -/
theorem jl_total (x : List Int) (n : Int) (hx : n ≤ x.length) (hm : n < 9223372036854775807) (d : Nat) : ∀ (i c : Int), 0 ≤ i → i + d = n → ∃ r, Ev (fun k => colophonref01_joined.l0 k x n c i) r := by
  induction d with
  | zero =>
    intro i c h0 h
    obtain rfl : i = n := by omega
    exact ⟨_, jl_end x i c⟩
  | succ d ih =>
    intro i c h0 h
    obtain ⟨r, hr⟩ := ih (i + 1) (wrap64 ((wrap64 (c * 64)) + (Int.tmod (wrap64 (rd x i)) 64))) (by omega) (by omega)
    refine ⟨r, Ev.step (fun k => ?_) hr⟩
    simp only [colophonref01_joined.l0]
    rw [if_pos (by omega), if_pos h0, if_pos (by omega), wrap_nat (i := i + 1) (by omega) (by omega)]
theorem jf_total (x : List Int) (n : Int) (h1 : 1 ≤ n) (hx : n ≤ x.length) (hm : n < 9223372036854775807) : ∃ r, Ev (fun k => colophonref01_joined.f k x n) r := by
  unfold colophonref01_joined.f
  simp only [if_pos (show (0 : Int) < (x.length : Int) by omega)]
  have hl : ∀ c, ∃ r, Ev (fun k => colophonref01_joined.l0 k x n c 1) r := fun c => jl_total x n hx hm (n - 1).toNat 1 c (by omega) (by omega)
  have h2 : ∀ c, ∃ r, Ev (fun k => colophonref01_joined.j2 k x n c) r := fun c => by
    obtain ⟨r, hr⟩ := hl c
    exact ⟨r, Ev.step (fun k => by simp only [colophonref01_joined.j2]) hr⟩
  have h3 : ∀ c, ∃ r, Ev (fun k => colophonref01_joined.j1 k x n c) r := fun c => by
    by_cases h : n = 4
    · obtain ⟨r, hr⟩ := h2 (Int.tmod c 8)
      exact ⟨r, Ev.step (fun k => by simp only [colophonref01_joined.j1, if_pos h]) hr⟩
    · obtain ⟨r, hr⟩ := h2 c
      exact ⟨r, Ev.step (fun k => by simp only [colophonref01_joined.j1, if_neg h]) hr⟩
  have h4 : ∀ c, ∃ r, Ev (fun k => colophonref01_joined.j0 k x n c) r := fun c => by
    by_cases h : n = 3
    · obtain ⟨r, hr⟩ := h3 (Int.tmod c 16)
      exact ⟨r, Ev.step (fun k => by simp only [colophonref01_joined.j0, if_pos h]) hr⟩
    · obtain ⟨r, hr⟩ := h3 c
      exact ⟨r, Ev.step (fun k => by simp only [colophonref01_joined.j0, if_neg h]) hr⟩
  by_cases h : n = 2
  · simp only [if_pos h]; exact h4 _
  · simp only [if_neg h]; exact h4 _
theorem l2_total (x : List Int) (hx : x.length ≤ 3) (n lo hi : Int) (h0 : 0 ≤ n) (hn : n ≤ 4) (hxn : (x.length : Int) ≤ n) (hnext : ∃ r, Ev (fun k => colophonref01_begins.l0 k x (n + 1)) r) (d : Nat) : ∀ i : Int, 0 ≤ i → i + d = 4 → ∃ r, Ev (fun k => colophonref01_begins.l2 k x n lo hi i) r := by
  induction d with
  | zero =>
    intro i h0 h
    obtain ⟨r, hr⟩ := hnext
    refine ⟨r, Ev.step (fun k => ?_) hr⟩
    simp only [colophonref01_begins.l2]
    rw [if_neg (by omega), wrap_nat (by omega) (by omega)]
  | succ d ih =>
    intro i hi0 h
    obtain ⟨r, hr⟩ := ih (i + 1) (by omega) (by omega)
    have hw : wrap64 (i + 1) = i + 1 := wrap_nat (by omega) (by omega)
    have hl5 : n < ((([0, 0, 128, 2048, 65536] : List Int)).length : Int) := by simp; omega
    generalize hc : rd (([mx lo (rd (([0, 0, 128, 2048, 65536] : List Int)) n), 57344, hi, lo] : List Int)) i = c
    have hl4 : i < ((([mx lo (rd (([0, 0, 128, 2048, 65536] : List Int)) n), 57344, hi, lo] : List Int)).length : Int) := by simp; omega
    have step : ∀ k, colophonref01_begins.l2 (k + 1) x n lo hi i = (if (encOf c).2 = 0 then (if c ≥ lo then (if c ≤ hi then (if ((encOf c).1.length : Int) = n then (if 0 ≤ (x.length : Int) then (if (x.length : Int) ≤ ((encOf c).1.length : Int) then ((colophonref00_EqBytes.f k ((encOf c).1.take ((x.length : Int)).toNat) x).bind fun t183 => (if t183 = true then (some true) else (colophonref01_begins.l2 k x n lo hi (wrap64 (i + 1))))) else (none)) else (none)) else (colophonref01_begins.l2 k x n lo hi (wrap64 (i + 1)))) else (colophonref01_begins.l2 k x n lo hi (wrap64 (i + 1)))) else (colophonref01_begins.l2 k x n lo hi (wrap64 (i + 1)))) else (colophonref01_begins.l2 k x n lo hi (wrap64 (i + 1)))) := by
      intro k
      simp only [colophonref01_begins.l2]
      rw [if_pos (by omega)]
      simp only [Option.bind_some]
      rw [if_pos h0, if_pos hl5, if_pos hi0, if_pos hl4, hc, enc_is, Option.bind_some]
    rw [hw] at step
    by_cases g1 : (encOf c).2 = 0
    · by_cases g2 : c ≥ lo
      · by_cases g3 : c ≤ hi
        · by_cases g4 : ((encOf c).1.length : Int) = n
          · by_cases g5 : (encOf c).1.take x.length = x
            · refine ⟨true, Ev.step (f := fun k => (colophonref00_EqBytes.f k ((encOf c).1.take x.length) x).bind fun t183 => (if t183 = true then (some true) else (colophonref01_begins.l2 k x n lo hi (i + 1)))) (fun k => ?_) (Ev.bind (eqb_ev _ _ (by simp; omega)) ?_)⟩
              · rw [step, if_pos g1, if_pos g2, if_pos g3, if_pos g4, if_pos (by omega), if_pos (by omega), Int.toNat_natCast]
              · simp only [decide_eq_true g5, if_true]; exact Ev.now _
            · refine ⟨r, Ev.step (f := fun k => (colophonref00_EqBytes.f k ((encOf c).1.take x.length) x).bind fun t183 => (if t183 = true then (some true) else (colophonref01_begins.l2 k x n lo hi (i + 1)))) (fun k => ?_) (Ev.bind (eqb_ev _ _ (by simp; omega)) ?_)⟩
              · rw [step, if_pos g1, if_pos g2, if_pos g3, if_pos g4, if_pos (by omega), if_pos (by omega), Int.toNat_natCast]
              · simp only [decide_eq_false g5, Bool.false_eq_true, if_false]; exact hr
          · exact ⟨r, Ev.step (fun k => by rw [step, if_pos g1, if_pos g2, if_pos g3, if_neg g4]) hr⟩
        · exact ⟨r, Ev.step (fun k => by rw [step, if_pos g1, if_pos g2, if_neg g3]) hr⟩
      · exact ⟨r, Ev.step (fun k => by rw [step, if_pos g1, if_neg g2]) hr⟩
    · exact ⟨r, Ev.step (fun k => by rw [step, if_neg g1]) hr⟩
theorem l1_total (x : List Int) (hx : x.length ≤ 3) (n : Int) (h1 : 1 ≤ n) (hn : n ≤ 4) (hxn : (x.length : Int) ≤ n) (hnext : ∃ r, Ev (fun k => colophonref01_begins.l0 k x (n + 1)) r) (d : Nat) : ∀ a b : List Int, a.length = b.length → (a.length : Int) + d = n → ∃ r, Ev (fun k => colophonref01_begins.l1 k x n a b) r := by
  induction d with
  | zero =>
    intro a b hab h
    obtain ⟨ra, hra⟩ := jf_total a n h1 (by omega) (by omega)
    obtain ⟨rb, hrb⟩ := jf_total b n h1 (by omega) (by omega)
    obtain ⟨r, hr⟩ := l2_total x hx n ra rb (by omega) hn hxn hnext 4 0 (by omega) (by omega)
    refine ⟨r, Ev.step (f := fun k => (colophonref01_joined.f k a n).bind fun t165 => ((colophonref01_joined.f k b n).bind fun t166 => (colophonref01_begins.l2 k x n t165 t166 0))) (fun k => ?_) (Ev.bind hra (Ev.bind hrb hr))⟩
    simp only [colophonref01_begins.l1]
    rw [if_neg (by omega)]
  | succ d ih =>
    intro a b hab h
    obtain ⟨r, hr⟩ := ih (a ++ [128]) (b ++ [191]) (by simp [hab]) (by simp; omega)
    refine ⟨r, Ev.step (fun k => ?_) hr⟩
    simp only [colophonref01_begins.l1]
    rw [if_pos (by omega), if_pos (by omega), if_pos (by omega)]
theorem begins_total (x : List Int) (hx : x.length ≤ 3) (d : Nat) : ∀ n : Int, 1 ≤ n → (x.length : Int) ≤ n → n + d = 5 → ∃ r, Ev (fun k => colophonref01_begins.l0 k x n) r := by
  induction d with
  | zero =>
    intro n h1 hxn h
    refine ⟨false, Ev.step (f := fun _ => some false) (fun k => ?_) (Ev.now _)⟩
    simp only [colophonref01_begins.l0]
    rw [if_neg (by omega)]
  | succ d ih =>
    intro n h1 hxn h
    obtain ⟨r, hr⟩ := l1_total x hx n h1 (by omega) hxn (ih (n + 1) (by omega) (by omega) (by omega)) (n - x.length).toNat x x rfl (by omega)
    refine ⟨r, Ev.step (fun k => ?_) hr⟩
    simp only [colophonref01_begins.l0]
    rw [if_pos (by omega)]
    simp only [Option.bind_some, List.nil_append, List.length_nil]
    rw [if_pos (by omega), if_pos (by omega)]
/-- No size fits any more: some fault. -/
theorem ref_stop (rest : List Int) (h1 : 1 ≤ rest.length) (n : Int) (hn : (n = 5 ∧ 4 ≤ rest.length) ∨ (n = rest.length + 1 ∧ rest.length ≤ 3)) : ∃ r, Ev (fun k => colophonref01_Decode.l0 k rest n) r ∧ DecIs none r := by
  have h2 : ∃ r, Ev (fun k => colophonref01_Decode.j2 k rest n false) r ∧ DecIs none r := by
    by_cases h4 : (rest.length : Int) < 4
    · obtain ⟨b, hb⟩ := begins_total rest (by omega) (4 - rest.length) ((rest.length : Int) + 1) (by omega) (by omega) (by omega)
      have hbf : Ev (fun k => colophonref01_begins.f k rest) b := by
        unfold colophonref01_begins.f
        rw [wrap_nat (by omega) (by omega)]
        exact hb
      refine ⟨if b = true then (0, 0, 3) else (0, 0, 10), Ev.step (f := fun k => (colophonref01_begins.f k rest).bind fun t185 => (if t185 = true then (some (0, 0, 3)) else (some (0, 0, 10)))) (fun k => ?_) (Ev.bind hbf ?_), ?_⟩
      · simp only [colophonref01_Decode.j2, Bool.false_eq_true, if_false]
        rw [if_pos h4]
      · cases b
        · exact Ev.now _
        · exact Ev.now _
      · cases b
        · exact bad10
        · exact bad3
    · refine ⟨(0, 0, 10), Ev.step (f := fun _ => some (0, 0, 10)) (fun k => ?_) (Ev.now _), bad10⟩
      simp only [colophonref01_Decode.j2, Bool.false_eq_true, if_false]
      rw [if_neg h4]
  obtain ⟨r, hr, hd⟩ := h2
  refine ⟨r, Ev.step (fun k => ?_) hr, hd⟩
  simp only [colophonref01_Decode.l0]
  by_cases h : n ≤ 4
  · rw [if_pos h, decide_eq_false (by omega)]
  · rw [if_neg h]
theorem m1 (b0 : Int) (t : List Int) (h0 : 0 ≤ b0) (h1 : b0 ≤ 255) : encOf b0 = ((b0 :: t).take 1, 0) ↔ b0 < 128 := by
  unfold encOf bytesOfChar
  rw [if_pos (show isChar _ from ⟨by omega, by omega, by omega⟩)]
  by_cases h : b0 < 128
  · simp [h]
  · rw [if_neg h, if_pos (by omega)]
    simp [h]
theorem m2 (b0 b1 : Int) (t : List Int) (h0 : 0 ≤ b0) (h1 : b0 ≤ 255) (k0 : 0 ≤ b1) (k1 : b1 ≤ 255) : encOf (b0 % 32 * 64 + b1 % 64) = ((b0 :: b1 :: t).take 2, 0) ↔ (194 ≤ b0 ∧ b0 ≤ 223 ∧ 128 ≤ b1 ∧ b1 ≤ 191) := by
  unfold encOf bytesOfChar
  rw [if_pos (show isChar _ from ⟨by omega, by omega, by omega⟩)]
  by_cases h : b0 % 32 * 64 + b1 % 64 < 128
  · rw [if_pos h]
    simp only [List.take_succ_cons, List.take_zero, Prod.mk.injEq, List.cons.injEq, and_true, reduceCtorEq, and_false, false_iff]
    omega
  · rw [if_neg h, if_pos (by omega)]
    simp only [List.take_succ_cons, List.take_zero, Prod.mk.injEq, List.cons.injEq, and_true]
    omega
theorem m3 (b0 b1 b2 : Int) (t : List Int) (h0 : 0 ≤ b0) (h1 : b0 ≤ 255) (k0 : 0 ≤ b1) (k1 : b1 ≤ 255) (l0 : 0 ≤ b2) (l1 : b2 ≤ 255) : encOf ((b0 % 16 * 64 + b1 % 64) * 64 + b2 % 64) = ((b0 :: b1 :: b2 :: t).take 3, 0) ↔ (224 ≤ b0 ∧ b0 ≤ 239 ∧ lowOf b0 ≤ b1 ∧ b1 ≤ highOf b0 ∧ 128 ≤ b2 ∧ b2 ≤ 191) := by
  have hlo : b0 ≤ 239 → lowOf b0 = if b0 = 224 then 160 else 128 := by intro h; unfold lowOf; split; rfl; rw [if_neg (by omega)]
  have hhi : b0 ≤ 239 → highOf b0 = if b0 = 237 then 159 else 191 := by intro h; unfold highOf; split; rfl; rw [if_neg (by omega)]
  generalize hl : lowOf b0 = lo at *
  generalize hh : highOf b0 = hi at *
  unfold encOf bytesOfChar
  split
  · rename_i hy
    rw [isChar_iff] at hy
    by_cases h : (b0 % 16 * 64 + b1 % 64) * 64 + b2 % 64 < 128
    · rw [if_pos h]
      simp only [List.take_succ_cons, List.take_zero, Prod.mk.injEq, List.cons.injEq, and_true, reduceCtorEq, and_false, false_iff]
      intro ⟨a1, a2, a3, a4, a5, a6⟩
      have := hlo a2; have := hhi a2
      split at * <;> split at * <;> omega
    · rw [if_neg h]
      by_cases h' : (b0 % 16 * 64 + b1 % 64) * 64 + b2 % 64 < 2048
      · rw [if_pos h']
        simp only [List.take_succ_cons, List.take_zero, Prod.mk.injEq, List.cons.injEq, and_true, reduceCtorEq, and_false, false_iff]
        intro ⟨a1, a2, a3, a4, a5, a6⟩
        have := hlo a2; have := hhi a2
        split at * <;> split at * <;> omega
      · rw [if_neg h', if_pos (by omega)]
        simp only [List.take_succ_cons, List.take_zero, Prod.mk.injEq, List.cons.injEq, and_true]
        constructor
        · intro ⟨e0, e1, e2⟩
          have := hlo (by omega); have := hhi (by omega)
          refine ⟨by omega, by omega, ?_, ?_, by omega, by omega⟩
          · split at * <;> split at * <;> omega
          · split at * <;> split at * <;> omega
        · intro ⟨a1, a2, a3, a4, a5, a6⟩
          have := hlo a2; have := hhi a2
          have : 128 ≤ b1 ∧ b1 ≤ 191 := by split at * <;> split at * <;> omega
          omega
  · rename_i hn
    rw [isChar_iff] at hn
    simp only [Prod.mk.injEq, List.take_succ_cons, reduceCtorEq, and_false, false_and, false_iff]
    intro ⟨a1, a2, a3, a4, a5, a6⟩
    have := hlo a2; have := hhi a2
    split at * <;> split at * <;> omega
theorem m4 (b0 b1 b2 b3 : Int) (t : List Int) (h0 : 0 ≤ b0) (h1 : b0 ≤ 255) (k0 : 0 ≤ b1) (k1 : b1 ≤ 255) (l0 : 0 ≤ b2) (l1 : b2 ≤ 255) (q0 : 0 ≤ b3) (q1 : b3 ≤ 255) : encOf (((b0 % 8 * 64 + b1 % 64) * 64 + b2 % 64) * 64 + b3 % 64) = ((b0 :: b1 :: b2 :: b3 :: t).take 4, 0) ↔ (240 ≤ b0 ∧ b0 ≤ 244 ∧ lowOf b0 ≤ b1 ∧ b1 ≤ highOf b0 ∧ 128 ≤ b2 ∧ b2 ≤ 191 ∧ 128 ≤ b3 ∧ b3 ≤ 191) := by
  have hlo : 240 ≤ b0 → lowOf b0 = if b0 = 240 then 144 else 128 := by intro h; unfold lowOf; rw [if_neg (by omega)]
  have hhi : 240 ≤ b0 → highOf b0 = if b0 = 244 then 143 else 191 := by intro h; unfold highOf; rw [if_neg (by omega)]
  generalize hl : lowOf b0 = lo at *
  generalize hh : highOf b0 = hi at *
  generalize hc : ((b0 % 8 * 64 + b1 % 64) * 64 + b2 % 64) * 64 + b3 % 64 = c
  unfold encOf bytesOfChar
  split
  · rename_i hy
    rw [isChar_iff] at hy
    by_cases h : c < 128
    · rw [if_pos h]
      simp only [List.take_succ_cons, List.take_zero, Prod.mk.injEq, List.cons.injEq, and_true, reduceCtorEq, and_false, false_iff]
      intro ⟨a1, a2, a3, a4, a5, a6, a7, a8⟩
      have := hlo a1; have := hhi a1
      split at * <;> split at * <;> omega
    · rw [if_neg h]
      by_cases h' : c < 2048
      · rw [if_pos h']
        simp only [List.take_succ_cons, List.take_zero, Prod.mk.injEq, List.cons.injEq, and_true, reduceCtorEq, and_false, false_iff]
        intro ⟨a1, a2, a3, a4, a5, a6, a7, a8⟩
        have := hlo a1; have := hhi a1
        split at * <;> split at * <;> omega
      · rw [if_neg h']
        by_cases h'' : c < 65536
        · rw [if_pos h'']
          simp only [List.take_succ_cons, List.take_zero, Prod.mk.injEq, List.cons.injEq, and_true, reduceCtorEq, and_false, false_iff]
          intro ⟨a1, a2, a3, a4, a5, a6, a7, a8⟩
          have := hlo a1; have := hhi a1
          split at * <;> split at * <;> omega
        · rw [if_neg h'']
          simp only [List.take_succ_cons, List.take_zero, Prod.mk.injEq, List.cons.injEq, and_true]
          constructor
          · intro ⟨e0, e1, e2, e3⟩
            have := hlo (by omega); have := hhi (by omega)
            refine ⟨by omega, by omega, ?_, ?_, by omega, by omega, by omega, by omega⟩
            · split at * <;> split at * <;> omega
            · split at * <;> split at * <;> omega
          · intro ⟨a1, a2, a3, a4, a5, a6, a7, a8⟩
            have := hlo a1; have := hhi a1
            have : 128 ≤ b1 ∧ b1 ≤ 191 := by split at * <;> split at * <;> omega
            omega
  · rename_i hn
    rw [isChar_iff] at hn
    simp only [Prod.mk.injEq, List.take_succ_cons, reduceCtorEq, and_false, false_and, false_iff]
    intro ⟨a1, a2, a3, a4, a5, a6, a7, a8⟩
    have := hlo a1; have := hhi a1
    split at * <;> split at * <;> omega
end Go.Proofs.YtjioglaobabmmaaDoor.Pure
