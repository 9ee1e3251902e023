/- Plain facts on UTF-8: what stands at a place; runes.Decode says it. -/
import Derived.Test.YtjioglaobabmmaaDoorP1
import Derived.Laws.BitsLemmas
import Derived.DataShut
import Derived.Test.YtjioglaobabmmaaDoorP4
import Derived.Test.YtjioglaobabmmaaDoorP5
import Derived.Test.YtjioglaobabmmaaDoorP6
import Derived.Test.YtjioglaobabmmaaDoorP9
import Derived.Test.YtjioglaobabmmaaDoorP3
import Derived.Test.YtjioglaobabmmaaDoorP7
import Derived.Test.YtjioglaobabmmaaDoorP8
import Derived.Test.YtjioglaobabmmaaDoorSUnquote
namespace Go.Proofs.YtjioglaobabmmaaDoor.Pure
open Go.RowKit Go.Proofs.YtjioglaobabmmaaDoor.P Go.Proofs.YtjioglaobabmmaaDoorW.PrintWords
set_option linter.unusedVariables false
set_option linter.unusedSimpArgs false

theorem wrap_nat {i : Int} (h0 : -9223372036854775808 ≤ i) (h : i < 9223372036854775808) : wrap64 i = i := by unfold wrap64; omega
theorem wrap32_is {i : Int} (h0 : -2147483648 ≤ i) (h : i < 2147483648) : wrap32 i = i := by unfold wrap32; omega
theorem int_range {n : Int} (h : (Lit.int .i64 n).wf = true) : -9223372036854775808 ≤ n ∧ n ≤ 9223372036854775807 := by
  have := (Lit.wf_int_iff _ _).1 h
  simpa [IntKind.min, IntKind.max, IntKind.bits, IntKind.signed] using this
theorem byte_range {n : Int} (h : (Lit.int .u8 n).wf = true) : 0 ≤ n ∧ n ≤ 255 := by
  have := (Lit.wf_int_iff _ _).1 h
  simpa [IntKind.min, IntKind.max, IntKind.bits, IntKind.signed] using this
theorem wraps_i64 (n : Int) (h₀ : 0 ≤ n) (h₁ : n < 2 ^ 63) : IntKind.i64.wrap n = n := by rw [IntKind.wrap_i64]; omega
theorem i64_or6 {x y : Int} (hx₀ : 0 ≤ x) (hx : x % 64 = 0) (hx₁ : x < 9223372036854775808) (h₀ : 0 ≤ y) (h₁ : y < 64) : Go.bits .or .i64 x y = x + y :=
  bits_join .i64 63 (by decide) wraps_i64 6 x y hx₀ hx hx₁ h₀ h₁ (by omega)
theorem i64_or4 {x y : Int} (hx₀ : 0 ≤ x) (hx : x % 16 = 0) (hx₁ : x < 9223372036854775808) (h₀ : 0 ≤ y) (h₁ : y < 16) : Go.bits .or .i64 x y = x + y :=
  bits_join .i64 63 (by decide) wraps_i64 4 x y hx₀ hx hx₁ h₀ h₁ (by omega)
theorem i64_or10 {x y : Int} (hx₀ : 0 ≤ x) (hx : x % 1024 = 0) (hx₁ : x < 9223372036854775808) (h₀ : 0 ≤ y) (h₁ : y < 1024) : Go.bits .or .i64 x y = x + y :=
  bits_join .i64 63 (by decide) wraps_i64 10 x y hx₀ hx hx₁ h₀ h₁ (by omega)

/-- Bytes. -/
def Bytes (l : List Int) : Prop := ∀ x ∈ l, 0 ≤ x ∧ x ≤ 255
theorem Bytes.cons {a : Int} {l : List Int} (h : Bytes (a :: l)) : (0 ≤ a ∧ a ≤ 255) ∧ Bytes l := ⟨h a (by simp), fun x hx => h x (by simp [hx])⟩
theorem Bytes.drop {l : List Int} (h : Bytes l) (n : Nat) : Bytes (l.drop n) := fun x hx => h x (List.mem_of_mem_drop hx)
theorem Bytes.take {l : List Int} (h : Bytes l) (n : Nat) : Bytes (l.take n) := fun x hx => h x (List.mem_of_mem_take hx)
def lowOf (b : Int) : Int := if b = 224 then 160 else if b = 240 then 144 else 128
def highOf (b : Int) : Int := if b = 237 then 159 else if b = 244 then 143 else 191
/-- The character that bytes begin with, and how many bytes it has. -/
def dec : List Int → Option (Int × Nat)
  | [] => none
  | b0 :: t =>
    if b0 < 128 then some (b0, 1)
    else if b0 < 194 then none
    else if b0 > 244 then none
    else if b0 < 224 then match t with
      | b1 :: _ => if 128 ≤ b1 ∧ b1 ≤ 191 then some ((b0 - 192) * 64 + (b1 - 128), 2) else none
      | _ => none
    else if b0 < 240 then match t with
      | b1 :: b2 :: _ => if lowOf b0 ≤ b1 ∧ b1 ≤ highOf b0 ∧ 128 ≤ b2 ∧ b2 ≤ 191 then some ((b0 - 224) * 4096 + (b1 - 128) * 64 + (b2 - 128), 3) else none
      | _ => none
    else match t with
      | b1 :: b2 :: b3 :: _ => if lowOf b0 ≤ b1 ∧ b1 ≤ highOf b0 ∧ 128 ≤ b2 ∧ b2 ≤ 191 ∧ 128 ≤ b3 ∧ b3 ≤ 191 then some ((b0 - 240) * 262144 + (b1 - 128) * 4096 + (b2 - 128) * 64 + (b3 - 128), 4) else none
      | _ => none
/-- Which of its three answers a decoder gives: the character, or some fault. -/
def DecIs (o : Option (Int × Nat)) (r : Int × Int × Int) : Prop := match o with
  | some (c, n) => r = (c, (n : Int), 0)
  | none => r.1 = 0 ∧ r.2.1 = 0 ∧ r.2.2 ≠ 0
def formOf (b0 : Int) : Int × Int × Int × Int :=
  if b0 < 128 then (1, 127, 128, 191) else if b0 < 194 then (0, 0, 0, 0) else if b0 > 244 then (0, 0, 0, 0)
  else if b0 < 224 then (2, 31, 128, 191) else if b0 < 240 then (3, 15, lowOf b0, highOf b0) else (4, 7, lowOf b0, highOf b0)
theorem form_ev (b0 : Int) : Ev (fun k => runes_form.f k b0) (formOf b0) := by
  unfold runes_form.f formOf
  by_cases h1 : b0 < 128
  · simp only [if_pos h1]; exact Ev.now _
  · simp only [if_neg h1]
    by_cases h2 : b0 < 194
    · simp only [if_pos h2]
      refine Ev.step (f := fun _ => some (0, 0, 0, 0)) (fun k => ?_) (Ev.now _)
      simp only [runes_form.j0, if_true]
    · simp only [if_neg h2]
      by_cases h3 : b0 > 244
      · simp only [if_pos h3]
        refine Ev.step (f := fun _ => some (0, 0, 0, 0)) (fun k => ?_) (Ev.now _)
        simp [runes_form.j0, h3]
      · simp only [if_neg h3]
        refine Ev.step (f := fun _ => some (if b0 < 224 then (2, 31, 128, 191) else if b0 < 240 then (3, 15, lowOf b0, highOf b0) else (4, 7, lowOf b0, highOf b0))) (fun k => ?_) (Ev.now _)
        have h3' : ¬ (244 < b0) := h3
        simp only [runes_form.j0, h3, decide_false, Bool.false_eq_true, if_false]
        by_cases h4 : b0 < 224
        · simp only [if_pos h4]
        · simp only [if_neg h4]
          by_cases h5 : b0 < 240
          · simp only [if_pos h5, lowOf, highOf]
            by_cases e1 : b0 = 224
            · subst e1; rfl
            · by_cases e2 : b0 = 237
              · subst e2; rfl
              · simp only [if_neg e1, if_neg e2, if_neg (show ¬ b0 = 240 by omega), if_neg (show ¬ b0 = 244 by omega)]
          · simp only [if_neg h5, lowOf, highOf]
            by_cases e1 : b0 = 240
            · subst e1; rfl
            · by_cases e2 : b0 = 244
              · subst e2; rfl
              · simp only [if_neg e1, if_neg e2, if_neg (show ¬ b0 = 224 by omega), if_neg (show ¬ b0 = 237 by omega)]
theorem l0_end (c s : Int) (rest : List Int) (lo hi : Int) : Ev (fun k => runes_Decode.l0 k c s rest lo hi s) (c, s, 0) := by
  refine Ev.step (f := fun _ => some (c, s, 0)) (fun k => ?_) (Ev.now _)
  simp only [runes_Decode.l0]
  rw [if_neg (by omega)]
theorem l0_trunc (c s : Int) (rest : List Int) (lo hi i : Int) (h : i < s) (hl : i = (rest.length : Int)) : Ev (fun k => runes_Decode.l0 k c s rest lo hi i) (0, 0, 3) := by
  refine Ev.step (f := fun _ => some (0, 0, 3)) (fun k => ?_) (Ev.now _)
  simp only [runes_Decode.l0]
  rw [if_pos h, if_pos hl]
theorem l0_bad (c s : Int) (rest : List Int) (lo hi i : Int) (h0 : 0 ≤ i) (h : i < s) (hl : i < (rest.length : Int)) (hb : rd rest i < lo ∨ hi < rd rest i) : Ev (fun k => runes_Decode.l0 k c s rest lo hi i) (0, 0, 10) := by
  refine Ev.step (f := fun _ => some (0, 0, 10)) (fun k => ?_) (Ev.now _)
  simp only [runes_Decode.l0]
  rw [if_pos h, if_neg (by omega), if_pos h0, if_pos hl]
  by_cases h1 : rd rest i < lo
  · rw [if_pos h1]
  · rw [if_neg h1, if_pos (by omega)]
theorem l0_go (c s : Int) (rest : List Int) (lo hi i b : Int) (hrd : rd rest i = b) (h0 : 0 ≤ i) (h : i < s) (hs : s ≤ 4) (hl : i < (rest.length : Int)) (h1 : lo ≤ b) (h2 : b ≤ hi) (hr0 : 0 ≤ b) (hr1 : b ≤ 255) (hc0 : 0 ≤ c) (hc1 : c < 4294967296) (r : Int × Int × Int)
    (k : Ev (fun k => runes_Decode.l0 k (c * 64 + b % 64) s rest 128 191 (i + 1)) r) : Ev (fun k => runes_Decode.l0 k c s rest lo hi i) r := by
  subst hrd
  refine Ev.step (f := fun k => runes_Decode.l0 k (c * 64 + rd rest i % 64) s rest 128 191 (i + 1)) (fun k => ?_) k
  simp only [runes_Decode.l0]
  rw [if_pos h, if_neg (by omega), if_pos h0, if_pos hl, if_neg (by omega), if_neg (by omega)]
  rw [u8_and63 _ hr0 (by omega), wrap_nat (i := c * 64) (by omega) (by omega), wrap_nat (i := rd rest i % 64) (by omega) (by omega), i64_or6 (by omega) (by omega) (by omega) (by omega) (by omega), wrap_nat (i := i + 1) (by omega) (by omega)]
theorem rd0 (a : Int) (t : List Int) : rd (a :: t) 0 = a := rfl
theorem rd1 (a b : Int) (t : List Int) : rd (a :: b :: t) 1 = b := rfl
theorem rd2 (a b c : Int) (t : List Int) : rd (a :: b :: c :: t) 2 = c := rfl
theorem rd3 (a b c d : Int) (t : List Int) : rd (a :: b :: c :: d :: t) 3 = d := rfl
theorem bad3 : DecIs none (0, 0, 3) := ⟨rfl, rfl, by decide⟩
theorem bad10 : DecIs none (0, 0, 10) := ⟨rfl, rfl, by decide⟩
/-- The loop, at a form of two, three, four bytes. -/
theorem runes_tail (b0 : Int) (t : List Int) (hb : Bytes (b0 :: t)) :
    ∃ r, Ev (fun k => (if (formOf b0).1 = 0 then (some (0, 0, 10)) else (runes_Decode.l0 k (wrap64 (Go.bits .and .u8 b0 (formOf b0).2.1)) (formOf b0).1 (b0 :: t) (formOf b0).2.2.1 (formOf b0).2.2.2 1))) r ∧ DecIs (dec (b0 :: t)) r := by
  obtain ⟨⟨g0, g1⟩, ht⟩ := hb.cons
  unfold formOf dec
  by_cases h1 : b0 < 128
  · simp only [if_pos h1]
    refine ⟨(b0, 1, 0), ?_, rfl⟩
    rw [show Go.bits .and .u8 b0 127 = b0 % 128 from bits_mask .u8 8 (by decide) wraps_u8 7 (by decide) b0 g0 (by omega), wrap_nat (by omega) (by omega)]
    have : b0 % 128 = b0 := by omega
    rw [this]
    simpa using l0_end b0 1 (b0 :: t) 128 191
  · simp only [if_neg h1]
    by_cases h2 : b0 < 194
    · simp only [if_pos h2]; exact ⟨_, Ev.now _, bad10⟩
    · simp only [if_neg h2]
      by_cases h3 : b0 > 244
      · simp only [if_pos h3]; exact ⟨_, Ev.now _, bad10⟩
      · simp only [if_neg h3]
        by_cases h4 : b0 < 224
        · simp only [if_pos h4, show ¬ ((2 : Int) = 0) by decide, if_false]
          rw [u8_and31 _ g0 (by omega), wrap_nat (by omega) (by omega)]
          match t, ht with
          | [], _ => exact ⟨_, l0_trunc _ _ _ _ _ _ (by decide) rfl, bad3⟩
          | b1 :: t1, ht =>
            obtain ⟨⟨k0, k1⟩, ht1⟩ := ht.cons
            by_cases c1 : 128 ≤ b1 ∧ b1 ≤ 191
            · simp only [if_pos c1]
              refine ⟨_, l0_go _ _ _ _ _ _ b1 (by rfl) (by decide) (by decide) (by decide) (by simp only [List.length_cons, List.length_nil]; omega) c1.1 c1.2 k0 k1 (by omega) (by omega) _ (l0_end _ 2 _ _ _), ?_⟩
              show (_, _, _) = (_, _, _)
              rw [show b0 % 32 * 64 + b1 % 64 = (b0 - 192) * 64 + (b1 - 128) by omega]
              rfl
            · simp only [if_neg c1]
              exact ⟨_, l0_bad _ _ _ _ _ _ (by decide) (by decide) (by simp only [List.length_cons, List.length_nil]; omega) (by rw [rd1]; omega), bad10⟩
        · simp only [if_neg h4]
          by_cases h5 : b0 < 240
          · simp only [if_pos h5, show ¬ ((3 : Int) = 0) by decide, if_false]
            rw [u8_and15 _ g0 (by omega), wrap_nat (by omega) (by omega)]
            match t, ht with
            | [], _ => exact ⟨_, l0_trunc _ _ _ _ _ _ (by decide) rfl, bad3⟩
            | [b1], ht =>
              obtain ⟨⟨k0, k1⟩, ht1⟩ := ht.cons
              by_cases c1 : lowOf b0 ≤ b1 ∧ b1 ≤ highOf b0
              · exact ⟨_, l0_go _ _ _ _ _ _ b1 (by rfl) (by decide) (by decide) (by decide) (by simp only [List.length_cons, List.length_nil]; omega) c1.1 c1.2 k0 k1 (by omega) (by omega) _ (l0_trunc _ _ _ _ _ _ (by decide) rfl), bad3⟩
              · exact ⟨_, l0_bad _ _ _ _ _ _ (by decide) (by decide) (by simp only [List.length_cons, List.length_nil]; omega) (by rw [rd1]; omega), bad10⟩
            | b1 :: b2 :: t2, ht =>
              obtain ⟨⟨k0, k1⟩, ht1⟩ := ht.cons
              obtain ⟨⟨m0, m1⟩, ht2⟩ := ht1.cons
              by_cases c1 : lowOf b0 ≤ b1 ∧ b1 ≤ highOf b0
              · have hb1 : 128 ≤ b1 ∧ b1 ≤ 191 := by
                  have := c1.1; have := c1.2; unfold lowOf at *; unfold highOf at *; split at * <;> split at * <;> omega
                by_cases c2 : 128 ≤ b2 ∧ b2 ≤ 191
                · simp only [if_pos (show lowOf b0 ≤ b1 ∧ b1 ≤ highOf b0 ∧ 128 ≤ b2 ∧ b2 ≤ 191 from ⟨c1.1, c1.2, c2⟩)]
                  refine ⟨_, l0_go _ _ _ _ _ _ b1 (by rfl) (by decide) (by decide) (by decide) (by simp only [List.length_cons, List.length_nil]; omega) c1.1 c1.2 k0 k1 (by omega) (by omega) _ (l0_go _ _ _ _ _ _ b2 (by rfl) (by decide) (by decide) (by decide) (by simp only [List.length_cons, List.length_nil]; omega) c2.1 c2.2 m0 m1 (by omega) (by omega) _ (l0_end _ 3 _ _ _)), ?_⟩
                  show (_, _, _) = (_, _, _)
                  rw [show (b0 % 16 * 64 + b1 % 64) * 64 + b2 % 64 = (b0 - 224) * 4096 + (b1 - 128) * 64 + (b2 - 128) by omega]
                  rfl
                · simp only [if_neg (show ¬ (lowOf b0 ≤ b1 ∧ b1 ≤ highOf b0 ∧ 128 ≤ b2 ∧ b2 ≤ 191) from fun h => c2 h.2.2)]
                  exact ⟨_, l0_go _ _ _ _ _ _ b1 (by rfl) (by decide) (by decide) (by decide) (by simp only [List.length_cons, List.length_nil]; omega) c1.1 c1.2 k0 k1 (by omega) (by omega) _ (l0_bad _ _ _ _ _ _ (by decide) (by decide) (by simp only [List.length_cons, List.length_nil]; omega) (by rw [show (1 : Int) + 1 = 2 from rfl, rd2]; omega)), bad10⟩
              · simp only [if_neg (show ¬ (lowOf b0 ≤ b1 ∧ b1 ≤ highOf b0 ∧ 128 ≤ b2 ∧ b2 ≤ 191) from fun h => c1 ⟨h.1, h.2.1⟩)]
                exact ⟨_, l0_bad _ _ _ _ _ _ (by decide) (by decide) (by simp only [List.length_cons, List.length_nil]; omega) (by rw [rd1]; omega), bad10⟩
          · simp only [if_neg h5, show ¬ ((4 : Int) = 0) by decide, if_false]
            rw [u8_and7 _ g0 (by omega), wrap_nat (by omega) (by omega)]
            match t, ht with
            | [], _ => exact ⟨_, l0_trunc _ _ _ _ _ _ (by decide) rfl, bad3⟩
            | [b1], ht =>
              obtain ⟨⟨k0, k1⟩, ht1⟩ := ht.cons
              by_cases c1 : lowOf b0 ≤ b1 ∧ b1 ≤ highOf b0
              · exact ⟨_, l0_go _ _ _ _ _ _ b1 (by rfl) (by decide) (by decide) (by decide) (by simp only [List.length_cons, List.length_nil]; omega) c1.1 c1.2 k0 k1 (by omega) (by omega) _ (l0_trunc _ _ _ _ _ _ (by decide) rfl), bad3⟩
              · exact ⟨_, l0_bad _ _ _ _ _ _ (by decide) (by decide) (by simp only [List.length_cons, List.length_nil]; omega) (by rw [rd1]; omega), bad10⟩
            | [b1, b2], ht =>
              obtain ⟨⟨k0, k1⟩, ht1⟩ := ht.cons
              obtain ⟨⟨m0, m1⟩, ht2⟩ := ht1.cons
              by_cases c1 : lowOf b0 ≤ b1 ∧ b1 ≤ highOf b0
              · by_cases c2 : 128 ≤ b2 ∧ b2 ≤ 191
                · exact ⟨_, l0_go _ _ _ _ _ _ b1 (by rfl) (by decide) (by decide) (by decide) (by simp only [List.length_cons, List.length_nil]; omega) c1.1 c1.2 k0 k1 (by omega) (by omega) _ (l0_go _ _ _ _ _ _ b2 (by rfl) (by decide) (by decide) (by decide) (by simp only [List.length_cons, List.length_nil]; omega) c2.1 c2.2 m0 m1 (by omega) (by omega) _ (l0_trunc _ _ _ _ _ _ (by decide) rfl)), bad3⟩
                · exact ⟨_, l0_go _ _ _ _ _ _ b1 (by rfl) (by decide) (by decide) (by decide) (by simp only [List.length_cons, List.length_nil]; omega) c1.1 c1.2 k0 k1 (by omega) (by omega) _ (l0_bad _ _ _ _ _ _ (by decide) (by decide) (by simp only [List.length_cons, List.length_nil]; omega) (by rw [show (1 : Int) + 1 = 2 from rfl, rd2]; omega)), bad10⟩
              · exact ⟨_, l0_bad _ _ _ _ _ _ (by decide) (by decide) (by simp only [List.length_cons, List.length_nil]; omega) (by rw [rd1]; omega), bad10⟩
            | b1 :: b2 :: b3 :: t3, ht =>
              obtain ⟨⟨k0, k1⟩, ht1⟩ := ht.cons
              obtain ⟨⟨m0, m1⟩, ht2⟩ := ht1.cons
              obtain ⟨⟨n0, n1⟩, ht3⟩ := ht2.cons
              by_cases c1 : lowOf b0 ≤ b1 ∧ b1 ≤ highOf b0
              · have hb1 : 128 ≤ b1 ∧ b1 ≤ 191 := by
                  have := c1.1; have := c1.2; unfold lowOf at *; unfold highOf at *; split at * <;> split at * <;> omega
                by_cases c2 : 128 ≤ b2 ∧ b2 ≤ 191
                · by_cases c3 : 128 ≤ b3 ∧ b3 ≤ 191
                  · simp only [if_pos (show lowOf b0 ≤ b1 ∧ b1 ≤ highOf b0 ∧ 128 ≤ b2 ∧ b2 ≤ 191 ∧ 128 ≤ b3 ∧ b3 ≤ 191 from ⟨c1.1, c1.2, c2.1, c2.2, c3⟩)]
                    refine ⟨_, l0_go _ _ _ _ _ _ b1 (by rfl) (by decide) (by decide) (by decide) (by simp only [List.length_cons, List.length_nil]; omega) c1.1 c1.2 k0 k1 (by omega) (by omega) _ (l0_go _ _ _ _ _ _ b2 (by rfl) (by decide) (by decide) (by decide) (by simp only [List.length_cons, List.length_nil]; omega) c2.1 c2.2 m0 m1 (by omega) (by omega) _ (l0_go _ _ _ _ _ _ b3 (by rfl) (by decide) (by decide) (by decide) (by simp only [List.length_cons, List.length_nil]; omega) c3.1 c3.2 n0 n1 (by omega) (by omega) _ (l0_end _ 4 _ _ _))), ?_⟩
                    show (_, _, _) = (_, _, _)
                    rw [show ((b0 % 8 * 64 + b1 % 64) * 64 + b2 % 64) * 64 + b3 % 64 = (b0 - 240) * 262144 + (b1 - 128) * 4096 + (b2 - 128) * 64 + (b3 - 128) by omega]
                    rfl
                  · simp only [if_neg (show ¬ (lowOf b0 ≤ b1 ∧ b1 ≤ highOf b0 ∧ 128 ≤ b2 ∧ b2 ≤ 191 ∧ 128 ≤ b3 ∧ b3 ≤ 191) from fun h => c3 h.2.2.2.2)]
                    exact ⟨_, l0_go _ _ _ _ _ _ b1 (by rfl) (by decide) (by decide) (by decide) (by simp only [List.length_cons, List.length_nil]; omega) c1.1 c1.2 k0 k1 (by omega) (by omega) _ (l0_go _ _ _ _ _ _ b2 (by rfl) (by decide) (by decide) (by decide) (by simp only [List.length_cons, List.length_nil]; omega) c2.1 c2.2 m0 m1 (by omega) (by omega) _ (l0_bad _ _ _ _ _ _ (by decide) (by decide) (by simp only [List.length_cons, List.length_nil]; omega) (by rw [show (1 : Int) + 1 + 1 = 3 from rfl, rd3]; omega))), bad10⟩
                · simp only [if_neg (show ¬ (lowOf b0 ≤ b1 ∧ b1 ≤ highOf b0 ∧ 128 ≤ b2 ∧ b2 ≤ 191 ∧ 128 ≤ b3 ∧ b3 ≤ 191) from fun h => c2 ⟨h.2.2.1, h.2.2.2.1⟩)]
                  exact ⟨_, l0_go _ _ _ _ _ _ b1 (by rfl) (by decide) (by decide) (by decide) (by simp only [List.length_cons, List.length_nil]; omega) c1.1 c1.2 k0 k1 (by omega) (by omega) _ (l0_bad _ _ _ _ _ _ (by decide) (by decide) (by simp only [List.length_cons, List.length_nil]; omega) (by rw [show (1 : Int) + 1 = 2 from rfl, rd2]; omega)), bad10⟩
              · simp only [if_neg (show ¬ (lowOf b0 ≤ b1 ∧ b1 ≤ highOf b0 ∧ 128 ≤ b2 ∧ b2 ≤ 191 ∧ 128 ≤ b3 ∧ b3 ≤ 191) from fun h => c1 ⟨h.1, h.2.1⟩)]
                exact ⟨_, l0_bad _ _ _ _ _ _ (by decide) (by decide) (by simp only [List.length_cons, List.length_nil]; omega) (by rw [rd1]; omega), bad10⟩
theorem drop_cons {l : List Int} {i : Nat} (h : i < l.length) : ∃ b0 t, l.drop i = b0 :: t := by
  rw [List.drop_eq_getElem_cons h]
  exact ⟨_, _, rfl⟩
theorem runes_dec (l : List Int) (hb : Bytes l) (i : Nat) (hi : i < l.length) : ∃ r, Ev (fun k => runes_Decode.f k l i) r ∧ DecIs (dec (l.drop i)) r := by
  obtain ⟨b0, t, hd⟩ := drop_cons hi
  have hb2 : Bytes (b0 :: t) := hd ▸ hb.drop i
  obtain ⟨r, h1, h2⟩ := runes_tail b0 t hb2
  rw [hd]
  refine ⟨r, ?_, h2⟩
  unfold runes_Decode.f
  simp only [if_neg (show ¬ ((i : Int) < 0) by omega), show decide ((i : Int) ≥ (l.length : Int)) = false from decide_eq_false (by omega)]
  refine Ev.step (f := fun k => (runes_form.f k b0).bind fun bt103 => (if bt103.1 = 0 then (some (0, 0, 10)) else (runes_Decode.l0 k (wrap64 (Go.bits .and .u8 b0 bt103.2.1)) bt103.1 (b0 :: t) bt103.2.2.1 bt103.2.2.2 1))) (fun k => ?_) (Ev.bind (form_ev b0) h1)
  simp only [runes_Decode.j0, Bool.false_eq_true, if_false]
  rw [if_pos (by omega), if_pos (by omega)]
  simp only [Int.toNat_natCast, hd, rd0, List.length_cons]
  rw [if_pos (by omega)]
end Go.Proofs.YtjioglaobabmmaaDoor.Pure
/- The document's UTF-8: Encode, Decode, Check, in plain words. -/
namespace Go.Proofs.YtjioglaobabmmaaDoor.Pure
open Go.RowKit Go.Proofs.YtjioglaobabmmaaDoor.P Go.Proofs.YtjioglaobabmmaaDoorW.PrintWords
set_option linter.unusedVariables false
set_option linter.unusedSimpArgs false

def isChar (c : Int) : Prop := 0 ≤ c ∧ c ≤ 1114111 ∧ ¬ (55296 ≤ c ∧ c ≤ 57343)
instance (c : Int) : Decidable (isChar c) := by unfold isChar; infer_instance
def bytesOfChar (c : Int) : List Int :=
  if c < 128 then [c] else if c < 2048 then [192 + c / 64, 128 + c % 64] else if c < 65536 then [224 + c / 4096, 128 + c / 64 % 64, 128 + c % 64]
  else [240 + c / 262144, 128 + c / 4096 % 64, 128 + c / 64 % 64, 128 + c % 64]
def encOf (c : Int) : List Int × Int := if isChar c then (bytesOfChar c, 0) else ([], 10)
theorem isChar_iff (c : Int) : isChar c ↔ (0 ≤ c ∧ c ≤ 1114111 ∧ ¬ (55296 ≤ c ∧ c ≤ 57343)) := Iff.rfl
theorem is_is (c : Int) : colophonref01_Is.f c = some (decide (isChar c)) := by
  unfold colophonref01_Is.f
  by_cases hc : isChar c
  · obtain ⟨h0, h1, h2⟩ := id hc
    rw [decide_eq_true hc, if_pos h0, if_pos h1]
    by_cases h3 : c ≥ 55296
    · rw [if_pos h3, decide_eq_false (by omega)]; rfl
    · rw [if_neg h3]; rfl
  · rw [decide_eq_false hc]
    rw [isChar_iff] at hc
    by_cases h1 : c ≥ 0
    · rw [if_pos h1]
      by_cases h2 : c ≤ 1114111
      · rw [if_pos h2, if_pos (by omega), decide_eq_true (by omega)]; rfl
      · rw [if_neg h2]
    · rw [if_neg h1]
theorem enc_is (c : Int) : colophonref01_Encode.f c = some (encOf c) := by
  unfold colophonref01_Encode.f encOf
  rw [is_is, Option.bind_some]
  by_cases h : isChar c
  · simp only [h, decide_true, if_true]
    obtain ⟨h0, h1, h2⟩ := h
    unfold bytesOfChar
    have d1 : Int.tdiv c 64 = c / 64 := Int.tdiv_eq_ediv_of_nonneg h0
    have d2 : Int.tdiv c 4096 = c / 4096 := Int.tdiv_eq_ediv_of_nonneg h0
    have d3 : Int.tdiv c 262144 = c / 262144 := Int.tdiv_eq_ediv_of_nonneg h0
    have w1 : wrap64 (c / 64) = c / 64 := wrap_nat (by omega) (by omega)
    have w2 : wrap64 (c / 4096) = c / 4096 := wrap_nat (by omega) (by omega)
    have w3 : wrap64 (c / 262144) = c / 262144 := wrap_nat (by omega) (by omega)
    have m0 : Int.tmod c 64 = c % 64 := Int.tmod_eq_emod_of_nonneg h0
    have m1 : Int.tmod (c / 64) 64 = c / 64 % 64 := Int.tmod_eq_emod_of_nonneg (by omega)
    have m2 : Int.tmod (c / 4096) 64 = c / 4096 % 64 := Int.tmod_eq_emod_of_nonneg (by omega)
    rw [d1, d2, d3, w1, w2, w3, m0, m1, m2]
    by_cases a1 : c < 128
    · simp only [if_pos a1]
      rw [show c % 256 = c by omega]
    · simp only [if_neg a1]
      by_cases a2 : c < 2048
      · simp only [if_pos a2]
        rw [wrap_nat (i := 192 + c / 64) (by omega) (by omega), wrap_nat (i := 128 + c % 64) (by omega) (by omega), show (192 + c / 64) % 256 = 192 + c / 64 by omega, show (128 + c % 64) % 256 = 128 + c % 64 by omega]
      · simp only [if_neg a2]
        by_cases a3 : c < 65536
        · simp only [if_pos a3]
          rw [wrap_nat (i := 224 + c / 4096) (by omega) (by omega), wrap_nat (i := 128 + c / 64 % 64) (by omega) (by omega), wrap_nat (i := 128 + c % 64) (by omega) (by omega), show (224 + c / 4096) % 256 = 224 + c / 4096 by omega, show (128 + c / 64 % 64) % 256 = 128 + c / 64 % 64 by omega, show (128 + c % 64) % 256 = 128 + c % 64 by omega]
        · simp only [if_neg a3]
          rw [wrap_nat (i := 240 + c / 262144) (by omega) (by omega), wrap_nat (i := 128 + c / 4096 % 64) (by omega) (by omega), wrap_nat (i := 128 + c / 64 % 64) (by omega) (by omega), wrap_nat (i := 128 + c % 64) (by omega) (by omega), show (240 + c / 262144) % 256 = 240 + c / 262144 by omega, show (128 + c / 4096 % 64) % 256 = 128 + c / 4096 % 64 by omega, show (128 + c / 64 % 64) % 256 = 128 + c / 64 % 64 by omega, show (128 + c % 64) % 256 = 128 + c % 64 by omega]
  · simp only [h, decide_false, Bool.false_eq_true, if_false]
theorem encOf_len (c : Int) : (encOf c).1.length ≤ 4 := by
  unfold encOf bytesOfChar
  repeat' split
  all_goals simp

theorem rd_getElem {l : List Int} {i : Nat} (h : i < l.length) : rd l (i : Int) = l[i] := by simp [rd, List.getD, h]
theorem eqb_loop (a b : List Int) (hl : a.length = b.length) (hm : a.length < 4611686018427387904) (d : Nat) : ∀ i : Nat, i + d = a.length → Ev (fun k => colophonref00_EqBytes.l0 k a b i) (decide (a.drop i = b.drop i)) := by
  induction d with
  | zero =>
    intro i h
    refine Ev.step (f := fun _ => some _) (fun k => ?_) (Ev.now _)
    simp only [colophonref00_EqBytes.l0]
    rw [if_neg (by omega), List.drop_eq_nil_of_le (by omega), List.drop_eq_nil_of_le (by omega)]
    simp
  | succ d ih =>
    intro i h
    have h1 : i < a.length := by omega
    have h2 : i < b.length := by omega
    by_cases he : rd a i = rd b i
    · refine Ev.step (f := fun k => colophonref00_EqBytes.l0 k a b ((i + 1 : Nat) : Int)) (fun k => ?_) ?_
      · simp only [colophonref00_EqBytes.l0]
        rw [if_pos (by omega), if_pos (by omega), if_pos (by omega), if_pos he, wrap_nat (by omega) (by omega)]
        rfl
      · have := ih (i + 1) (by omega)
        rw [rd_getElem h1, rd_getElem h2] at he
        have hd : (a.drop i = b.drop i) ↔ (a.drop (i + 1) = b.drop (i + 1)) := by
          rw [List.drop_eq_getElem_cons h1, List.drop_eq_getElem_cons h2, he]
          exact ⟨fun h => (List.cons.inj h).2, fun h => by rw [h]⟩
        rw [decide_eq_decide.mpr hd]
        exact this
    · refine Ev.step (f := fun _ => some false) (fun k => ?_) ?_
      · simp only [colophonref00_EqBytes.l0]
        rw [if_pos (by omega), if_pos (by omega), if_pos (by omega), if_neg he]
      · rw [rd_getElem h1, rd_getElem h2] at he
        have hd : ¬ (a.drop i = b.drop i) := by
          rw [List.drop_eq_getElem_cons h1, List.drop_eq_getElem_cons h2]
          exact fun h => he (List.cons.inj h).1
        rw [decide_eq_false hd]
        exact Ev.now false
theorem eqb_ev (a b : List Int) (hm : a.length < 4611686018427387904) : Ev (fun k => colophonref00_EqBytes.f k a b) (decide (a = b)) := by
  unfold colophonref00_EqBytes.f
  by_cases h : a.length = b.length
  · simp only [if_pos (show (a.length : Int) = (b.length : Int) by omega)]
    have := eqb_loop a b h hm a.length 0 (by omega)
    simpa using this
  · simp only [if_neg (show ¬ ((a.length : Int) = (b.length : Int)) by omega)]
    have : decide (a = b) = false := decide_eq_false (fun e => h (by rw [e]))
    rw [this]
    exact Ev.now _
theorem jl_end (x : List Int) (n c : Int) : Ev (fun k => colophonref01_joined.l0 k x n c n) c := by
  refine Ev.step (f := fun _ => some c) (fun k => ?_) (Ev.now _)
  simp only [colophonref01_joined.l0]
  rw [if_neg (by omega)]
theorem jl_go (x : List Int) (n c i b : Int) (hrd : rd x i = b) (h0 : 0 ≤ i) (h : i < n) (hn : n ≤ 4) (hl : i < (x.length : Int)) (hb0 : 0 ≤ b) (hb1 : b ≤ 255) (hc0 : 0 ≤ c) (hc1 : c < 4294967296) (r : Int)
    (k : Ev (fun k => colophonref01_joined.l0 k x n (c * 64 + b % 64) (i + 1)) r) : Ev (fun k => colophonref01_joined.l0 k x n c i) r := by
  subst hrd
  refine Ev.step (f := fun k => colophonref01_joined.l0 k x n (c * 64 + rd x i % 64) (i + 1)) (fun k => ?_) k
  simp only [colophonref01_joined.l0]
  rw [if_pos h, if_pos h0, if_pos hl, wrap_nat (i := rd x i) (by omega) (by omega), Int.tmod_eq_emod_of_nonneg hb0, wrap_nat (i := c * 64) (by omega) (by omega), wrap_nat (i := c * 64 + rd x i % 64) (by omega) (by omega), wrap_nat (i := i + 1) (by omega) (by omega)]
/-- What counts of the first byte of a form of n bytes. -/
def headOf (n b0 : Int) : Int := if n = 2 then b0 % 32 else if n = 3 then b0 % 16 else if n = 4 then b0 % 8 else b0
theorem jf_head (b0 : Int) (t : List Int) (n : Int) (h0 : 0 ≤ b0) (h1 : b0 ≤ 255) (r : Int) (k : Ev (fun k => colophonref01_joined.l0 k (b0 :: t) n (headOf n b0) 1) r) : Ev (fun k => colophonref01_joined.f k (b0 :: t) n) r := by
  unfold colophonref01_joined.f headOf at *
  have w : wrap64 b0 = b0 := wrap_nat (by omega) (by omega)
  simp only [rd0, List.length_cons, if_pos (show (0 : Int) < ((t.length + 1 : Nat) : Int) by omega), w]
  by_cases a2 : n = 2
  · simp only [if_pos a2] at *
    rw [Int.tmod_eq_emod_of_nonneg h0]
    refine Ev.step (f := fun k => colophonref01_joined.j1 k (b0 :: t) n (b0 % 32)) (fun k => ?_) ?_
    · simp only [colophonref01_joined.j0]; rw [if_neg (by omega)]
    · refine Ev.step (f := fun k => colophonref01_joined.j2 k (b0 :: t) n (b0 % 32)) (fun k => ?_) ?_
      · simp only [colophonref01_joined.j1]; rw [if_neg (by omega)]
      · exact Ev.step (f := fun k => colophonref01_joined.l0 k (b0 :: t) n (b0 % 32) 1) (fun k => rfl) k
  · simp only [if_neg a2] at *
    by_cases a3 : n = 3
    · simp only [if_pos a3] at *
      refine Ev.step (f := fun k => colophonref01_joined.j1 k (b0 :: t) n (b0 % 16)) (fun k => ?_) ?_
      · simp only [colophonref01_joined.j0]; rw [if_pos a3, Int.tmod_eq_emod_of_nonneg h0]
      · refine Ev.step (f := fun k => colophonref01_joined.j2 k (b0 :: t) n (b0 % 16)) (fun k => ?_) ?_
        · simp only [colophonref01_joined.j1]; rw [if_neg (by omega)]
        · exact Ev.step (f := fun k => colophonref01_joined.l0 k (b0 :: t) n (b0 % 16) 1) (fun k => rfl) k
    · simp only [if_neg a3] at *
      refine Ev.step (f := fun k => colophonref01_joined.j1 k (b0 :: t) n b0) (fun k => ?_) ?_
      · simp only [colophonref01_joined.j0]; rw [if_neg a3]
      · by_cases a4 : n = 4
        · simp only [if_pos a4] at *
          refine Ev.step (f := fun k => colophonref01_joined.j2 k (b0 :: t) n (b0 % 8)) (fun k => ?_) ?_
          · simp only [colophonref01_joined.j1]; rw [if_pos a4, Int.tmod_eq_emod_of_nonneg h0]
          · exact Ev.step (f := fun k => colophonref01_joined.l0 k (b0 :: t) n (b0 % 8) 1) (fun k => rfl) k
        · simp only [if_neg a4] at *
          refine Ev.step (f := fun k => colophonref01_joined.j2 k (b0 :: t) n b0) (fun k => ?_) ?_
          · simp only [colophonref01_joined.j1]; rw [if_neg a4]
          · exact Ev.step (f := fun k => colophonref01_joined.l0 k (b0 :: t) n b0 1) (fun k => rfl) k
/-- One try of the document's decoder. -/
theorem ref_try (rest : List Int) (n : Int) (m : Nat) (hm : n = (m : Int)) (h1 : 1 ≤ m) (h4 : m ≤ 4) (hl : m ≤ rest.length) (c : Int) (hj : Ev (fun k => colophonref01_joined.f k rest n) c) (r : Int × Int × Int)
    (hr : if encOf c = (rest.take m, 0) then r = (c, n, 0) else Ev (fun k => colophonref01_Decode.l0 k rest (n + 1)) r) : Ev (fun k => colophonref01_Decode.l0 k rest n) r := by
  subst hm
  refine Ev.step (f := fun k => colophonref01_Decode.j2 k rest m true) (fun k => ?_) ?_
  · simp only [colophonref01_Decode.l0]
    rw [if_pos (by omega), decide_eq_true (by omega)]
  · refine Ev.step (f := fun k => (colophonref01_joined.f k rest m).bind fun t186 => ((colophonref01_Encode.f t186).bind fun bt187 => (if bt187.2 = 0 then (if 0 ≤ (m : Int) then (if (m : Int) ≤ (rest.length : Int) then ((colophonref00_EqBytes.f k bt187.1 (rest.take ((m : Int)).toNat)).bind fun t192 => (if t192 = true then (some (t186, (m : Int), 0)) else (colophonref01_Decode.l0 k rest (wrap64 ((m : Int) + 1))))) else (none)) else (none)) else (colophonref01_Decode.l0 k rest (wrap64 ((m : Int) + 1)))))) (fun k => ?_) ?_
    · simp only [colophonref01_Decode.j2, if_true]
    · refine Ev.bind hj ?_
      simp only [enc_is, Option.bind_some, Int.toNat_natCast, if_pos (show (0 : Int) ≤ (m : Int) by omega), if_pos (show (m : Int) ≤ (rest.length : Int) by omega)]
      rw [wrap_nat (by omega) (by omega)]
      by_cases he : (encOf c).2 = 0
      · simp only [if_pos he]
        refine Ev.bind (eqb_ev _ _ (by have := encOf_len c; omega)) ?_
        by_cases heq : (encOf c).1 = rest.take m
        · rw [if_pos (Prod.ext heq he)] at hr
          subst hr
          simp only [decide_eq_true heq, if_true]
          exact Ev.now _
        · rw [if_neg (fun h => heq (congrArg Prod.fst h))] at hr
          simp only [decide_eq_false heq, Bool.false_eq_true, if_false]
          exact hr
      · simp only [if_neg he]
        rw [if_neg (fun h => he (congrArg Prod.snd h))] at hr
        exact hr
/-! Totality of 'begins'. -/
theorem jl_total (x : List Int) (n : Int) (hx : n ≤ x.length) (hm : n < 9223372036854775807) (d : Nat) : ∀ (i c : Int), 0 ≤ i → i + d = n → ∃ r, Ev (fun k => colophonref01_joined.l0 k x n c i) r := by
  induction d with
  | zero =>
    intro i c h0 h
    obtain rfl : i = n := by omega
    exact ⟨_, jl_end x i c⟩
  | succ d ih =>
    intro i c h0 h
    obtain ⟨r, hr⟩ := ih (i + 1) (wrap64 ((wrap64 (c * 64)) + (Int.tmod (wrap64 (rd x i)) 64))) (by omega) (by omega)
    refine ⟨r, Ev.step (fun k => ?_) hr⟩
    simp only [colophonref01_joined.l0]
    rw [if_pos (by omega), if_pos h0, if_pos (by omega), wrap_nat (i := i + 1) (by omega) (by omega)]
theorem jf_total (x : List Int) (n : Int) (h1 : 1 ≤ n) (hx : n ≤ x.length) (hm : n < 9223372036854775807) : ∃ r, Ev (fun k => colophonref01_joined.f k x n) r := by
  unfold colophonref01_joined.f
  simp only [if_pos (show (0 : Int) < (x.length : Int) by omega)]
  have hl : ∀ c, ∃ r, Ev (fun k => colophonref01_joined.l0 k x n c 1) r := fun c => jl_total x n hx hm (n - 1).toNat 1 c (by omega) (by omega)
  have h2 : ∀ c, ∃ r, Ev (fun k => colophonref01_joined.j2 k x n c) r := fun c => by
    obtain ⟨r, hr⟩ := hl c
    exact ⟨r, Ev.step (fun k => by simp only [colophonref01_joined.j2]) hr⟩
  have h3 : ∀ c, ∃ r, Ev (fun k => colophonref01_joined.j1 k x n c) r := fun c => by
    by_cases h : n = 4
    · obtain ⟨r, hr⟩ := h2 (Int.tmod c 8)
      exact ⟨r, Ev.step (fun k => by simp only [colophonref01_joined.j1, if_pos h]) hr⟩
    · obtain ⟨r, hr⟩ := h2 c
      exact ⟨r, Ev.step (fun k => by simp only [colophonref01_joined.j1, if_neg h]) hr⟩
  have h4 : ∀ c, ∃ r, Ev (fun k => colophonref01_joined.j0 k x n c) r := fun c => by
    by_cases h : n = 3
    · obtain ⟨r, hr⟩ := h3 (Int.tmod c 16)
      exact ⟨r, Ev.step (fun k => by simp only [colophonref01_joined.j0, if_pos h]) hr⟩
    · obtain ⟨r, hr⟩ := h3 c
      exact ⟨r, Ev.step (fun k => by simp only [colophonref01_joined.j0, if_neg h]) hr⟩
  by_cases h : n = 2
  · simp only [if_pos h]; exact h4 _
  · simp only [if_neg h]; exact h4 _
theorem l2_total (x : List Int) (hx : x.length ≤ 3) (n lo hi : Int) (h0 : 0 ≤ n) (hn : n ≤ 4) (hxn : (x.length : Int) ≤ n) (hnext : ∃ r, Ev (fun k => colophonref01_begins.l0 k x (n + 1)) r) (d : Nat) : ∀ i : Int, 0 ≤ i → i + d = 4 → ∃ r, Ev (fun k => colophonref01_begins.l2 k x n lo hi i) r := by
  induction d with
  | zero =>
    intro i h0 h
    obtain ⟨r, hr⟩ := hnext
    refine ⟨r, Ev.step (fun k => ?_) hr⟩
    simp only [colophonref01_begins.l2]
    rw [if_neg (by omega), wrap_nat (by omega) (by omega)]
  | succ d ih =>
    intro i hi0 h
    obtain ⟨r, hr⟩ := ih (i + 1) (by omega) (by omega)
    have hw : wrap64 (i + 1) = i + 1 := wrap_nat (by omega) (by omega)
    have hl5 : n < ((([0, 0, 128, 2048, 65536] : List Int)).length : Int) := by simp; omega
    generalize hc : rd (([mx lo (rd (([0, 0, 128, 2048, 65536] : List Int)) n), 57344, hi, lo] : List Int)) i = c
    have hl4 : i < ((([mx lo (rd (([0, 0, 128, 2048, 65536] : List Int)) n), 57344, hi, lo] : List Int)).length : Int) := by simp; omega
    have step : ∀ k, colophonref01_begins.l2 (k + 1) x n lo hi i = (if (encOf c).2 = 0 then (if c ≥ lo then (if c ≤ hi then (if ((encOf c).1.length : Int) = n then (if 0 ≤ (x.length : Int) then (if (x.length : Int) ≤ ((encOf c).1.length : Int) then ((colophonref00_EqBytes.f k ((encOf c).1.take ((x.length : Int)).toNat) x).bind fun t183 => (if t183 = true then (some true) else (colophonref01_begins.l2 k x n lo hi (wrap64 (i + 1))))) else (none)) else (none)) else (colophonref01_begins.l2 k x n lo hi (wrap64 (i + 1)))) else (colophonref01_begins.l2 k x n lo hi (wrap64 (i + 1)))) else (colophonref01_begins.l2 k x n lo hi (wrap64 (i + 1)))) else (colophonref01_begins.l2 k x n lo hi (wrap64 (i + 1)))) := by
      intro k
      simp only [colophonref01_begins.l2]
      rw [if_pos (by omega)]
      simp only [Option.bind_some]
      rw [if_pos h0, if_pos hl5, if_pos hi0, if_pos hl4, hc, enc_is, Option.bind_some]
    rw [hw] at step
    by_cases g1 : (encOf c).2 = 0
    · by_cases g2 : c ≥ lo
      · by_cases g3 : c ≤ hi
        · by_cases g4 : ((encOf c).1.length : Int) = n
          · by_cases g5 : (encOf c).1.take x.length = x
            · refine ⟨true, Ev.step (f := fun k => (colophonref00_EqBytes.f k ((encOf c).1.take x.length) x).bind fun t183 => (if t183 = true then (some true) else (colophonref01_begins.l2 k x n lo hi (i + 1)))) (fun k => ?_) (Ev.bind (eqb_ev _ _ (by simp; omega)) ?_)⟩
              · rw [step, if_pos g1, if_pos g2, if_pos g3, if_pos g4, if_pos (by omega), if_pos (by omega), Int.toNat_natCast]
              · simp only [decide_eq_true g5, if_true]; exact Ev.now _
            · refine ⟨r, Ev.step (f := fun k => (colophonref00_EqBytes.f k ((encOf c).1.take x.length) x).bind fun t183 => (if t183 = true then (some true) else (colophonref01_begins.l2 k x n lo hi (i + 1)))) (fun k => ?_) (Ev.bind (eqb_ev _ _ (by simp; omega)) ?_)⟩
              · rw [step, if_pos g1, if_pos g2, if_pos g3, if_pos g4, if_pos (by omega), if_pos (by omega), Int.toNat_natCast]
              · simp only [decide_eq_false g5, Bool.false_eq_true, if_false]; exact hr
          · exact ⟨r, Ev.step (fun k => by rw [step, if_pos g1, if_pos g2, if_pos g3, if_neg g4]) hr⟩
        · exact ⟨r, Ev.step (fun k => by rw [step, if_pos g1, if_pos g2, if_neg g3]) hr⟩
      · exact ⟨r, Ev.step (fun k => by rw [step, if_pos g1, if_neg g2]) hr⟩
    · exact ⟨r, Ev.step (fun k => by rw [step, if_neg g1]) hr⟩
theorem l1_total (x : List Int) (hx : x.length ≤ 3) (n : Int) (h1 : 1 ≤ n) (hn : n ≤ 4) (hxn : (x.length : Int) ≤ n) (hnext : ∃ r, Ev (fun k => colophonref01_begins.l0 k x (n + 1)) r) (d : Nat) : ∀ a b : List Int, a.length = b.length → (a.length : Int) + d = n → ∃ r, Ev (fun k => colophonref01_begins.l1 k x n a b) r := by
  induction d with
  | zero =>
    intro a b hab h
    obtain ⟨ra, hra⟩ := jf_total a n h1 (by omega) (by omega)
    obtain ⟨rb, hrb⟩ := jf_total b n h1 (by omega) (by omega)
    obtain ⟨r, hr⟩ := l2_total x hx n ra rb (by omega) hn hxn hnext 4 0 (by omega) (by omega)
    refine ⟨r, Ev.step (f := fun k => (colophonref01_joined.f k a n).bind fun t165 => ((colophonref01_joined.f k b n).bind fun t166 => (colophonref01_begins.l2 k x n t165 t166 0))) (fun k => ?_) (Ev.bind hra (Ev.bind hrb hr))⟩
    simp only [colophonref01_begins.l1]
    rw [if_neg (by omega)]
  | succ d ih =>
    intro a b hab h
    obtain ⟨r, hr⟩ := ih (a ++ [128]) (b ++ [191]) (by simp [hab]) (by simp; omega)
    refine ⟨r, Ev.step (fun k => ?_) hr⟩
    simp only [colophonref01_begins.l1]
    rw [if_pos (by omega), if_pos (by omega), if_pos (by omega)]
theorem begins_total (x : List Int) (hx : x.length ≤ 3) (d : Nat) : ∀ n : Int, 1 ≤ n → (x.length : Int) ≤ n → n + d = 5 → ∃ r, Ev (fun k => colophonref01_begins.l0 k x n) r := by
  induction d with
  | zero =>
    intro n h1 hxn h
    refine ⟨false, Ev.step (f := fun _ => some false) (fun k => ?_) (Ev.now _)⟩
    simp only [colophonref01_begins.l0]
    rw [if_neg (by omega)]
  | succ d ih =>
    intro n h1 hxn h
    obtain ⟨r, hr⟩ := l1_total x hx n h1 (by omega) hxn (ih (n + 1) (by omega) (by omega) (by omega)) (n - x.length).toNat x x rfl (by omega)
    refine ⟨r, Ev.step (fun k => ?_) hr⟩
    simp only [colophonref01_begins.l0]
    rw [if_pos (by omega)]
    simp only [Option.bind_some, List.nil_append, List.length_nil]
    rw [if_pos (by omega), if_pos (by omega)]
/-- No size fits any more: some fault. -/
theorem ref_stop (rest : List Int) (h1 : 1 ≤ rest.length) (n : Int) (hn : (n = 5 ∧ 4 ≤ rest.length) ∨ (n = rest.length + 1 ∧ rest.length ≤ 3)) : ∃ r, Ev (fun k => colophonref01_Decode.l0 k rest n) r ∧ DecIs none r := by
  have h2 : ∃ r, Ev (fun k => colophonref01_Decode.j2 k rest n false) r ∧ DecIs none r := by
    by_cases h4 : (rest.length : Int) < 4
    · obtain ⟨b, hb⟩ := begins_total rest (by omega) (4 - rest.length) ((rest.length : Int) + 1) (by omega) (by omega) (by omega)
      have hbf : Ev (fun k => colophonref01_begins.f k rest) b := by
        unfold colophonref01_begins.f
        rw [wrap_nat (by omega) (by omega)]
        exact hb
      refine ⟨if b = true then (0, 0, 3) else (0, 0, 10), Ev.step (f := fun k => (colophonref01_begins.f k rest).bind fun t185 => (if t185 = true then (some (0, 0, 3)) else (some (0, 0, 10)))) (fun k => ?_) (Ev.bind hbf ?_), ?_⟩
      · simp only [colophonref01_Decode.j2, Bool.false_eq_true, if_false]
        rw [if_pos h4]
      · cases b
        · exact Ev.now _
        · exact Ev.now _
      · cases b
        · exact bad10
        · exact bad3
    · refine ⟨(0, 0, 10), Ev.step (f := fun _ => some (0, 0, 10)) (fun k => ?_) (Ev.now _), bad10⟩
      simp only [colophonref01_Decode.j2, Bool.false_eq_true, if_false]
      rw [if_neg h4]
  obtain ⟨r, hr, hd⟩ := h2
  refine ⟨r, Ev.step (fun k => ?_) hr, hd⟩
  simp only [colophonref01_Decode.l0]
  by_cases h : n ≤ 4
  · rw [if_pos h, decide_eq_false (by omega)]
  · rw [if_neg h]
theorem m1 (b0 : Int) (t : List Int) (h0 : 0 ≤ b0) (h1 : b0 ≤ 255) : encOf b0 = ((b0 :: t).take 1, 0) ↔ b0 < 128 := by
  unfold encOf bytesOfChar
  rw [if_pos (show isChar _ from ⟨by omega, by omega, by omega⟩)]
  by_cases h : b0 < 128
  · simp [h]
  · rw [if_neg h, if_pos (by omega)]
    simp [h]
theorem m2 (b0 b1 : Int) (t : List Int) (h0 : 0 ≤ b0) (h1 : b0 ≤ 255) (k0 : 0 ≤ b1) (k1 : b1 ≤ 255) : encOf (b0 % 32 * 64 + b1 % 64) = ((b0 :: b1 :: t).take 2, 0) ↔ (194 ≤ b0 ∧ b0 ≤ 223 ∧ 128 ≤ b1 ∧ b1 ≤ 191) := by
  unfold encOf bytesOfChar
  rw [if_pos (show isChar _ from ⟨by omega, by omega, by omega⟩)]
  by_cases h : b0 % 32 * 64 + b1 % 64 < 128
  · rw [if_pos h]
    simp only [List.take_succ_cons, List.take_zero, Prod.mk.injEq, List.cons.injEq, and_true, reduceCtorEq, and_false, false_iff]
    omega
  · rw [if_neg h, if_pos (by omega)]
    simp only [List.take_succ_cons, List.take_zero, Prod.mk.injEq, List.cons.injEq, and_true]
    omega
theorem m3 (b0 b1 b2 : Int) (t : List Int) (h0 : 0 ≤ b0) (h1 : b0 ≤ 255) (k0 : 0 ≤ b1) (k1 : b1 ≤ 255) (l0 : 0 ≤ b2) (l1 : b2 ≤ 255) : encOf ((b0 % 16 * 64 + b1 % 64) * 64 + b2 % 64) = ((b0 :: b1 :: b2 :: t).take 3, 0) ↔ (224 ≤ b0 ∧ b0 ≤ 239 ∧ lowOf b0 ≤ b1 ∧ b1 ≤ highOf b0 ∧ 128 ≤ b2 ∧ b2 ≤ 191) := by
  have hlo : b0 ≤ 239 → lowOf b0 = if b0 = 224 then 160 else 128 := by intro h; unfold lowOf; split; rfl; rw [if_neg (by omega)]
  have hhi : b0 ≤ 239 → highOf b0 = if b0 = 237 then 159 else 191 := by intro h; unfold highOf; split; rfl; rw [if_neg (by omega)]
  generalize hl : lowOf b0 = lo at *
  generalize hh : highOf b0 = hi at *
  unfold encOf bytesOfChar
  split
  · rename_i hy
    rw [isChar_iff] at hy
    by_cases h : (b0 % 16 * 64 + b1 % 64) * 64 + b2 % 64 < 128
    · rw [if_pos h]
      simp only [List.take_succ_cons, List.take_zero, Prod.mk.injEq, List.cons.injEq, and_true, reduceCtorEq, and_false, false_iff]
      intro ⟨a1, a2, a3, a4, a5, a6⟩
      have := hlo a2; have := hhi a2
      split at * <;> split at * <;> omega
    · rw [if_neg h]
      by_cases h' : (b0 % 16 * 64 + b1 % 64) * 64 + b2 % 64 < 2048
      · rw [if_pos h']
        simp only [List.take_succ_cons, List.take_zero, Prod.mk.injEq, List.cons.injEq, and_true, reduceCtorEq, and_false, false_iff]
        intro ⟨a1, a2, a3, a4, a5, a6⟩
        have := hlo a2; have := hhi a2
        split at * <;> split at * <;> omega
      · rw [if_neg h', if_pos (by omega)]
        simp only [List.take_succ_cons, List.take_zero, Prod.mk.injEq, List.cons.injEq, and_true]
        constructor
        · intro ⟨e0, e1, e2⟩
          have := hlo (by omega); have := hhi (by omega)
          refine ⟨by omega, by omega, ?_, ?_, by omega, by omega⟩
          · split at * <;> split at * <;> omega
          · split at * <;> split at * <;> omega
        · intro ⟨a1, a2, a3, a4, a5, a6⟩
          have := hlo a2; have := hhi a2
          have : 128 ≤ b1 ∧ b1 ≤ 191 := by split at * <;> split at * <;> omega
          omega
  · rename_i hn
    rw [isChar_iff] at hn
    simp only [Prod.mk.injEq, List.take_succ_cons, reduceCtorEq, and_false, false_and, false_iff]
    intro ⟨a1, a2, a3, a4, a5, a6⟩
    have := hlo a2; have := hhi a2
    split at * <;> split at * <;> omega
theorem m4 (b0 b1 b2 b3 : Int) (t : List Int) (h0 : 0 ≤ b0) (h1 : b0 ≤ 255) (k0 : 0 ≤ b1) (k1 : b1 ≤ 255) (l0 : 0 ≤ b2) (l1 : b2 ≤ 255) (q0 : 0 ≤ b3) (q1 : b3 ≤ 255) : encOf (((b0 % 8 * 64 + b1 % 64) * 64 + b2 % 64) * 64 + b3 % 64) = ((b0 :: b1 :: b2 :: b3 :: t).take 4, 0) ↔ (240 ≤ b0 ∧ b0 ≤ 244 ∧ lowOf b0 ≤ b1 ∧ b1 ≤ highOf b0 ∧ 128 ≤ b2 ∧ b2 ≤ 191 ∧ 128 ≤ b3 ∧ b3 ≤ 191) := by
  have hlo : 240 ≤ b0 → lowOf b0 = if b0 = 240 then 144 else 128 := by intro h; unfold lowOf; rw [if_neg (by omega)]
  have hhi : 240 ≤ b0 → highOf b0 = if b0 = 244 then 143 else 191 := by intro h; unfold highOf; rw [if_neg (by omega)]
  generalize hl : lowOf b0 = lo at *
  generalize hh : highOf b0 = hi at *
  generalize hc : ((b0 % 8 * 64 + b1 % 64) * 64 + b2 % 64) * 64 + b3 % 64 = c
  unfold encOf bytesOfChar
  split
  · rename_i hy
    rw [isChar_iff] at hy
    by_cases h : c < 128
    · rw [if_pos h]
      simp only [List.take_succ_cons, List.take_zero, Prod.mk.injEq, List.cons.injEq, and_true, reduceCtorEq, and_false, false_iff]
      intro ⟨a1, a2, a3, a4, a5, a6, a7, a8⟩
      have := hlo a1; have := hhi a1
      split at * <;> split at * <;> omega
    · rw [if_neg h]
      by_cases h' : c < 2048
      · rw [if_pos h']
        simp only [List.take_succ_cons, List.take_zero, Prod.mk.injEq, List.cons.injEq, and_true, reduceCtorEq, and_false, false_iff]
        intro ⟨a1, a2, a3, a4, a5, a6, a7, a8⟩
        have := hlo a1; have := hhi a1
        split at * <;> split at * <;> omega
      · rw [if_neg h']
        by_cases h'' : c < 65536
        · rw [if_pos h'']
          simp only [List.take_succ_cons, List.take_zero, Prod.mk.injEq, List.cons.injEq, and_true, reduceCtorEq, and_false, false_iff]
          intro ⟨a1, a2, a3, a4, a5, a6, a7, a8⟩
          have := hlo a1; have := hhi a1
          split at * <;> split at * <;> omega
        · rw [if_neg h'']
          simp only [List.take_succ_cons, List.take_zero, Prod.mk.injEq, List.cons.injEq, and_true]
          constructor
          · intro ⟨e0, e1, e2, e3⟩
            have := hlo (by omega); have := hhi (by omega)
            refine ⟨by omega, by omega, ?_, ?_, by omega, by omega, by omega, by omega⟩
            · split at * <;> split at * <;> omega
            · split at * <;> split at * <;> omega
          · intro ⟨a1, a2, a3, a4, a5, a6, a7, a8⟩
            have := hlo a1; have := hhi a1
            have : 128 ≤ b1 ∧ b1 ≤ 191 := by split at * <;> split at * <;> omega
            omega
  · rename_i hn
    rw [isChar_iff] at hn
    simp only [Prod.mk.injEq, List.take_succ_cons, reduceCtorEq, and_false, false_and, false_iff]
    intro ⟨a1, a2, a3, a4, a5, a6, a7, a8⟩
    have := hlo a1; have := hhi a1
    split at * <;> split at * <;> omega
end Go.Proofs.YtjioglaobabmmaaDoor.Pure
/- The document's decoder says what stands at a place; so do its Check and the program's. -/
namespace Go.Proofs.YtjioglaobabmmaaDoor.Pure
open Go.RowKit Go.Proofs.YtjioglaobabmmaaDoor.P Go.Proofs.YtjioglaobabmmaaDoorW.PrintWords
set_option linter.unusedVariables false
set_option linter.unusedSimpArgs false
theorem head1 (b : Int) : headOf 1 b = b := rfl
theorem head2 (b : Int) : headOf 2 b = b % 32 := rfl
theorem head3 (b : Int) : headOf 3 b = b % 16 := rfl
theorem head4 (b : Int) : headOf 4 b = b % 8 := rfl
theorem join1 (b0 : Int) (t : List Int) (g0 : 0 ≤ b0) (g1 : b0 ≤ 255) : Ev (fun k => colophonref01_joined.f k (b0 :: t) 1) b0 :=
  jf_head b0 t 1 g0 g1 _ (jl_end _ 1 _)
theorem join2 (b0 b1 : Int) (t : List Int) (g0 : 0 ≤ b0) (g1 : b0 ≤ 255) (k0 : 0 ≤ b1) (k1 : b1 ≤ 255) : Ev (fun k => colophonref01_joined.f k (b0 :: b1 :: t) 2) (b0 % 32 * 64 + b1 % 64) :=
  jf_head b0 (b1 :: t) 2 g0 g1 _ (jl_go _ 2 _ 1 b1 rfl (by decide) (by decide) (by decide) (by simp only [List.length_cons]; omega) k0 k1 (by rw [head2]; omega) (by rw [head2]; omega) _ (jl_end _ 2 _))
theorem join3 (b0 b1 b2 : Int) (t : List Int) (g0 : 0 ≤ b0) (g1 : b0 ≤ 255) (k0 : 0 ≤ b1) (k1 : b1 ≤ 255) (m0 : 0 ≤ b2) (m1 : b2 ≤ 255) : Ev (fun k => colophonref01_joined.f k (b0 :: b1 :: b2 :: t) 3) ((b0 % 16 * 64 + b1 % 64) * 64 + b2 % 64) :=
  jf_head b0 (b1 :: b2 :: t) 3 g0 g1 _ (jl_go _ 3 _ 1 b1 rfl (by decide) (by decide) (by decide) (by simp only [List.length_cons]; omega) k0 k1 (by rw [head3]; omega) (by rw [head3]; omega) _
    (jl_go _ 3 _ 2 b2 rfl (by decide) (by decide) (by decide) (by simp only [List.length_cons]; omega) m0 m1 (by rw [head3]; omega) (by rw [head3]; omega) _ (jl_end _ 3 _)))
theorem join4 (b0 b1 b2 b3 : Int) (t : List Int) (g0 : 0 ≤ b0) (g1 : b0 ≤ 255) (k0 : 0 ≤ b1) (k1 : b1 ≤ 255) (m0 : 0 ≤ b2) (m1 : b2 ≤ 255) (n0 : 0 ≤ b3) (n1 : b3 ≤ 255) : Ev (fun k => colophonref01_joined.f k (b0 :: b1 :: b2 :: b3 :: t) 4) (((b0 % 8 * 64 + b1 % 64) * 64 + b2 % 64) * 64 + b3 % 64) :=
  jf_head b0 (b1 :: b2 :: b3 :: t) 4 g0 g1 _ (jl_go _ 4 _ 1 b1 rfl (by decide) (by decide) (by decide) (by simp only [List.length_cons]; omega) k0 k1 (by rw [head4]; omega) (by rw [head4]; omega) _
    (jl_go _ 4 _ 2 b2 rfl (by decide) (by decide) (by decide) (by simp only [List.length_cons]; omega) m0 m1 (by rw [head4]; omega) (by rw [head4]; omega) _
    (jl_go _ 4 _ 3 b3 rfl (by decide) (by decide) (by decide) (by simp only [List.length_cons]; omega) n0 n1 (by rw [head4]; omega) (by rw [head4]; omega) _ (jl_end _ 4 _))))
/-- A try that hits, or one that does not. -/
theorem hit (rest : List Int) (n : Int) (m : Nat) (hm : n = (m : Int)) (h1 : 1 ≤ m) (h4 : m ≤ 4) (hl : m ≤ rest.length) (c : Int) (hj : Ev (fun k => colophonref01_joined.f k rest n) c) (he : encOf c = (rest.take m, 0)) : Ev (fun k => colophonref01_Decode.l0 k rest n) (c, n, 0) :=
  ref_try rest n m hm h1 h4 hl c hj _ (by rw [if_pos he])
theorem miss (rest : List Int) (n : Int) (m : Nat) (hm : n = (m : Int)) (h1 : 1 ≤ m) (h4 : m ≤ 4) (hl : m ≤ rest.length) (c : Int) (hj : Ev (fun k => colophonref01_joined.f k rest n) c) (he : ¬ encOf c = (rest.take m, 0)) (r : Int × Int × Int) (k : Ev (fun k => colophonref01_Decode.l0 k rest (n + 1)) r) : Ev (fun k => colophonref01_Decode.l0 k rest n) r :=
  ref_try rest n m hm h1 h4 hl c hj _ (by rw [if_neg he]; exact k)
theorem ref_tail (b0 : Int) (t : List Int) (hb : Bytes (b0 :: t)) : ∃ r, Ev (fun k => colophonref01_Decode.l0 k (b0 :: t) 1) r ∧ DecIs (dec (b0 :: t)) r := by
  obtain ⟨⟨g0, g1⟩, ht⟩ := hb.cons
  by_cases h1 : b0 < 128
  · refine ⟨(b0, 1, 0), hit _ 1 1 rfl (by decide) (by decide) (by simp) b0 (join1 b0 t g0 g1) ((m1 b0 t g0 g1).mpr h1), ?_⟩
    simp only [dec, if_pos h1]
    rfl
  · have n1 := fun r k => miss (b0 :: t) 1 1 rfl (by decide) (by decide) (by simp) b0 (join1 b0 t g0 g1) (fun h => h1 ((m1 b0 t g0 g1).mp h)) r k
    match t, ht with
    | [], _ =>
      obtain ⟨r, hr, hd⟩ := ref_stop [b0] (by simp) 2 (.inr ⟨rfl, by simp⟩)
      refine ⟨r, n1 r hr, ?_⟩
      have : dec [b0] = none := by
        simp only [dec, if_neg h1]
        split; rfl
        split; rfl
        split; rfl
        split <;> rfl
      rw [this]; exact hd
    | b1 :: t1, ht =>
      obtain ⟨⟨k0, k1⟩, ht1⟩ := ht.cons
      by_cases c2 : 194 ≤ b0 ∧ b0 ≤ 223 ∧ 128 ≤ b1 ∧ b1 ≤ 191
      · refine ⟨_, n1 _ (hit _ 2 2 rfl (by decide) (by decide) (by simp) _ (join2 b0 b1 t1 g0 g1 k0 k1) ((m2 b0 b1 t1 g0 g1 k0 k1).mpr c2)), ?_⟩
        simp only [dec, if_neg h1, if_neg (show ¬ b0 < 194 by omega), if_neg (show ¬ b0 > 244 by omega), if_pos (show b0 < 224 by omega), if_pos (show 128 ≤ b1 ∧ b1 ≤ 191 from c2.2.2)]
        show (_, _, _) = (_, _, _)
        rw [show b0 % 32 * 64 + b1 % 64 = (b0 - 192) * 64 + (b1 - 128) by omega]
        rfl
      · have n2 := fun r k => n1 r (miss (b0 :: b1 :: t1) 2 2 rfl (by decide) (by decide) (by simp) _ (join2 b0 b1 t1 g0 g1 k0 k1) (fun h => c2 ((m2 b0 b1 t1 g0 g1 k0 k1).mp h)) r k)
        match t1, ht1 with
        | [], _ =>
          obtain ⟨r, hr, hd⟩ := ref_stop [b0, b1] (by simp) 3 (.inr ⟨rfl, by simp⟩)
          refine ⟨r, n2 r hr, ?_⟩
          have : dec [b0, b1] = none := by
            simp only [dec, if_neg h1]
            split; rfl
            split; rfl
            split
            · rw [if_neg (by omega)]
            · split <;> rfl
          rw [this]; exact hd
        | b2 :: t2, ht1 =>
          obtain ⟨⟨m0, m1'⟩, ht2⟩ := ht1.cons
          by_cases c3 : 224 ≤ b0 ∧ b0 ≤ 239 ∧ lowOf b0 ≤ b1 ∧ b1 ≤ highOf b0 ∧ 128 ≤ b2 ∧ b2 ≤ 191
          · refine ⟨_, n2 _ (hit _ 3 3 rfl (by decide) (by decide) (by simp) _ (join3 b0 b1 b2 t2 g0 g1 k0 k1 m0 m1') ((m3 b0 b1 b2 t2 g0 g1 k0 k1 m0 m1').mpr c3)), ?_⟩
            simp only [dec, if_neg h1, if_neg (show ¬ b0 < 194 by omega), if_neg (show ¬ b0 > 244 by omega), if_neg (show ¬ b0 < 224 by omega), if_pos (show b0 < 240 by omega), if_pos c3.2.2]
            show (_, _, _) = (_, _, _)
            have hb1 : 128 ≤ b1 ∧ b1 ≤ 191 := by
              have := c3.2.2.1; have := c3.2.2.2.1; unfold lowOf at *; unfold highOf at *; split at * <;> split at * <;> omega
            rw [show (b0 % 16 * 64 + b1 % 64) * 64 + b2 % 64 = (b0 - 224) * 4096 + (b1 - 128) * 64 + (b2 - 128) by omega]
            rfl
          · have n3 := fun r k => n2 r (miss (b0 :: b1 :: b2 :: t2) 3 3 rfl (by decide) (by decide) (by simp) _ (join3 b0 b1 b2 t2 g0 g1 k0 k1 m0 m1') (fun h => c3 ((m3 b0 b1 b2 t2 g0 g1 k0 k1 m0 m1').mp h)) r k)
            match t2, ht2 with
            | [], _ =>
              obtain ⟨r, hr, hd⟩ := ref_stop [b0, b1, b2] (by simp) 4 (.inr ⟨rfl, by simp⟩)
              refine ⟨r, n3 r hr, ?_⟩
              have : dec [b0, b1, b2] = none := by
                simp only [dec, if_neg h1]
                split; rfl
                split; rfl
                split
                · rw [if_neg (by omega)]
                · split
                  · rw [if_neg (fun h => c3 ⟨by omega, by omega, h⟩)]
                  · rfl
              rw [this]; exact hd
            | b3 :: t3, ht2 =>
              obtain ⟨⟨q0, q1⟩, ht3⟩ := ht2.cons
              by_cases c4 : 240 ≤ b0 ∧ b0 ≤ 244 ∧ lowOf b0 ≤ b1 ∧ b1 ≤ highOf b0 ∧ 128 ≤ b2 ∧ b2 ≤ 191 ∧ 128 ≤ b3 ∧ b3 ≤ 191
              · refine ⟨_, n3 _ (hit _ 4 4 rfl (by decide) (by decide) (by simp) _ (join4 b0 b1 b2 b3 t3 g0 g1 k0 k1 m0 m1' q0 q1) ((m4 b0 b1 b2 b3 t3 g0 g1 k0 k1 m0 m1' q0 q1).mpr c4)), ?_⟩
                simp only [dec, if_neg h1, if_neg (show ¬ b0 < 194 by omega), if_neg (show ¬ b0 > 244 by omega), if_neg (show ¬ b0 < 224 by omega), if_neg (show ¬ b0 < 240 by omega), if_pos c4.2.2]
                show (_, _, _) = (_, _, _)
                have hb1 : 128 ≤ b1 ∧ b1 ≤ 191 := by
                  have := c4.2.2.1; have := c4.2.2.2.1; unfold lowOf at *; unfold highOf at *; split at * <;> split at * <;> omega
                rw [show ((b0 % 8 * 64 + b1 % 64) * 64 + b2 % 64) * 64 + b3 % 64 = (b0 - 240) * 262144 + (b1 - 128) * 4096 + (b2 - 128) * 64 + (b3 - 128) by omega]
                rfl
              · obtain ⟨r, hr, hd⟩ := ref_stop (b0 :: b1 :: b2 :: b3 :: t3) (by simp) 5 (.inl ⟨rfl, by simp⟩)
                refine ⟨r, n3 r (miss (b0 :: b1 :: b2 :: b3 :: t3) 4 4 rfl (by decide) (by decide) (by simp) _ (join4 b0 b1 b2 b3 t3 g0 g1 k0 k1 m0 m1' q0 q1) (fun h => c4 ((m4 b0 b1 b2 b3 t3 g0 g1 k0 k1 m0 m1' q0 q1).mp h)) r hr), ?_⟩
                have : dec (b0 :: b1 :: b2 :: b3 :: t3) = none := by
                  simp only [dec, if_neg h1]
                  split; rfl
                  split; rfl
                  split
                  · rw [if_neg (by omega)]
                  · split
                    · rw [if_neg (fun h => c3 ⟨by omega, by omega, h⟩)]
                    · rw [if_neg (fun h => c4 ⟨by omega, by omega, h⟩)]
                rw [this]; exact hd
theorem ref_dec (l : List Int) (hb : Bytes l) (i : Nat) (hi : i < l.length) : ∃ r, Ev (fun k => colophonref01_Decode.f k l i) r ∧ DecIs (dec (l.drop i)) r := by
  obtain ⟨b0, t, hd⟩ := drop_cons hi
  have hb2 : Bytes (b0 :: t) := hd ▸ hb.drop i
  obtain ⟨r, h1, h2⟩ := ref_tail b0 t hb2
  rw [hd]
  refine ⟨r, ?_, h2⟩
  unfold colophonref01_Decode.f
  simp only [if_neg (show ¬ ((i : Int) < 0) by omega), show decide ((i : Int) ≥ (l.length : Int)) = false from decide_eq_false (by omega)]
  refine Ev.step (f := fun k => colophonref01_Decode.l0 k (b0 :: t) 1) (fun k => ?_) h1
  simp only [colophonref01_Decode.j0, Bool.false_eq_true, if_false]
  rw [if_pos (by omega), if_pos (by omega)]
  simp only [Int.toNat_natCast, hd]
end Go.Proofs.YtjioglaobabmmaaDoor.Pure
/- What a decoded character is; what Check says. -/
namespace Go.Proofs.YtjioglaobabmmaaDoor.Pure
open Go.RowKit Go.Proofs.YtjioglaobabmmaaDoor.P Go.Proofs.YtjioglaobabmmaaDoorW.PrintWords
set_option linter.unusedVariables false
set_option linter.unusedSimpArgs false
theorem encOf_char {c : Int} {x : List Int} (h : encOf c = (x, 0)) : isChar c ∧ bytesOfChar c = x := by
  unfold encOf at h
  split at h
  · rename_i hc
    exact ⟨hc, congrArg Prod.fst h⟩
  · exact absurd (congrArg Prod.snd h) (by show ¬ ((10 : Int) = 0); decide)
/-- A decoded character: it is one, and its bytes stand there. -/
theorem dec_spec (l : List Int) (hb : Bytes l) (c : Int) (n : Nat) (h : dec l = some (c, n)) : 1 ≤ n ∧ n ≤ 4 ∧ n ≤ l.length ∧ isChar c ∧ bytesOfChar c = l.take n := by
  match l, hb with
  | [], _ => simp [dec] at h
  | b0 :: t, hb =>
    obtain ⟨⟨g0, g1⟩, ht⟩ := hb.cons
    unfold dec at h
    by_cases h1 : b0 < 128
    · simp only [if_pos h1, Option.some.injEq, Prod.mk.injEq] at h
      obtain ⟨rfl, rfl⟩ := h
      have := encOf_char ((m1 b0 t g0 g1).mpr h1)
      exact ⟨by decide, by decide, by simp, this.1, this.2⟩
    · simp only [if_neg h1] at h
      by_cases h2 : b0 < 194
      · simp [h2] at h
      · simp only [if_neg h2] at h
        by_cases h3 : b0 > 244
        · simp only [if_pos h3] at h; cases h
        · simp only [if_neg h3] at h
          by_cases h4 : b0 < 224
          · simp only [if_pos h4] at h
            match t, ht with
            | [], _ => cases h
            | b1 :: t1, ht =>
              obtain ⟨⟨k0, k1⟩, ht1⟩ := ht.cons
              simp only at h
              split at h
              · rename_i c1
                simp only [Option.some.injEq, Prod.mk.injEq] at h
                obtain ⟨rfl, rfl⟩ := h
                have := encOf_char ((m2 b0 b1 t1 g0 g1 k0 k1).mpr ⟨by omega, by omega, c1⟩)
                rw [show b0 % 32 * 64 + b1 % 64 = (b0 - 192) * 64 + (b1 - 128) by omega] at this
                exact ⟨by decide, by decide, by simp, this.1, this.2⟩
              · cases h
          · simp only [if_neg h4] at h
            by_cases h5 : b0 < 240
            · simp only [if_pos h5] at h
              match t, ht with
              | [], _ => cases h
              | [b1], _ => cases h
              | b1 :: b2 :: t2, ht =>
                obtain ⟨⟨k0, k1⟩, ht1⟩ := ht.cons
                obtain ⟨⟨q0, q1⟩, ht2⟩ := ht1.cons
                simp only at h
                split at h
                · rename_i c1
                  simp only [Option.some.injEq, Prod.mk.injEq] at h
                  obtain ⟨rfl, rfl⟩ := h
                  have hb1 : 128 ≤ b1 ∧ b1 ≤ 191 := by
                    have := c1.1; have := c1.2.1; unfold lowOf at *; unfold highOf at *; split at * <;> split at * <;> omega
                  have := encOf_char ((m3 b0 b1 b2 t2 g0 g1 k0 k1 q0 q1).mpr ⟨by omega, by omega, c1⟩)
                  rw [show (b0 % 16 * 64 + b1 % 64) * 64 + b2 % 64 = (b0 - 224) * 4096 + (b1 - 128) * 64 + (b2 - 128) by omega] at this
                  exact ⟨by decide, by decide, by simp, this.1, this.2⟩
                · cases h
            · simp only [if_neg h5] at h
              match t, ht with
              | [], _ => cases h
              | [b1], _ => cases h
              | [b1, b2], _ => cases h
              | b1 :: b2 :: b3 :: t3, ht =>
                obtain ⟨⟨k0, k1⟩, ht1⟩ := ht.cons
                obtain ⟨⟨q0, q1⟩, ht2⟩ := ht1.cons
                obtain ⟨⟨s0, s1⟩, ht3⟩ := ht2.cons
                simp only at h
                split at h
                · rename_i c1
                  simp only [Option.some.injEq, Prod.mk.injEq] at h
                  obtain ⟨rfl, rfl⟩ := h
                  have hb1 : 128 ≤ b1 ∧ b1 ≤ 191 := by
                    have := c1.1; have := c1.2.1; unfold lowOf at *; unfold highOf at *; split at * <;> split at * <;> omega
                  have := encOf_char ((m4 b0 b1 b2 b3 t3 g0 g1 k0 k1 q0 q1 s0 s1).mpr ⟨by omega, by omega, c1⟩)
                  rw [show ((b0 % 8 * 64 + b1 % 64) * 64 + b2 % 64) * 64 + b3 % 64 = (b0 - 240) * 262144 + (b1 - 128) * 4096 + (b2 - 128) * 64 + (b3 - 128) by omega] at this
                  exact ⟨by decide, by decide, by simp, this.1, this.2⟩
                · cases h
/-- Both decoders at a place: the character, or each some fault. -/
theorem both_dec (l : List Int) (hb : Bytes l) (i : Nat) (hi : i < l.length) :
    (∃ (c : Int) (n : Nat), dec (l.drop i) = some (c, n) ∧ 1 ≤ n ∧ n ≤ 4 ∧ i + n ≤ l.length ∧ isChar c ∧ bytesOfChar c = (l.drop i).take n ∧ Ev (fun k => runes_Decode.f k l i) (c, (n : Int), 0) ∧ Ev (fun k => colophonref01_Decode.f k l i) (c, (n : Int), 0))
    ∨ (dec (l.drop i) = none ∧ (∃ e : Int, e ≠ 0 ∧ Ev (fun k => runes_Decode.f k l i) (0, 0, e)) ∧ (∃ e : Int, e ≠ 0 ∧ Ev (fun k => colophonref01_Decode.f k l i) (0, 0, e))) := by
  obtain ⟨r, hr, hd⟩ := runes_dec l hb i hi
  obtain ⟨r', hr', hd'⟩ := ref_dec l hb i hi
  cases h : dec (l.drop i) with
  | none =>
    rw [h] at hd hd'
    obtain ⟨x, y, z⟩ := r
    obtain ⟨x', y', z'⟩ := r'
    obtain ⟨rfl, rfl, hz⟩ := hd
    obtain ⟨rfl, rfl, hz'⟩ := hd'
    exact .inr ⟨rfl, ⟨z, hz, hr⟩, ⟨z', hz', hr'⟩⟩
  | some p =>
    obtain ⟨c, n⟩ := p
    rw [h] at hd hd'
    have hs := dec_spec _ (hb.drop i) c n h
    subst hd
    subst hd'
    refine .inl ⟨c, n, rfl, hs.1, hs.2.1, ?_, hs.2.2.2.1, hs.2.2.2.2, hr, hr'⟩
    have := hs.2.2.1
    rw [List.length_drop] at this
    omega
/-- UTF-8, from a place on. -/
def val : Nat → List Int → Bool
  | 0, l => l.isEmpty
  | f + 1, l => if l.isEmpty then true else match dec l with
    | some (_, n) => val f (l.drop n)
    | none => false
theorem check_loop (l : List Int) (hb : Bytes l) (hl : l.length ≤ 140737488355328) (f : Nat) : ∀ i : Nat, i ≤ l.length → l.length ≤ i + f →
    (∃ a e, Ev (fun k => runes_Check.l0 k l i) (a, e) ∧ (e = 0 ↔ val f (l.drop i) = true)) ∧ (∃ a e, Ev (fun k => colophonref01_Check.l0 k l i) (a, e) ∧ (e = 0 ↔ val f (l.drop i) = true)) := by
  induction f with
  | zero =>
    intro i hi hf
    have he : l.drop i = [] := List.drop_eq_nil_of_le (by omega)
    refine ⟨⟨i, 0, Ev.step (f := fun _ => some _) (fun k => ?_) (Ev.now _), by simp [val, he]⟩, ⟨i, 0, Ev.step (f := fun _ => some _) (fun k => ?_) (Ev.now _), by simp [val, he]⟩⟩
    · simp only [runes_Check.l0]; rw [if_neg (by omega)]
    · simp only [colophonref01_Check.l0]; rw [if_neg (by omega)]
  | succ f ih =>
    intro i hi hf
    by_cases hlt : i < l.length
    · have hne : (l.drop i).isEmpty = false := by rw [List.isEmpty_eq_false_iff]; intro h; have := congrArg List.length h; simp at this; omega
      rcases both_dec l hb i hlt with ⟨c, n, h, h1, h4, hn, hc, hx, ha, hb'⟩ | ⟨h, ⟨e, he, ha⟩, ⟨e', he', hb'⟩⟩
      · obtain ⟨⟨a1, e1, k1, g1⟩, ⟨a2, e2, k2, g2⟩⟩ := ih (i + n) hn (by omega)
        have hv : val (f + 1) (l.drop i) = val f (l.drop (i + n)) := by
          simp only [val, hne, Bool.false_eq_true, if_false, h]
          rw [List.drop_drop]
        rw [hv]
        refine ⟨⟨a1, e1, Ev.step (f := fun k => (runes_Decode.f k l i).bind fun bt111 => (if bt111.2.2 = 0 then (runes_Check.l0 k l (wrap64 ((i : Int) + bt111.2.1))) else (some ((i : Int), bt111.2.2)))) (fun k => ?_) (Ev.bind ha ?_), g1⟩, ⟨a2, e2, Ev.step (f := fun k => (colophonref01_Decode.f k l i).bind fun bt193 => (if bt193.2.2 = 0 then (colophonref01_Check.l0 k l (wrap64 ((i : Int) + bt193.2.1))) else (some ((i : Int), bt193.2.2)))) (fun k => ?_) (Ev.bind hb' ?_), g2⟩⟩
        · simp only [runes_Check.l0]; rw [if_pos (by omega)]
        · simp only [if_true]
          rw [wrap_nat (by omega) (by omega)]
          exact k1
        · simp only [colophonref01_Check.l0]; rw [if_pos (by omega)]
        · simp only [if_true]
          rw [wrap_nat (by omega) (by omega)]
          exact k2
      · have hv : val (f + 1) (l.drop i) = false := by simp only [val, hne, Bool.false_eq_true, if_false, h]
        rw [hv]
        refine ⟨⟨i, e, Ev.step (f := fun k => (runes_Decode.f k l i).bind fun bt111 => (if bt111.2.2 = 0 then (runes_Check.l0 k l (wrap64 ((i : Int) + bt111.2.1))) else (some ((i : Int), bt111.2.2)))) (fun k => ?_) (Ev.bind ha ?_), by simp [he]⟩, ⟨i, e', Ev.step (f := fun k => (colophonref01_Decode.f k l i).bind fun bt193 => (if bt193.2.2 = 0 then (colophonref01_Check.l0 k l (wrap64 ((i : Int) + bt193.2.1))) else (some ((i : Int), bt193.2.2)))) (fun k => ?_) (Ev.bind hb' ?_), by simp [he']⟩⟩
        · simp only [runes_Check.l0]; rw [if_pos (by omega)]
        · simp only [if_neg he]; exact Ev.now _
        · simp only [colophonref01_Check.l0]; rw [if_pos (by omega)]
        · simp only [if_neg he']; exact Ev.now _
    · have he : l.drop i = [] := List.drop_eq_nil_of_le (by omega)
      refine ⟨⟨i, 0, Ev.step (f := fun _ => some _) (fun k => ?_) (Ev.now _), by simp [val, he]⟩, ⟨i, 0, Ev.step (f := fun _ => some _) (fun k => ?_) (Ev.now _), by simp [val, he]⟩⟩
      · simp only [runes_Check.l0]; rw [if_neg (by omega)]
      · simp only [colophonref01_Check.l0]; rw [if_neg (by omega)]
def utf (l : List Int) : Bool := val l.length l
theorem check_ev (l : List Int) (hb : Bytes l) (hl : l.length ≤ 140737488355328) :
    (∃ a e, Ev (fun k => runes_Check.f k l) (a, e) ∧ (e = 0 ↔ utf l = true)) ∧ (∃ a e, Ev (fun k => colophonref01_Check.f k l) (a, e) ∧ (e = 0 ↔ utf l = true)) := by
  have := check_loop l hb hl l.length 0 (by omega) (by omega)
  simpa [runes_Check.f, colophonref01_Check.f, utf] using this
end Go.Proofs.YtjioglaobabmmaaDoor.Pure
/- The escapes: the program's and the document's. -/
namespace Go.Proofs.YtjioglaobabmmaaDoor.Pure
open Go.RowKit Go.Proofs.YtjioglaobabmmaaDoor.P Go.Proofs.YtjioglaobabmmaaDoorW.PrintWords
set_option linter.unusedVariables false
set_option linter.unusedSimpArgs false
def hexv (c : Int) : Option Int := if 48 ≤ c ∧ c ≤ 57 then some (c - 48) else if 97 ≤ c ∧ c ≤ 102 then some (c - 87) else if 65 ≤ c ∧ c ≤ 70 then some (c - 55) else none
theorem hexv_range {c v : Int} (h : hexv c = some v) : 0 ≤ v ∧ v ≤ 15 := by
  unfold hexv at h
  split at h
  · cases h; omega
  · split at h
    · cases h; omega
    · split at h
      · cases h; omega
      · cases h
theorem digit_ev (c : Int) (h0 : 0 ≤ c) (h1 : c ≤ 255) : Ev (fun k => escape_digit.f k c) (match hexv c with | some v => (v, true) | none => (0, false)) := by
  unfold escape_digit.f hexv
  by_cases a : 48 ≤ c
  · simp only [if_pos a]
    by_cases b : c ≤ 57
    · simp only [if_pos (show 48 ≤ c ∧ c ≤ 57 from ⟨a, b⟩), decide_eq_true b]
      refine Ev.step (f := fun _ => some (c - 48, true)) (fun k => ?_) (Ev.now _)
      simp only [escape_digit.j0, if_true]
      rw [show (c - 48) % 256 = c - 48 by omega]
    · simp only [if_neg (show ¬ (48 ≤ c ∧ c ≤ 57) from fun h => b h.2), decide_eq_false b]
      by_cases d : 97 ≤ c
      · by_cases e : c ≤ 102
        · simp only [if_pos (show 97 ≤ c ∧ c ≤ 102 from ⟨d, e⟩)]
          refine Ev.step (f := fun k => escape_digit.j1 k c true) (fun k => ?_) (Ev.step (f := fun _ => some (c - 87, true)) (fun k => ?_) (Ev.now _))
          · simp only [escape_digit.j0, Bool.false_eq_true, if_false]; rw [if_pos d, decide_eq_true e]
          · simp only [escape_digit.j1, if_true]; rw [show (c - 97) % 256 + 10 = c - 87 by omega]
        · simp only [if_neg (show ¬ (97 ≤ c ∧ c ≤ 102) from fun h => e h.2), if_neg (show ¬ (65 ≤ c ∧ c ≤ 70) by omega)]
          refine Ev.step (f := fun k => escape_digit.j1 k c false) (fun k => ?_) (Ev.step (f := fun _ => some (0, false)) (fun k => ?_) (Ev.now _))
          · simp only [escape_digit.j0, Bool.false_eq_true, if_false]; rw [if_pos d, decide_eq_false e]
          · simp only [escape_digit.j1, Bool.false_eq_true, if_false]; rw [if_pos (by omega), if_neg (by omega)]
      · simp only [if_neg (show ¬ (97 ≤ c ∧ c ≤ 102) from fun h => d h.1)]
        refine Ev.step (f := fun k => escape_digit.j1 k c false) (fun k => ?_) ?_
        · simp only [escape_digit.j0, Bool.false_eq_true, if_false]; rw [if_neg d]
        · by_cases g : 65 ≤ c ∧ c ≤ 70
          · simp only [if_pos g]
            refine Ev.step (f := fun _ => some (c - 55, true)) (fun k => ?_) (Ev.now _)
            simp only [escape_digit.j1, Bool.false_eq_true, if_false]; rw [if_pos g.1, if_pos g.2, show (c - 65) % 256 + 10 = c - 55 by omega]
          · simp only [if_neg g]
            refine Ev.step (f := fun _ => some (0, false)) (fun k => ?_) (Ev.now _)
            simp only [escape_digit.j1, Bool.false_eq_true, if_false]
            by_cases g1 : 65 ≤ c
            · rw [if_pos g1, if_neg (fun h => g ⟨g1, h⟩)]
            · rw [if_neg g1]
  · simp only [if_neg a, if_neg (show ¬ (48 ≤ c ∧ c ≤ 57) from fun h => a h.1), if_neg (show ¬ (97 ≤ c ∧ c ≤ 102) by omega), if_neg (show ¬ (65 ≤ c ∧ c ≤ 70) by omega)]
    refine Ev.step (f := fun k => escape_digit.j1 k c false) (fun k => ?_) (Ev.step (f := fun _ => some (0, false)) (fun k => ?_) (Ev.now _))
    · simp only [escape_digit.j0, Bool.false_eq_true, if_false]; rw [if_neg (by omega)]
    · simp only [escape_digit.j1, Bool.false_eq_true, if_false]; rw [if_neg (by omega)]
theorem value_ev (c : Int) (h0 : 0 ≤ c) (h1 : c ≤ 255) : Ev (fun k => colophonref08_value.f k c) (match hexv c with | some v => v | none => -1) := by
  unfold colophonref08_value.f hexv
  by_cases a : 48 ≤ c
  · simp only [if_pos (show c ≥ 48 from a)]
    by_cases b : c ≤ 57
    · simp only [if_pos (show 48 ≤ c ∧ c ≤ 57 from ⟨a, b⟩), decide_eq_true b]
      refine Ev.step (f := fun _ => some (c - 48)) (fun k => ?_) (Ev.now _)
      simp only [colophonref08_value.j0, if_true]
      rw [show (c - 48) % 256 = c - 48 by omega]
    · simp only [if_neg (show ¬ (48 ≤ c ∧ c ≤ 57) from fun h => b h.2), decide_eq_false b]
      by_cases d : 97 ≤ c
      · by_cases e : c ≤ 102
        · simp only [if_pos (show 97 ≤ c ∧ c ≤ 102 from ⟨d, e⟩)]
          refine Ev.step (f := fun k => colophonref08_value.j1 k c true) (fun k => ?_) (Ev.step (f := fun _ => some (c - 87)) (fun k => ?_) (Ev.now _))
          · simp only [colophonref08_value.j0, Bool.false_eq_true, if_false]; rw [if_pos (show c ≥ 97 from d), decide_eq_true e]
          · simp only [colophonref08_value.j1, if_true]; rw [show (c - 97) % 256 + 10 = c - 87 by omega]
        · simp only [if_neg (show ¬ (97 ≤ c ∧ c ≤ 102) from fun h => e h.2), if_neg (show ¬ (65 ≤ c ∧ c ≤ 70) by omega)]
          refine Ev.step (f := fun k => colophonref08_value.j1 k c false) (fun k => ?_) (Ev.step (f := fun _ => some (-1)) (fun k => ?_) (Ev.now _))
          · simp only [colophonref08_value.j0, Bool.false_eq_true, if_false]; rw [if_pos (show c ≥ 97 from d), decide_eq_false e]
          · simp only [colophonref08_value.j1, Bool.false_eq_true, if_false]; rw [if_pos (by omega), if_neg (by omega)]
      · simp only [if_neg (show ¬ (97 ≤ c ∧ c ≤ 102) from fun h => d h.1)]
        refine Ev.step (f := fun k => colophonref08_value.j1 k c false) (fun k => ?_) ?_
        · simp only [colophonref08_value.j0, Bool.false_eq_true, if_false]; rw [if_neg (show ¬ c ≥ 97 from d)]
        · by_cases g : 65 ≤ c ∧ c ≤ 70
          · simp only [if_pos g]
            refine Ev.step (f := fun _ => some (c - 55)) (fun k => ?_) (Ev.now _)
            simp only [colophonref08_value.j1, Bool.false_eq_true, if_false]; rw [if_pos (show c ≥ 65 from g.1), if_pos g.2, show (c - 65) % 256 + 10 = c - 55 by omega]
          · simp only [if_neg g]
            refine Ev.step (f := fun _ => some (-1)) (fun k => ?_) (Ev.now _)
            simp only [colophonref08_value.j1, Bool.false_eq_true, if_false]
            by_cases g1 : 65 ≤ c
            · rw [if_pos (show c ≥ 65 from g1), if_neg (fun h => g ⟨g1, h⟩)]
            · rw [if_neg (show ¬ c ≥ 65 from g1)]
  · simp only [if_neg (show ¬ c ≥ 48 from a), if_neg (show ¬ (48 ≤ c ∧ c ≤ 57) from fun h => a h.1), if_neg (show ¬ (97 ≤ c ∧ c ≤ 102) by omega), if_neg (show ¬ (65 ≤ c ∧ c ≤ 70) by omega)]
    refine Ev.step (f := fun k => colophonref08_value.j1 k c false) (fun k => ?_) (Ev.step (f := fun _ => some (-1)) (fun k => ?_) (Ev.now _))
    · simp only [colophonref08_value.j0, Bool.false_eq_true, if_false]; rw [if_neg (by omega)]
    · simp only [colophonref08_value.j1, Bool.false_eq_true, if_false]; rw [if_neg (by omega)]
/-- Four digits of base 16: the number, or what is wrong. -/
def fourR : Nat → List Int → Int → Int × Int
  | 0, _, n => (n, 0)
  | _ + 1, [], _ => (0, 3)
  | r + 1, c :: t, n => match hexv c with
    | some v => fourR r t (n * 16 + v)
    | none => (0, 80)
theorem fourR_range : ∀ (r : Nat) (l : List Int) (n b : Int), 0 ≤ n → n < b → 0 < b → 0 ≤ (fourR r l n).1 ∧ (fourR r l n).1 < b * 16 ^ r
  | 0, l, n, b, h0, h1, hb => by simp [fourR]; exact ⟨h0, h1⟩
  | r + 1, [], n, b, h0, h1, hb => by
    simp only [fourR]
    exact ⟨by decide, Int.mul_pos hb (Int.pow_pos (by decide))⟩
  | r + 1, c :: t, n, b, h0, h1, hb => by
    simp only [fourR]
    split
    · rename_i v hv
      have := hexv_range hv
      have ih := fourR_range r t (n * 16 + v) (b * 16) (by omega) (by omega) (by omega)
      rw [Int.pow_succ]
      refine ⟨ih.1, ?_⟩
      have e : b * (16 ^ r * 16) = b * 16 * 16 ^ r := by rw [Int.mul_comm (16 ^ r) 16, Int.mul_assoc]
      rw [e]; exact ih.2
    · exact ⟨by show (0 : Int) ≤ 0; decide, Int.mul_pos hb (Int.pow_pos (by decide))⟩
theorem pow16 (i : Nat) (h : i ≤ 4) : (16 : Int) ^ i ≤ 65536 := by
  match i, h with
  | 0, _ => decide
  | 1, _ => decide
  | 2, _ => decide
  | 3, _ => decide
  | 4, _ => decide
  | n + 5, h => exact absurd h (by omega)
theorem drop_rd {l : List Int} {i : Nat} (h : i < l.length) : l.drop i = rd l i :: l.drop (i + 1) := by
  rw [List.drop_eq_getElem_cons h, rd_getElem h]
theorem rd_byte {l : List Int} (hb : Bytes l) {i : Nat} (h : i < l.length) : 0 ≤ rd l i ∧ rd l i ≤ 255 := by
  rw [rd_getElem h]; exact hb _ (List.getElem_mem h)
theorem unit1_ev (b : List Int) (hb : Bytes b) (hl : b.length ≤ 140737488355328) (d : Nat) : ∀ (i : Nat) (n : Int), i + d = 4 → 0 ≤ n → n < 16 ^ i → Ev (fun k => escape_unit.l1 k b n i) (fourR d (b.drop (i + 2)) n) := by
  induction d with
  | zero =>
    intro i n h h0 h1
    refine Ev.step (f := fun _ => some _) (fun k => ?_) (Ev.now _)
    simp only [escape_unit.l1, fourR]
    rw [if_neg (by omega)]
  | succ d ih =>
    intro i n h h0 h1
    have hw : wrap64 ((i : Int) + 2) = ((i + 2 : Nat) : Int) := by rw [wrap_nat (by omega) (by omega)]; rfl
    by_cases hlt : i + 2 < b.length
    · have hr := rd_byte hb hlt
      have hn16 : n < 65536 := by
        have := pow16 i (by omega)
        omega
      have hd := digit_ev (rd b ((i + 2 : Nat) : Int)) hr.1 hr.2
      refine Ev.step (f := fun k => (escape_digit.f k (rd b ((i + 2 : Nat) : Int))).bind fun bt239 => (if bt239.2 = true then (escape_unit.l1 k b (Go.bits .or .i64 (wrap64 (n * 16)) bt239.1) (wrap64 ((i : Int) + 1))) else (some (0, 80)))) (fun k => ?_) ?_
      · simp only [escape_unit.l1]
        rw [if_pos (by omega), hw, if_neg (by omega), if_pos (by omega), if_pos (by omega)]
      · refine Ev.bind hd ?_
        rw [drop_rd hlt]
        simp only [fourR]
        cases hv : hexv (rd b ((i + 2 : Nat) : Int)) with
        | none =>
          simp only [Bool.false_eq_true, if_false]
          exact Ev.now _
        | some v =>
          have hvr := hexv_range hv
          simp only [if_true]
          rw [wrap_nat (i := n * 16) (by omega) (by omega), i64_or4 (by omega) (by omega) (by omega) (by omega) (by omega), wrap_nat (i := (i : Int) + 1) (by omega) (by omega)]
          have := ih (i + 1) (n * 16 + v) (by omega) (by omega) (by rw [Int.pow_succ]; omega)
          rw [show i + 1 + 2 = i + 2 + 1 by omega] at this
          exact this
    · refine Ev.step (f := fun _ => some (0, 3)) (fun k => ?_) ?_
      · simp only [escape_unit.l1]
        rw [if_pos (by omega), hw, if_pos (by omega)]
      · rw [List.drop_eq_nil_of_le (by omega)]
        exact Ev.now _
theorem four_ev (l : List Int) (hb : Bytes l) (at_ : Nat) (hl : l.length + at_ ≤ 1407374883553280) (d : Nat) : ∀ (i : Nat) (n : Int), i + d = 4 → 0 ≤ n → n < 16 ^ i → Ev (fun k => colophonref08_four.l0 k l at_ n i) (fourR d (l.drop (at_ + i)) n) := by
  induction d with
  | zero =>
    intro i n h h0 h1
    refine Ev.step (f := fun _ => some _) (fun k => ?_) (Ev.now _)
    simp only [colophonref08_four.l0, fourR]
    rw [if_neg (by omega)]
  | succ d ih =>
    intro i n h h0 h1
    have hw : wrap64 ((at_ : Int) + i) = ((at_ + i : Nat) : Int) := by rw [wrap_nat (by omega) (by omega)]; rfl
    by_cases hlt : at_ + i < l.length
    · have hr := rd_byte hb hlt
      have hn16 : n < 65536 := by
        have := pow16 i (by omega)
        omega
      have hd := value_ev (rd l ((at_ + i : Nat) : Int)) hr.1 hr.2
      refine Ev.step (f := fun k => (colophonref08_value.f k (rd l ((at_ + i : Nat) : Int))).bind fun t281 => (if t281 < 0 then (some (0, 80)) else (colophonref08_four.l0 k l at_ (wrap64 ((wrap64 (n * 16)) + t281)) (wrap64 ((i : Int) + 1))))) (fun k => ?_) ?_
      · simp only [colophonref08_four.l0]
        rw [if_pos (by omega), hw, if_neg (by omega), if_pos (by omega), if_pos (by omega)]
      · refine Ev.bind hd ?_
        rw [drop_rd hlt]
        simp only [fourR]
        cases hv : hexv (rd l ((at_ + i : Nat) : Int)) with
        | none =>
          simp only [show ((-1 : Int) < 0) by decide, if_true]
          exact Ev.now _
        | some v =>
          have hvr := hexv_range hv
          simp only [if_neg (show ¬ v < 0 by omega)]
          rw [wrap_nat (i := n * 16) (by omega) (by omega), wrap_nat (i := n * 16 + v) (by omega) (by omega), wrap_nat (i := (i : Int) + 1) (by omega) (by omega)]
          have := ih (i + 1) (n * 16 + v) (by omega) (by omega) (by rw [Int.pow_succ]; omega)
          rw [show at_ + (i + 1) = at_ + i + 1 by omega] at this
          exact this
    · refine Ev.step (f := fun _ => some (0, 3)) (fun k => ?_) ?_
      · simp only [colophonref08_four.l0]
        rw [if_pos (by omega), hw, if_pos (by omega)]
      · rw [List.drop_eq_nil_of_le (by omega)]
        exact Ev.now _
/-- An escape with u. -/
def unitR (b : List Int) : Int × Int := match b with
  | [] => (0, 3)
  | x :: t => if x = 92 then (match t with
    | [] => (0, 3)
    | y :: t' => if y = 117 then fourR 4 t' 0 else (0, 80)) else (0, 80)
theorem unit_ev (b : List Int) (hb : Bytes b) (hl : b.length ≤ 140737488355328) : Ev (fun k => escape_unit.f k b) (unitR b) := by
  unfold escape_unit.f
  simp only [Option.bind_some]
  match b, hb, hl with
  | [], _, _ =>
    refine Ev.step (f := fun _ => some (0, 3)) (fun k => ?_) (Ev.now _)
    simp [escape_unit.l0]
  | x :: t, hb, hl =>
    by_cases hx : x = 92
    · subst hx
      refine Ev.step (f := fun k => escape_unit.l0 k (92 :: t) 0 [92, 117] 2 1) (fun k => ?_) ?_
      · simp only [escape_unit.l0]
        rw [if_pos (by decide), if_pos (by decide), if_pos (by decide), if_neg (by simp only [List.length_cons]; omega), if_pos (by simp only [List.length_cons]; omega), if_pos (by rfl), wrap_nat (i := 0 + 1) (by decide) (by decide)]
        rfl
      · match t, hb, hl with
        | [], _, _ =>
          refine Ev.step (f := fun _ => some (0, 3)) (fun k => ?_) (Ev.now _)
          simp [escape_unit.l0]
        | y :: t', hb, hl =>
          by_cases hy : y = 117
          · subst hy
            refine Ev.step (f := fun k => escape_unit.l0 k (92 :: 117 :: t') 0 [92, 117] 2 2) (fun k => ?_) (Ev.step (f := fun k => escape_unit.l1 k (92 :: 117 :: t') 0 ((0 : Nat) : Int)) (fun k => ?_) ?_)
            · simp only [escape_unit.l0]
              rw [if_pos (by decide), if_pos (by decide), if_pos (by decide), if_neg (by simp only [List.length_cons]; omega), if_pos (by simp only [List.length_cons]; omega), if_pos (by rfl), wrap_nat (i := 1 + 1) (by decide) (by decide)]
              rfl
            · simp only [escape_unit.l0]
              rw [if_neg (by decide)]
              rfl
            · have := unit1_ev (92 :: 117 :: t') hb hl 4 0 0 rfl (by decide) (by decide)
              simpa [unitR] using this
          · refine Ev.step (f := fun _ => some (0, 80)) (fun k => ?_) ?_
            · simp only [escape_unit.l0]
              rw [if_pos (by decide), if_pos (by decide), if_pos (by decide), if_neg (by simp only [List.length_cons]; omega), if_pos (by simp only [List.length_cons]; omega), if_neg (by rw [rd1, rd1]; exact hy)]
            · simp only [unitR, if_true, if_neg hy]
              exact Ev.now _
    · refine Ev.step (f := fun _ => some (0, 80)) (fun k => ?_) ?_
      · simp only [escape_unit.l0]
        rw [if_pos (by decide), if_pos (by decide), if_pos (by decide), if_neg (by simp only [List.length_cons]; omega), if_pos (by simp only [List.length_cons]; omega), if_neg (by rw [rd0, rd0]; exact hx)]
      · simp only [unitR, if_neg hx]
        exact Ev.now _
theorem unitR_range (b : List Int) : 0 ≤ (unitR b).1 ∧ (unitR b).1 < 65536 := by
  unfold unitR
  split
  · decide
  · split
    · split
      · decide
      · split
        · have := fourR_range 4 (by assumption) 0 1 (by decide) (by decide) (by decide)
          simpa using this
        · decide
    · decide
end Go.Proofs.YtjioglaobabmmaaDoor.Pure
/- What an escape tells: the program's and the document's. -/
namespace Go.Proofs.YtjioglaobabmmaaDoor.Pure
open Go.RowKit Go.Proofs.YtjioglaobabmmaaDoor.P Go.Proofs.YtjioglaobabmmaaDoorW.PrintWords
set_option linter.unusedVariables false
set_option linter.unusedSimpArgs false
/-- The character of an escape's letter. -/
def letR (c : Int) : Option Int := if c = 34 ∨ c = 92 ∨ c = 47 then some c else if c = 98 then some 8 else if c = 102 then some 12 else if c = 110 then some 10 else if c = 114 then some 13 else if c = 116 then some 9 else none
/-- An escape, from its backslash on: the character, how many bytes, what is wrong. -/
def escR (b : List Int) : Int × Int × Int :=
  if b.length < 2 then (0, 0, 3) else match letR (rd b 1) with
    | some c => (c, 2, 0)
    | none =>
      let u := unitR b
      if u.2 ≠ 0 then (u.1, 6, u.2) else if u.1 < 55296 ∨ 57343 < u.1 then (u.1, 6, 0) else
        let v := unitR (b.drop 6)
        if v.2 = 0 ∧ u.1 < 56320 ∧ 56320 ≤ v.1 ∧ v.1 ≤ 57343 then (65536 + (u.1 - 55296) * 1024 + v.1 - 56320, 12, 0) else (65533, 6, 0)
theorem idx1 : ∀ c : Nat, c < 256 → Lib.indexByte (⟨#[34, 92, 47]⟩ : ByteArray).data.toList ((c : Int)).toNat.toUInt8 = if c = 34 then 0 else if c = 92 then 1 else if c = 47 then 2 else -1 := by decide +kernel
theorem idx2 : ∀ c : Nat, c < 256 → Lib.indexByte (⟨#[98, 102, 110, 114, 116]⟩ : ByteArray).data.toList ((c : Int)).toNat.toUInt8 = if c = 98 then 0 else if c = 102 then 1 else if c = 110 then 2 else if c = 114 then 3 else if c = 116 then 4 else -1 := by decide +kernel
theorem fourR_len : ∀ (r : Nat) (l : List Int) (n : Int), (fourR r l n).2 = 0 → r ≤ l.length
  | 0, _, _, _ => Nat.zero_le _
  | r + 1, [], _, h => absurd h (by simp [fourR])
  | r + 1, c :: t, n, h => by
    simp only [fourR] at h
    split at h
    · have := fourR_len r t _ h
      simp only [List.length_cons]; omega
    · exact absurd h (by decide)
theorem unitR_len (b : List Int) (h : (unitR b).2 = 0) : 6 ≤ b.length := by
  unfold unitR at h
  split at h
  · exact absurd h (by decide)
  · split at h
    · split at h
      · exact absurd h (by decide)
      · split at h
        · have := fourR_len 4 _ _ h
          simp only [List.length_cons]; omega
        · exact absurd h (by decide)
    · exact absurd h (by decide)
theorem escaped_ev (b : List Int) (hb : Bytes b) (hl : b.length ≤ 140737488355328) : Ev (fun k => escape_escaped.f k b) (escR b) := by
  unfold escape_escaped.f escR
  by_cases h2 : b.length < 2
  · simp only [if_pos (show (b.length : Int) < 2 by omega), if_pos h2]; exact Ev.now _
  · simp only [if_neg (show ¬ (b.length : Int) < 2 by omega), if_neg h2, if_pos (show (1 : Int) < (b.length : Int) by omega)]
    obtain ⟨g0, g1⟩ : 0 ≤ rd b 1 ∧ rd b 1 ≤ 255 := rd_byte hb (i := 1) (by omega)
    obtain ⟨c, hc⟩ := Int.eq_ofNat_of_zero_le g0
    rw [hc] at g1 ⊢
    have i1 := idx1 c (by omega)
    have i2 := idx2 c (by omega)
    simp only [strings_IndexByte.f, Option.bind_some, i1, i2]
    by_cases a1 : c = 34
    · subst a1; rw [show letR ((34 : Nat) : Int) = some 34 by decide +kernel]; exact ⟨0, fun k _ => by show (if _ then _ else _) = _; rw [if_pos (by decide), if_pos (by decide), if_pos (by decide)]; show some _ = some (34, 2, 0); decide +kernel⟩
    · by_cases a2 : c = 92
      · subst a2; rw [show letR ((92 : Nat) : Int) = some 92 by decide +kernel]; exact ⟨0, fun k _ => by show (if _ then _ else _) = _; rw [if_pos (by decide), if_pos (by decide), if_pos (by decide)]; show some _ = some (92, 2, 0); decide +kernel⟩
      · by_cases a3 : c = 47
        · subst a3; rw [show letR ((47 : Nat) : Int) = some 47 by decide +kernel]; exact ⟨0, fun k _ => by show (if _ then _ else _) = _; rw [if_pos (by decide), if_pos (by decide), if_pos (by decide)]; show some _ = some (47, 2, 0); decide +kernel⟩
        · by_cases a4 : c = 98
          · subst a4; rw [show letR ((98 : Nat) : Int) = some 8 by decide +kernel]; exact ⟨0, fun k _ => by show (if _ then _ else _) = _; rw [if_neg (by decide), if_pos (by decide), if_pos (by decide), if_pos (by decide)]; show some _ = some (8, 2, 0); decide +kernel⟩
          · by_cases a5 : c = 102
            · subst a5; rw [show letR ((102 : Nat) : Int) = some 12 by decide +kernel]; exact ⟨0, fun k _ => by show (if _ then _ else _) = _; rw [if_neg (by decide), if_pos (by decide), if_pos (by decide), if_pos (by decide)]; show some _ = some (12, 2, 0); decide +kernel⟩
            · by_cases a6 : c = 110
              · subst a6; rw [show letR ((110 : Nat) : Int) = some 10 by decide +kernel]; exact ⟨0, fun k _ => by show (if _ then _ else _) = _; rw [if_neg (by decide), if_pos (by decide), if_pos (by decide), if_pos (by decide)]; show some _ = some (10, 2, 0); decide +kernel⟩
              · by_cases a7 : c = 114
                · subst a7; rw [show letR ((114 : Nat) : Int) = some 13 by decide +kernel]; exact ⟨0, fun k _ => by show (if _ then _ else _) = _; rw [if_neg (by decide), if_pos (by decide), if_pos (by decide), if_pos (by decide)]; show some _ = some (13, 2, 0); decide +kernel⟩
                · by_cases a8 : c = 116
                  · subst a8; rw [show letR ((116 : Nat) : Int) = some 9 by decide +kernel]; exact ⟨0, fun k _ => by show (if _ then _ else _) = _; rw [if_neg (by decide), if_pos (by decide), if_pos (by decide), if_pos (by decide)]; show some _ = some (9, 2, 0); decide +kernel⟩
                  · have hlet : letR (c : Int) = none := by
                      unfold letR
                      rw [if_neg (by omega), if_neg (by omega), if_neg (by omega), if_neg (by omega), if_neg (by omega), if_neg (by omega)]
                    simp only [hlet, if_neg a1, if_neg a2, if_neg a3, if_neg a4, if_neg a5, if_neg a6, if_neg a7, if_neg a8, if_neg (show ¬ ((-1 : Int) ≥ 0) by decide)]
                    have hr := unitR_range b
                    have hu := unit_ev b hb hl
                    have hlen := unitR_len b
                    generalize hU : unitR b = u at hr hu hlen ⊢
                    obtain ⟨n, e⟩ := u
                    simp only at hr hlen ⊢
                    refine Ev.bind hu ?_
                    simp only
                    rw [wrap32_is (by omega) (by omega)]
                    by_cases he : e = 0
                    · subst he
                      simp only [if_true, ne_eq, not_true_eq_false, if_false]
                      have h6 := hlen rfl
                      by_cases q1 : n < 55296
                      · simp only [if_pos q1, if_pos (show n < 55296 ∨ 57343 < n from .inl q1)]
                        refine Ev.step (f := fun _ => some (n, 6, 0)) (fun k => ?_) (Ev.now _)
                        simp only [escape_escaped.j0, if_true]
                      · simp only [if_neg q1]
                        by_cases q2 : n > 57343
                        · simp only [decide_eq_true q2, if_pos (show n < 55296 ∨ 57343 < n from .inr q2)]
                          refine Ev.step (f := fun _ => some (n, 6, 0)) (fun k => ?_) (Ev.now _)
                          simp only [escape_escaped.j0, if_true]
                        · simp only [decide_eq_false q2, if_neg (show ¬ (n < 55296 ∨ 57343 < n) by omega)]
                          have hr2 := unitR_range (b.drop 6)
                          have hu2 := unit_ev (b.drop 6) (hb.drop 6) (by rw [List.length_drop]; omega)
                          generalize unitR (b.drop 6) = v at hr2 hu2 ⊢
                          obtain ⟨m, e2⟩ := v
                          simp only at hr2 ⊢
                          refine Ev.step (f := fun k => (escape_unit.f k (b.drop 6)).bind fun bt248 => (if bt248.2 = 0 then (if n < 56320 then (if (wrap32 (bt248.1)) ≥ 56320 then (if (wrap32 (bt248.1)) ≤ 57343 then (some (wrap32 ((wrap32 ((wrap32 (65536 + (wrap32 ((wrap32 (n - 55296)) * 1024)))) + (wrap32 (bt248.1)))) - 56320), wrap64 (2 * 6), 0)) else (some (65533, 6, 0))) else (some (65533, 6, 0))) else (some (65533, 6, 0))) else (some (65533, 6, 0)))) (fun k => ?_) (Ev.bind hu2 ?_)
                          · simp only [escape_escaped.j0, Bool.false_eq_true, if_false]
                            rw [if_pos (by decide), if_pos (by omega)]
                            rfl
                          · simp only
                            rw [wrap32_is (i := m) (by omega) (by omega)]
                            by_cases r1 : e2 = 0
                            · by_cases r2 : n < 56320
                              · by_cases r3 : m ≥ 56320
                                · by_cases r4 : m ≤ 57343
                                  · rw [if_pos r1, if_pos r2, if_pos r3, if_pos r4, if_pos ⟨r1, r2, r3, r4⟩]
                                    rw [wrap32_is (i := n - 55296) (by omega) (by omega), wrap32_is (i := (n - 55296) * 1024) (by omega) (by omega), wrap32_is (i := 65536 + (n - 55296) * 1024) (by omega) (by omega), wrap32_is (i := 65536 + (n - 55296) * 1024 + m) (by omega) (by omega), wrap32_is (by omega) (by omega), wrap_nat (i := 2 * 6) (by decide) (by decide)]
                                    exact Ev.now _
                                  · rw [if_pos r1, if_pos r2, if_pos r3, if_neg r4, if_neg (fun h => r4 h.2.2.2)]; exact Ev.now _
                                · rw [if_pos r1, if_pos r2, if_neg r3, if_neg (fun h => r3 h.2.2.1)]; exact Ev.now _
                              · rw [if_pos r1, if_neg r2, if_neg (fun h => r2 h.2.1)]; exact Ev.now _
                            · rw [if_neg r1, if_neg (fun h => r1 h.1)]; exact Ev.now _
                    · simp only [if_neg he, if_pos (show e ≠ 0 from he)]
                      refine Ev.step (f := fun _ => some (n, 6, e)) (fun k => ?_) (Ev.now _)
                      simp only [escape_escaped.j0, if_true]
end Go.Proofs.YtjioglaobabmmaaDoor.Pure
/- The document's escape at a place, and both readers of a string. -/
namespace Go.Proofs.YtjioglaobabmmaaDoor.Pure
open Go.RowKit Go.Proofs.YtjioglaobabmmaaDoor.P Go.Proofs.YtjioglaobabmmaaDoorW.PrintWords
set_option linter.unusedVariables false
set_option linter.unusedSimpArgs false
theorem unitR_at (l : List Int) (j : Nat) : if j + 1 < l.length ∧ rd l (j : Int) = 92 ∧ rd l ((j + 1 : Nat) : Int) = 117 then unitR (l.drop j) = fourR 4 (l.drop (j + 2)) 0 else (unitR (l.drop j)).2 ≠ 0 := by
  by_cases h0 : j < l.length
  · rw [drop_rd h0]
    by_cases h1 : j + 1 < l.length
    · rw [drop_rd h1]
      by_cases a : rd l (j : Int) = 92
      · by_cases b : rd l ((j + 1 : Nat) : Int) = 117
        · rw [if_pos ⟨h1, a, b⟩]
          simp only [unitR, a, b, if_true]
        · rw [if_neg (fun h => b h.2.2)]
          simp only [unitR, a, if_true, if_neg b]
          decide
      · rw [if_neg (fun h => a h.2.1)]
        simp only [unitR, if_neg a]
        decide
    · rw [if_neg (fun h => h1 h.1), show l.drop (j + 1) = [] from List.drop_eq_nil_of_le (by omega)]
      simp only [unitR]
      split <;> decide
  · rw [if_neg (by omega), List.drop_eq_nil_of_le (by omega)]
    simp only [unitR]
    decide
theorem long_ev (c : Int) (h0 : 0 ≤ c) (h1 : c ≤ 255) : Ev (fun k => colophonref08_long.f k c) (match letR c with | some v => v | none => -1) := by
  obtain ⟨n, rfl⟩ := Int.eq_ofNat_of_zero_le h0
  have : ∀ n : Nat, n < 256 → colophonref08_long.f 1 (n : Int) = some (match letR (n : Int) with | some v => v | none => -1) := by decide +kernel
  exact Ev.of (fun k => colophonref08_long.mono _ k) (this n (by omega))
theorem letR_nonneg {c v : Int} (h0 : 0 ≤ c) (h : letR c = some v) : 0 ≤ v := by
  unfold letR at h
  repeat' split at h
  all_goals (cases h <;> omega)
theorem ref_esc (l : List Int) (hb : Bytes l) (hl : l.length ≤ 140737488355328) (i : Nat) (hi : i < l.length) (h92 : rd l (i : Int) = 92) :
    ∃ r, Ev (fun k => colophonref08_escape.f k l i) r ∧ r.2.2 = (escR (l.drop i)).2.2 ∧ (r.2.2 = 0 → r = escR (l.drop i)) := by
  unfold colophonref08_escape.f escR
  have w1 : wrap64 ((i : Int) + 1) = ((i + 1 : Nat) : Int) := by rw [wrap_nat (by omega) (by omega)]; rfl
  have w2 : wrap64 ((i : Int) + 2) = ((i + 2 : Nat) : Int) := by rw [wrap_nat (by omega) (by omega)]; rfl
  have w6 : wrap64 ((i : Int) + 6) = ((i + 6 : Nat) : Int) := by rw [wrap_nat (by omega) (by omega)]; rfl
  have w7 : wrap64 ((i : Int) + 7) = ((i + 7 : Nat) : Int) := by rw [wrap_nat (by omega) (by omega)]; rfl
  have w8 : wrap64 ((i : Int) + 8) = ((i + 8 : Nat) : Int) := by rw [wrap_nat (by omega) (by omega)]; rfl
  simp only [w1, w2]
  by_cases h1 : i + 1 < l.length
  · simp only [if_neg (show ¬ (((i + 1 : Nat) : Int) ≥ (l.length : Int)) by omega), if_pos (show (0 : Int) ≤ ((i + 1 : Nat) : Int) by omega), if_pos (show ((i + 1 : Nat) : Int) < (l.length : Int) by omega), if_neg (show ¬ (l.drop i).length < 2 by rw [List.length_drop]; omega)]
    have hrd : rd (l.drop i) 1 = rd l ((i + 1 : Nat) : Int) := by
      rw [drop_rd hi, drop_rd h1]; rfl
    rw [hrd]
    have hby := rd_byte hb h1
    have hU := unitR_at l i
    by_cases c : rd l ((i + 1 : Nat) : Int) = 117
    · rw [if_pos ⟨h1, h92, c⟩] at hU
      simp only [if_pos c]
      rw [c, show letR 117 = none from by decide]
      simp only
      rw [hU]
      have hr := fourR_range 4 (l.drop (i + 2)) 0 1 (by decide) (by decide) (by decide)
      have hf : Ev (fun k => colophonref08_four.f k l ((i + 2 : Nat) : Int)) (fourR 4 (l.drop (i + 2)) 0) := by
        have := four_ev l hb (i + 2) (by omega) 4 0 0 rfl (by decide) (by decide)
        simpa [colophonref08_four.f] using this
      generalize fourR 4 (l.drop (i + 2)) 0 = u at hr hf ⊢
      obtain ⟨n, e⟩ := u
      simp only at hr ⊢
      have hr' : 0 ≤ n ∧ n < 65536 := by simpa using hr
      by_cases he : e = 0
      · subst he
        simp only [ne_eq, not_true_eq_false, if_false]
        by_cases q : n < 55296 ∨ 57343 < n
        · simp only [if_pos q]
          refine ⟨(n, 6, 0), Ev.bind hf ?_, rfl, fun _ => rfl⟩
          simp only [if_true]
          by_cases q1 : n < 55296
          · simp only [if_pos q1]
            refine Ev.step (f := fun _ => some (n, 6, 0)) (fun k => ?_) (Ev.now _)
            simp only [colophonref08_escape.j0, if_true]
          · simp only [if_neg q1, decide_eq_true (show n > 57343 by omega)]
            refine Ev.step (f := fun _ => some (n, 6, 0)) (fun k => ?_) (Ev.now _)
            simp only [colophonref08_escape.j0, if_true]
        · simp only [if_neg q]
          have hd6 : (l.drop i).drop 6 = l.drop (i + 6) := by rw [List.drop_drop]
          rw [hd6]
          have hV := unitR_at l (i + 6)
          -- what the document does from here
          have fin : ∀ r : Int × Int × Int, Ev (fun k => colophonref08_escape.j0 k l i n false) r → Ev (fun n_1 => (fun bt285 : Int × Int => if bt285.2 = 0 then if bt285.1 < 55296 then colophonref08_escape.j0 n_1 l (↑i) bt285.1 true else colophonref08_escape.j0 n_1 l (↑i) bt285.1 (decide (bt285.1 > 57343)) else some (0, 0, bt285.2)) (n, 0)) r := by
            intro r hr
            simp only [if_true, if_neg (show ¬ n < 55296 by omega), decide_eq_false (show ¬ n > 57343 by omega)]
            exact hr
          have lone : Ev (fun k => colophonref08_escape.j1 k l i n false) (65533, 6, 0) := by
            refine Ev.step (f := fun _ => some (65533, 6, 0)) (fun k => ?_) (Ev.now _)
            simp only [colophonref08_escape.j1, Bool.false_eq_true, if_false]
          by_cases p : i + 7 < l.length ∧ rd l ((i + 6 : Nat) : Int) = 92 ∧ rd l ((i + 7 : Nat) : Int) = 117
          · rw [if_pos (show i + 6 + 1 < l.length ∧ rd l ((i + 6 : Nat) : Int) = 92 ∧ rd l ((i + 6 + 1 : Nat) : Int) = 117 from p)] at hV
            rw [hV]
            have hf2 : Ev (fun k => colophonref08_four.f k l ((i + 8 : Nat) : Int)) (fourR 4 (l.drop (i + 6 + 2)) 0) := by
              have := four_ev l hb (i + 8) (by omega) 4 0 0 rfl (by decide) (by decide)
              simpa [colophonref08_four.f] using this
            have hr2 := fourR_range 4 (l.drop (i + 6 + 2)) 0 1 (by decide) (by decide) (by decide)
            generalize fourR 4 (l.drop (i + 6 + 2)) 0 = v at hf2 hr2 ⊢
            obtain ⟨m, e2⟩ := v
            have hr2' : 0 ≤ m ∧ m < 65536 := by simpa using hr2
            simp only
            by_cases q3 : n ≤ 56319
            · have go : ∀ r : Int × Int × Int, Ev (fun k => (fun bt289 : Int × Int => (if bt289.2 = 0 then (if bt289.1 ≥ 56320 then (if bt289.1 ≤ 57343 then (some (wrap64 ((wrap64 ((wrap64 (65536 + (wrap64 (1024 * (wrap64 (n - 55296)))))) + bt289.1)) - 56320), 12, 0)) else (some (65533, 6, 0))) else (some (65533, 6, 0))) else (some ((65533 : Int), (6 : Int), (0 : Int))))) (m, e2)) r → Ev (fun k => colophonref08_escape.j0 k l i n false) r := by
                intro r hr
                refine Ev.step (f := fun k => colophonref08_escape.j1 k l i n true) (fun k => ?_) (Ev.step (f := fun k => (colophonref08_four.f k l ((i + 8 : Nat) : Int)).bind fun bt289 => (if bt289.2 = 0 then (if bt289.1 ≥ 56320 then (if bt289.1 ≤ 57343 then (some (wrap64 ((wrap64 ((wrap64 (65536 + (wrap64 (1024 * (wrap64 (n - 55296)))))) + bt289.1)) - 56320), 12, 0)) else (some (65533, 6, 0))) else (some (65533, 6, 0))) else (some (65533, 6, 0)))) (fun k => ?_) (Ev.bind hf2 hr))
                · simp only [colophonref08_escape.j0, Bool.false_eq_true, if_false]
                  rw [if_pos q3, w7, w6, if_pos (by omega), if_pos (by omega), if_pos (by omega), if_pos p.2.1, if_pos (by omega), p.2.2]
                  rfl
                · simp only [colophonref08_escape.j1, if_true]
                  rw [w8]
              by_cases r1 : e2 = 0
              · by_cases r3 : m ≥ 56320
                · by_cases r4 : m ≤ 57343
                  · rw [if_pos (⟨r1, by omega, r3, r4⟩ : e2 = 0 ∧ n < 56320 ∧ 56320 ≤ m ∧ m ≤ 57343)]
                    refine ⟨_, Ev.bind hf (fin _ (go _ ?_)), rfl, fun _ => rfl⟩
                    simp only [if_pos r1, if_pos r3, if_pos r4]
                    rw [wrap_nat (i := n - 55296) (by omega) (by omega), wrap_nat (i := 1024 * (n - 55296)) (by omega) (by omega), wrap_nat (i := 65536 + 1024 * (n - 55296)) (by omega) (by omega), wrap_nat (i := 65536 + 1024 * (n - 55296) + m) (by omega) (by omega), wrap_nat (by omega) (by omega)]
                    rw [Int.mul_comm 1024]
                    exact Ev.now _
                  · rw [if_neg (fun h => r4 h.2.2.2)]
                    refine ⟨_, Ev.bind hf (fin _ (go _ ?_)), rfl, fun _ => rfl⟩
                    simp only [if_pos r1, if_pos r3, if_neg r4]
                    exact Ev.now _
                · rw [if_neg (fun h => r3 h.2.2.1)]
                  refine ⟨_, Ev.bind hf (fin _ (go _ ?_)), rfl, fun _ => rfl⟩
                  simp only [if_pos r1, if_neg r3]
                  exact Ev.now _
              · rw [if_neg (fun h => r1 h.1)]
                refine ⟨_, Ev.bind hf (fin _ (go _ ?_)), rfl, fun _ => rfl⟩
                simp only [if_neg r1]
                exact Ev.now _
            · rw [if_neg (fun h => by have := h.2.1; omega)]
              refine ⟨_, Ev.bind hf (fin _ (Ev.step (fun k => ?_) lone)), rfl, fun _ => rfl⟩
              simp only [colophonref08_escape.j0, Bool.false_eq_true, if_false]
              rw [if_neg q3]
          · rw [if_neg (show ¬ (i + 6 + 1 < l.length ∧ rd l ((i + 6 : Nat) : Int) = 92 ∧ rd l ((i + 6 + 1 : Nat) : Int) = 117) from p)] at hV
            rw [if_neg (fun h => hV h.1)]
            refine ⟨_, Ev.bind hf (fin _ (Ev.step (fun k => ?_) lone)), rfl, fun _ => rfl⟩
            simp only [colophonref08_escape.j0, Bool.false_eq_true, if_false]
            by_cases q3 : n ≤ 56319
            · rw [if_pos q3, w7, w6]
              by_cases p1 : i + 7 < l.length
              · rw [if_pos (by omega), if_pos (by omega), if_pos (by omega)]
                by_cases p2 : rd l ((i + 6 : Nat) : Int) = 92
                · rw [if_pos p2, if_pos (by omega), beq_eq_false_iff_ne.mpr (fun h => p ⟨p1, p2, h⟩)]
                · rw [if_neg p2]
              · rw [if_neg (by omega)]
            · rw [if_neg q3]
      · simp only [if_pos (show e ≠ 0 from he)]
        refine ⟨(0, 0, e), Ev.bind hf ?_, rfl, fun h => absurd h he⟩
        simp only [if_neg he]
        exact Ev.now _
    · simp only [if_neg c]
      have hlg := long_ev (rd l ((i + 1 : Nat) : Int)) hby.1 hby.2
      cases hlt : letR (rd l ((i + 1 : Nat) : Int)) with
      | some v =>
        rw [hlt] at hlg
        have hv := letR_nonneg hby.1 hlt
        refine ⟨(v, 2, 0), Ev.bind hlg ?_, rfl, fun _ => rfl⟩
        simp only [if_neg (show ¬ v < 0 by omega)]
        exact Ev.now _
      | none =>
        rw [hlt] at hlg
        have hun : unitR (l.drop i) = (0, 80) := by
          rw [drop_rd hi, drop_rd h1]
          simp only [unitR, h92, if_true, if_neg c]
        refine ⟨(0, 0, 80), Ev.bind hlg ?_, ?_, fun h => absurd h (by decide)⟩
        · simp only [show ((-1 : Int) < 0) by decide, if_true]
          exact Ev.now _
        · simp only [hun]
          rw [if_pos (show (80 : Int) ≠ 0 by decide)]
  · simp only [if_pos (show (((i + 1 : Nat) : Int) ≥ (l.length : Int)) by omega), if_pos (show (l.drop i).length < 2 by rw [List.length_drop]; omega)]
    exact ⟨(0, 0, 3), Ev.now _, rfl, fun _ => rfl⟩
end Go.Proofs.YtjioglaobabmmaaDoor.Pure
/- Both readers of a string. -/
namespace Go.Proofs.YtjioglaobabmmaaDoor.Pure
open Go.RowKit Go.Proofs.YtjioglaobabmmaaDoor.P Go.Proofs.YtjioglaobabmmaaDoorW.PrintWords
set_option linter.unusedVariables false
set_option linter.unusedSimpArgs false
theorem toU8_append (a b : List Int) : toU8 (a ++ b) = toU8 a ++ toU8 b := by simp [toU8]
theorem toU8_length (a : List Int) : (toU8 a).length = a.length := by simp [toU8]
theorem strOf_toU8 (a : List Int) : (⟨(toU8 a).toArray⟩ : ByteArray) = strOfNums a := rfl
theorem encodeRune_char (c : Int) (h : isChar c) : Lib.encodeRune c = toU8 (bytesOfChar c) := by
  have hz : Lib.encodeRuneZ c = bytesOfChar c := by
    rw [isChar_iff] at h
    unfold bytesOfChar
    split
    · rw [Lib.encodeRuneZ_one (by omega) (by omega)]
    · split
      · rw [Lib.encodeRuneZ_two (by omega) (by omega)]
      · split
        · rw [Lib.encodeRuneZ_three (by omega)]
        · rw [Lib.encodeRuneZ_four (by omega) (by omega)]
  unfold Lib.encodeRune toU8
  rw [hz]
theorem letR_vals {c v : Int} (h : letR c = some v) : v = 34 ∨ v = 92 ∨ v = 47 ∨ v = 8 ∨ v = 12 ∨ v = 10 ∨ v = 13 ∨ v = 9 := by
  unfold letR at h
  repeat' split at h
  all_goals (cases h <;> omega)
/-- An escape that tells a character: it is one; it has so many bytes; they all stand there. -/
theorem escR_spec (b : List Int) (c n : Int) (h : escR b = (c, n, 0)) : isChar c ∧ 2 ≤ n ∧ n ≤ b.length ∧ (bytesOfChar c).length + 1 ≤ n := by
  unfold escR at h
  split at h
  · exact absurd (congrArg (fun t : Int × Int × Int => t.2.2) h) (by show ¬ ((3 : Int) = 0); decide)
  · rename_i h2
    split at h
    · rename_i v hv
      simp only [Prod.mk.injEq, and_true] at h
      obtain ⟨rfl, rfl⟩ := h
      refine ⟨?_, by decide, by omega, ?_⟩
      · rw [isChar_iff]
        have := letR_vals hv
        omega
      · have := letR_vals hv
        unfold bytesOfChar
        rw [if_pos (by omega)]
        show ((1 : Nat) : Int) + 1 ≤ 2
        decide
    · have hr := unitR_range b
      have hl := unitR_len b
      generalize unitR b = u at h hr hl
      obtain ⟨m, e⟩ := u
      simp only at h hr hl
      split at h
      · rename_i he
        simp only [Prod.mk.injEq] at h
        exact absurd h.2.2 he
      · rename_i he
        have he0 : e = 0 := by simpa using he
        have h6 := hl he0
        split at h
        · rename_i q
          simp only [Prod.mk.injEq, and_true] at h
          obtain ⟨rfl, rfl⟩ := h
          refine ⟨?_, by decide, by omega, ?_⟩
          · rw [isChar_iff]; omega
          · unfold bytesOfChar
            repeat' split
            all_goals (simp only [List.length_cons, List.length_nil]; omega)
        · rename_i q
          have hr2 := unitR_range (b.drop 6)
          have hl2 := unitR_len (b.drop 6)
          generalize unitR (b.drop 6) = v at h hr2 hl2
          obtain ⟨m2, e2⟩ := v
          simp only at h hr2 hl2
          split at h
          · rename_i p
            simp only [Prod.mk.injEq, and_true] at h
            obtain ⟨rfl, rfl⟩ := h
            have := hl2 p.1
            rw [List.length_drop] at this
            refine ⟨?_, by decide, by omega, ?_⟩
            · rw [isChar_iff]; omega
            · unfold bytesOfChar
              repeat' split
              all_goals (simp only [List.length_cons, List.length_nil]; omega)
          · simp only [Prod.mk.injEq, and_true] at h
            obtain ⟨rfl, rfl⟩ := h
            exact ⟨by decide, by decide, by omega, by decide⟩
/-- What the string tells from a place on, ahead of which so much was told. -/
def unqR : Nat → List Int → Nat → List Int → List Int × Int × Int
  | 0, _, _, _ => ([], 0, 3)
  | f + 1, l, i, acc =>
    if i < l.length then
      if rd l i = 34 then (acc, i + 1, 0)
      else if rd l i < 32 then ([], 0, 80)
      else if rd l i = 92 then
        (if (escR (l.drop i)).2.2 = 0 then unqR f l (i + (escR (l.drop i)).2.1.toNat) (acc ++ bytesOfChar (escR (l.drop i)).1) else ([], 0, (escR (l.drop i)).2.2))
      else match dec (l.drop i) with
        | some (c, n) => unqR f l (i + n) (acc ++ bytesOfChar c)
        | none => ([], 0, 10)
    else ([], 0, 3)
set_option maxHeartbeats 1000000 in
theorem unq_both (l : List Int) (hb : Bytes l) (hl : l.length ≤ 140737488351232) (f : Nat) : ∀ (i : Nat) (acc : List Int), l.length ≤ i + f → i ≤ l.length → acc.length ≤ i →
    Ev (fun k => uq k l i (toU8 acc)) (strOfNums (unqR f l i acc).1, (unqR f l i acc).2.1, (unqR f l i acc).2.2) ∧
    Ev (fun k => colophonref08_Unquote.l0 k l i acc) (strOfNums (unqR f l i acc).1, (unqR f l i acc).2.1, (unqR f l i acc).2.2) := by
  have nil : strOfNums [] = (⟨#[]⟩ : ByteArray) := rfl
  induction f with
  | zero =>
    intro i acc hf hi ha
    simp only [unqR, nil]
    refine ⟨Ev.step (f := fun _ => some (⟨#[]⟩, 0, 3)) (fun k => ?_) (Ev.now _), Ev.step (f := fun _ => some (⟨#[]⟩, 0, 3)) (fun k => ?_) (Ev.now _)⟩
    · rw [uq, if_neg (by omega)]
    · simp only [colophonref08_Unquote.l0]; rw [if_pos (by omega)]
  | succ f ih =>
    intro i acc hf hi ha
    rw [unqR]
    by_cases h1 : i < l.length
    · have hw1 : wrap64 ((i : Int) + 1) = (i : Int) + 1 := wrap_nat (by omega) (by omega)
      have P1 : ∀ k, uq (k + 1) l i (toU8 acc) = (if rd l i = 34 then some (⟨(toU8 acc).toArray⟩, wrap64 ((i : Int) + 1), 0)
        else if rd l i < 32 then some (⟨#[]⟩, 0, 80)
        else if rd l i = 92 then
          (escape_escaped.f k (l.drop i)).bind fun t =>
            if t.2.2 = 0 then (if (toU8 acc).length + 4 ≤ 140737488355328 ∧ -2147483648 ≤ t.1 ∧ t.1 ≤ 2147483647 then uq k l (wrap64 ((i : Int) + t.2.1)) (toU8 acc ++ Lib.encodeRune t.1) else none)
            else some (⟨#[]⟩, 0, t.2.2)
        else
          (runes_Decode.f k l i).bind fun t =>
            if t.2.2 = 0 then (if (i : Int) < wrap64 ((i : Int) + t.2.1) ∧ wrap64 ((i : Int) + t.2.1) ≤ (l.length : Int) ∧ (toU8 acc).length + ((l.take (wrap64 ((i : Int) + t.2.1)).toNat).drop i).length ≤ 140737488355328 ∧ (∀ x ∈ (l.take (wrap64 ((i : Int) + t.2.1)).toNat).drop i, 0 ≤ x ∧ x < 256) then uq k l (wrap64 ((i : Int) + t.2.1)) (toU8 acc ++ toU8 ((l.take (wrap64 ((i : Int) + t.2.1)).toNat).drop i)) else none)
            else some (⟨#[]⟩, 0, 10)) := by
        intro k
        rw [uq, if_pos (by omega), if_pos (by omega)]
        simp only [Int.toNat_natCast]
      have P2 : ∀ k, colophonref08_Unquote.l0 (k + 1) l i acc = (if (rd l i) = 34 then (some (strOfNums acc, wrap64 ((i : Int) + 1), 0)) else (if (rd l i) < 32 then (some ((⟨#[]⟩ : ByteArray), 0, 80)) else (if (rd l i) = 92 then ((colophonref08_escape.f k l i).bind fun bt295 => (if bt295.2.2 = 0 then ((colophonref01_Encode.f bt295.1).bind fun bt298 => (if acc.length + bt298.1.length < 140737488355328 then (colophonref08_Unquote.l0 k l (wrap64 ((i : Int) + bt295.2.1)) (acc ++ bt298.1)) else (none))) else (some ((⟨#[]⟩ : ByteArray), 0, bt295.2.2)))) else ((colophonref01_Decode.f k l i).bind fun bt305 => (if bt305.2.2 = 0 then (if (i : Int) ≤ (wrap64 ((i : Int) + bt305.2.1)) then (if (wrap64 ((i : Int) + bt305.2.1)) ≤ (l.length : Int) then (if acc.length + ((l.take ((wrap64 ((i : Int) + bt305.2.1)) : Int).toNat).drop i).length < 140737488355328 then (colophonref08_Unquote.l0 k l (wrap64 ((i : Int) + bt305.2.1)) (acc ++ ((l.take ((wrap64 ((i : Int) + bt305.2.1)) : Int).toNat).drop i))) else (none)) else (none)) else (none)) else (some ((⟨#[]⟩ : ByteArray), 0, 10))))))) := by
        intro k
        simp only [colophonref08_Unquote.l0]
        rw [if_neg (by omega), if_pos (by omega), if_pos (by omega)]
        simp only [Int.toNat_natCast]
      simp only [if_pos h1]
      by_cases q1 : rd l i = 34
      · simp only [if_pos q1]
        refine ⟨Ev.step (f := fun _ => some (strOfNums acc, (i : Int) + 1, 0)) (fun k => ?_) (Ev.now _), Ev.step (f := fun _ => some (strOfNums acc, (i : Int) + 1, 0)) (fun k => ?_) (Ev.now _)⟩
        · rw [P1, if_pos q1, hw1, strOf_toU8]
        · rw [P2, if_pos q1, hw1]
      · simp only [if_neg q1]
        by_cases q2 : rd l i < 32
        · simp only [if_pos q2, nil]
          refine ⟨Ev.step (f := fun _ => some (⟨#[]⟩, 0, 80)) (fun k => ?_) (Ev.now _), Ev.step (f := fun _ => some (⟨#[]⟩, 0, 80)) (fun k => ?_) (Ev.now _)⟩
          · rw [P1, if_neg q1, if_pos q2]
          · rw [P2, if_neg q1, if_pos q2]
        · simp only [if_neg q2]
          by_cases q3 : rd l i = 92
          · simp only [if_pos q3]
            have he := escaped_ev (l.drop i) (hb.drop i) (by rw [List.length_drop]; omega)
            obtain ⟨r, hr, hr1, hr2⟩ := ref_esc l hb (by omega) i h1 q3
            have hs := escR_spec (l.drop i)
            generalize escR (l.drop i) = u at he hr1 hr2 hs ⊢
            obtain ⟨c, n, e⟩ := u
            simp only at hr1 hr2 ⊢
            by_cases e0 : e = 0
            · subst e0
              obtain ⟨hc, hn2, hnl, hbl⟩ := hs c n rfl
              rw [List.length_drop] at hnl
              obtain ⟨m, rfl⟩ := Int.eq_ofNat_of_zero_le (show 0 ≤ n by omega)
              rw [hr2 hr1] at hr
              clear hr2 hr1 hs
              simp only [if_true, Int.toNat_natCast]
              have hwn : wrap64 ((i : Int) + (m : Int)) = ((i + m : Nat) : Int) := by rw [wrap_nat (by omega) (by omega)]; rfl
              obtain ⟨ih1, ih2⟩ := ih (i + m) (acc ++ bytesOfChar c) (by omega) (by omega) (by rw [List.length_append]; omega)
              have hcc := (isChar_iff c).mp hc
              refine ⟨Ev.step (fun k => by rw [P1, if_neg q1, if_neg q2, if_pos q3]) (Ev.bind he ?_), Ev.step (fun k => by rw [P2, if_neg q1, if_neg q2, if_pos q3]) (Ev.bind hr ?_)⟩
              · simp only [if_true]
                simp only [if_pos (show (toU8 acc).length + 4 ≤ 140737488355328 ∧ -2147483648 ≤ c ∧ c ≤ 2147483647 by rw [toU8_length]; omega), hwn]
                rw [encodeRune_char c hc, ← toU8_append]
                exact ih1
              · simp only [if_true, enc_is, Option.bind_some, hwn, encOf, if_pos hc]
                simp only [if_pos (show acc.length + (bytesOfChar c).length < 140737488355328 by omega)]
                exact ih2
            · obtain ⟨x, y, z⟩ := r
              simp only at hr1
              subst hr1
              simp only [if_neg e0, nil]
              refine ⟨Ev.step (fun k => by rw [P1, if_neg q1, if_neg q2, if_pos q3]) (Ev.bind he ?_), Ev.step (fun k => by rw [P2, if_neg q1, if_neg q2, if_pos q3]) (Ev.bind hr ?_)⟩
              · simp only [if_neg e0]; exact Ev.now _
              · simp only [if_neg e0]; exact Ev.now _
          · simp only [if_neg q3]
            rcases both_dec l hb i h1 with ⟨c, n, h, g1, g4, hn, hc, hx, ha1, hb1⟩ | ⟨h, ⟨e, he, ha1⟩, ⟨e', he', hb1⟩⟩
            · rw [h]
              simp only
              have hwn : wrap64 ((i : Int) + (n : Int)) = ((i + n : Nat) : Int) := by rw [wrap_nat (by omega) (by omega)]; rfl
              have hcut : (l.take (i + n)).drop i = bytesOfChar c := by
                rw [hx, List.drop_take]
                congr 1
                omega
              have hcl : (bytesOfChar c).length = n := by rw [hx, List.length_take, List.length_drop]; omega
              have hby : ∀ x ∈ bytesOfChar c, 0 ≤ x ∧ x < 256 := by
                intro x hx'
                rw [hx] at hx'
                have := (hb.drop i).take n x hx'
                omega
              obtain ⟨ih1, ih2⟩ := ih (i + n) (acc ++ bytesOfChar c) (by omega) (by omega) (by rw [List.length_append]; omega)
              refine ⟨Ev.step (fun k => by rw [P1, if_neg q1, if_neg q2, if_neg q3]) (Ev.bind ha1 ?_), Ev.step (fun k => by rw [P2, if_neg q1, if_neg q2, if_neg q3]) (Ev.bind hb1 ?_)⟩
              · simp only [if_true, hwn, Int.toNat_natCast, hcut]
                simp only [if_pos (show ((i : Int) < ((i + n : Nat) : Int) ∧ ((i + n : Nat) : Int) ≤ (l.length : Int) ∧ (toU8 acc).length + (bytesOfChar c).length ≤ 140737488355328 ∧ ∀ x ∈ bytesOfChar c, 0 ≤ x ∧ x < 256) from ⟨by omega, by omega, by rw [toU8_length]; omega, hby⟩)]
                rw [← toU8_append]
                exact ih1
              · simp only [if_true, hwn, Int.toNat_natCast, hcut]
                simp only [if_pos (show (i : Int) ≤ ((i + n : Nat) : Int) by omega), if_pos (show ((i + n : Nat) : Int) ≤ (l.length : Int) by omega), if_pos (show acc.length + (bytesOfChar c).length < 140737488355328 by omega)]
                exact ih2
            · rw [h]
              simp only [nil]
              refine ⟨Ev.step (fun k => by rw [P1, if_neg q1, if_neg q2, if_neg q3]) (Ev.bind ha1 ?_), Ev.step (fun k => by rw [P2, if_neg q1, if_neg q2, if_neg q3]) (Ev.bind hb1 ?_)⟩
              · simp only [if_neg he]; exact Ev.now _
              · simp only [if_neg he']; exact Ev.now _
    · simp only [if_neg h1, nil]
      refine ⟨Ev.step (f := fun _ => some (⟨#[]⟩, 0, 3)) (fun k => ?_) (Ev.now _), Ev.step (f := fun _ => some (⟨#[]⟩, 0, 3)) (fun k => ?_) (Ev.now _)⟩
      · rw [uq, if_neg (by omega)]
      · simp only [colophonref08_Unquote.l0]; rw [if_pos (by omega)]
/-- What the string at a place tells. -/
def unquoteR (l : List Int) (a : Int) : List Int × Int × Int :=
  if a < 0 then ([], 0, 9) else if a > (l.length : Int) then ([], 0, 9) else if a = (l.length : Int) then ([], 0, 3)
  else if rd l a = 34 then unqR l.length l (a.toNat + 1) [] else ([], 0, 80)
theorem unquote_both (l : List Int) (hb : Bytes l) (hl : l.length ≤ 140737488351232) (a : Int) :
    Ev (fun k => escape_Unquote.f k l a) (strOfNums (unquoteR l a).1, (unquoteR l a).2.1, (unquoteR l a).2.2) ∧ Ev (fun k => colophonref08_Unquote.f k l a) (strOfNums (unquoteR l a).1, (unquoteR l a).2.1, (unquoteR l a).2.2) := by
  have nil : strOfNums [] = (⟨#[]⟩ : ByteArray) := rfl
  unfold escape_Unquote.f colophonref08_Unquote.f unquoteR
  by_cases c1 : a < 0
  · simp only [if_pos c1, nil]
    refine ⟨Ev.now _, Ev.step (f := fun _ => some (⟨#[]⟩, 0, 9)) (fun k => ?_) (Ev.now _)⟩
    simp only [colophonref08_Unquote.j0, if_true]
  · simp only [if_neg c1]
    by_cases c2 : a > (l.length : Int)
    · simp only [if_pos c2, nil, decide_eq_true c2]
      refine ⟨Ev.now _, Ev.step (f := fun _ => some (⟨#[]⟩, 0, 9)) (fun k => ?_) (Ev.now _)⟩
      simp only [colophonref08_Unquote.j0, if_true]
    · simp only [if_neg c2, decide_eq_false c2]
      by_cases c3 : a = (l.length : Int)
      · simp only [if_pos c3, nil]
        refine ⟨Ev.now _, Ev.step (f := fun _ => some (⟨#[]⟩, 0, 3)) (fun k => ?_) (Ev.now _)⟩
        simp only [colophonref08_Unquote.j0, Bool.false_eq_true, if_false]
        rw [if_pos c3]
      · simp only [if_neg c3]
        obtain ⟨i, rfl⟩ := Int.eq_ofNat_of_zero_le (show 0 ≤ a by omega)
        have hw : wrap64 ((i : Int) + 1) = ((i + 1 : Nat) : Int) := by rw [wrap_nat (by omega) (by omega)]; rfl
        by_cases c4 : rd l (i : Int) = 34
        · simp only [if_pos c4, hw, Int.toNat_natCast]
          obtain ⟨h1, h2⟩ := unq_both l hb hl l.length (i + 1) [] (by omega) (by omega) (by simp)
          refine ⟨h1, Ev.step (fun k => ?_) h2⟩
          simp only [colophonref08_Unquote.j0, Bool.false_eq_true, if_false]
          rw [if_neg c3, if_pos (by omega), if_pos (by omega), if_pos c4, hw]
        · simp only [if_neg c4, nil]
          refine ⟨Ev.now _, Ev.step (f := fun _ => some (⟨#[]⟩, 0, 80)) (fun k => ?_) (Ev.now _)⟩
          simp only [colophonref08_Unquote.j0, Bool.false_eq_true, if_false]
          rw [if_neg c3, if_pos (by omega), if_pos (by omega), if_neg c4]
end Go.Proofs.YtjioglaobabmmaaDoor.Pure
/- The chapter's examples hold. -/
namespace Go.Proofs.YtjioglaobabmmaaDoor.Pure
open Go.RowKit Go.Proofs.YtjioglaobabmmaaDoor.P Go.Proofs.YtjioglaobabmmaaDoorW.PrintWords
set_option linter.unusedVariables false
set_option linter.unusedSimpArgs false
theorem awake_true : colophonlaw08_awake.f 60 = some true := by decide +kernel
theorem awake_ev : Ev (fun k => (colophonlaw08_awake.f k).bind fun t => some t) true :=
  Ev.bind (Ev.of (fun k => colophonlaw08_awake.mono k) awake_true) (Ev.now true)
theorem copy_some (l : List Int) (h : l.length * 1 ≤ 140737488351232) : colophonref00_CopyBytes.f l = some l := by
  unfold colophonref00_CopyBytes.f
  rw [if_pos (by simp; omega)]
  simp
end Go.Proofs.YtjioglaobabmmaaDoor.Pure
