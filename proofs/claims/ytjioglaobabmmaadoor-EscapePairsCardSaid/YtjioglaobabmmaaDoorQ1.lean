/- Plain facts on UTF-8: what stands at a place; runes.Decode says it. -/
import Derived.Test.YtjioglaobabmmaaDoorP1
import Derived.Laws.BitsLemmas
import Derived.DataShut
namespace Go.Proofs.YtjioglaobabmmaaDoor.Pure
open Go.RowKit Go.Proofs.YtjioglaobabmmaaDoor.P Go.Proofs.YtjioglaobabmmaaDoorW.PrintWords
set_option linter.unusedVariables false
set_option linter.unusedSimpArgs false

theorem wrap_nat {i : Int} (h0 : -9223372036854775808 ≤ i) (h : i < 9223372036854775808) : wrap64 i = i := by unfold wrap64; omega
theorem wrap32_is {i : Int} (h0 : -2147483648 ≤ i) (h : i < 2147483648) : wrap32 i = i := by unfold wrap32; omega
theorem int_range {n : Int} (h : (Lit.int .i64 n).wf = true) : -9223372036854775808 ≤ n ∧ n ≤ 9223372036854775807 := by
  have := (Lit.wf_int_iff _ _).1 h
  simpa [IntKind.min, IntKind.max, IntKind.bits, IntKind.signed] using this
theorem byte_range {n : Int} (h : (Lit.int .u8 n).wf = true) : 0 ≤ n ∧ n ≤ 255 := by
  have := (Lit.wf_int_iff _ _).1 h
  simpa [IntKind.min, IntKind.max, IntKind.bits, IntKind.signed] using this
theorem wraps_i64 (n : Int) (h₀ : 0 ≤ n) (h₁ : n < 2 ^ 63) : IntKind.i64.wrap n = n := by rw [IntKind.wrap_i64]; omega
theorem i64_or6 {x y : Int} (hx₀ : 0 ≤ x) (hx : x % 64 = 0) (hx₁ : x < 9223372036854775808) (h₀ : 0 ≤ y) (h₁ : y < 64) : Go.bits .or .i64 x y = x + y :=
  bits_join .i64 63 (by decide) wraps_i64 6 x y hx₀ hx hx₁ h₀ h₁ (by omega)
theorem i64_or4 {x y : Int} (hx₀ : 0 ≤ x) (hx : x % 16 = 0) (hx₁ : x < 9223372036854775808) (h₀ : 0 ≤ y) (h₁ : y < 16) : Go.bits .or .i64 x y = x + y :=
  bits_join .i64 63 (by decide) wraps_i64 4 x y hx₀ hx hx₁ h₀ h₁ (by omega)
theorem i64_or10 {x y : Int} (hx₀ : 0 ≤ x) (hx : x % 1024 = 0) (hx₁ : x < 9223372036854775808) (h₀ : 0 ≤ y) (h₁ : y < 1024) : Go.bits .or .i64 x y = x + y :=
  bits_join .i64 63 (by decide) wraps_i64 10 x y hx₀ hx hx₁ h₀ h₁ (by omega)

/-- Bytes. -/
def Bytes (l : List Int) : Prop := ∀ x ∈ l, 0 ≤ x ∧ x ≤ 255
theorem Bytes.cons {a : Int} {l : List Int} (h : Bytes (a :: l)) : (0 ≤ a ∧ a ≤ 255) ∧ Bytes l := ⟨h a (by simp), fun x hx => h x (by simp [hx])⟩
theorem Bytes.drop {l : List Int} (h : Bytes l) (n : Nat) : Bytes (l.drop n) := fun x hx => h x (List.mem_of_mem_drop hx)
theorem Bytes.take {l : List Int} (h : Bytes l) (n : Nat) : Bytes (l.take n) := fun x hx => h x (List.mem_of_mem_take hx)
def lowOf (b : Int) : Int := if b = 224 then 160 else if b = 240 then 144 else 128
def highOf (b : Int) : Int := if b = 237 then 159 else if b = 244 then 143 else 191
/-- The character that bytes begin with, and how many bytes it has. -/
def dec : List Int → Option (Int × Nat)
  | [] => none
  | b0 :: t =>
    if b0 < 128 then some (b0, 1)
    else if b0 < 194 then none
    else if b0 > 244 then none
    else if b0 < 224 then match t with
      | b1 :: _ => if 128 ≤ b1 ∧ b1 ≤ 191 then some ((b0 - 192) * 64 + (b1 - 128), 2) else none
      | _ => none
    else if b0 < 240 then match t with
      | b1 :: b2 :: _ => if lowOf b0 ≤ b1 ∧ b1 ≤ highOf b0 ∧ 128 ≤ b2 ∧ b2 ≤ 191 then some ((b0 - 224) * 4096 + (b1 - 128) * 64 + (b2 - 128), 3) else none
      | _ => none
    else match t with
      | b1 :: b2 :: b3 :: _ => if lowOf b0 ≤ b1 ∧ b1 ≤ highOf b0 ∧ 128 ≤ b2 ∧ b2 ≤ 191 ∧ 128 ≤ b3 ∧ b3 ≤ 191 then some ((b0 - 240) * 262144 + (b1 - 128) * 4096 + (b2 - 128) * 64 + (b3 - 128), 4) else none
      | _ => none
/-- Which of its three answers a decoder gives: the character, or some fault. -/
def DecIs (o : Option (Int × Nat)) (r : Int × Int × Int) : Prop := match o with
  | some (c, n) => r = (c, (n : Int), 0)
  | none => r.1 = 0 ∧ r.2.1 = 0 ∧ r.2.2 ≠ 0
def formOf (b0 : Int) : Int × Int × Int × Int :=
  if b0 < 128 then (1, 127, 128, 191) else if b0 < 194 then (0, 0, 0, 0) else if b0 > 244 then (0, 0, 0, 0)
  else if b0 < 224 then (2, 31, 128, 191) else if b0 < 240 then (3, 15, lowOf b0, highOf b0) else (4, 7, lowOf b0, highOf b0)
theorem form_ev (b0 : Int) : Ev (fun k => runes_form.f k b0) (formOf b0) := by
  unfold runes_form.f formOf
  by_cases h1 : b0 < 128
  · simp only [if_pos h1]; exact Ev.now _
  · simp only [if_neg h1]
    by_cases h2 : b0 < 194
    · simp only [if_pos h2]
      refine Ev.step (f := fun _ => some (0, 0, 0, 0)) (fun k => ?_) (Ev.now _)
      simp only [runes_form.j0, if_true]
    · simp only [if_neg h2]
      by_cases h3 : b0 > 244
      · simp only [if_pos h3]
        refine Ev.step (f := fun _ => some (0, 0, 0, 0)) (fun k => ?_) (Ev.now _)
        simp [runes_form.j0, h3]
      · simp only [if_neg h3]
        refine Ev.step (f := fun _ => some (if b0 < 224 then (2, 31, 128, 191) else if b0 < 240 then (3, 15, lowOf b0, highOf b0) else (4, 7, lowOf b0, highOf b0))) (fun k => ?_) (Ev.now _)
        have h3' : ¬ (244 < b0) := h3
        simp only [runes_form.j0, h3, decide_false, Bool.false_eq_true, if_false]
        by_cases h4 : b0 < 224
        · simp only [if_pos h4]
        · simp only [if_neg h4]
          by_cases h5 : b0 < 240
          · simp only [if_pos h5, lowOf, highOf]
            by_cases e1 : b0 = 224
            · subst e1; rfl
            · by_cases e2 : b0 = 237
              · subst e2; rfl
              · simp only [if_neg e1, if_neg e2, if_neg (show ¬ b0 = 240 by omega), if_neg (show ¬ b0 = 244 by omega)]
          · simp only [if_neg h5, lowOf, highOf]
            by_cases e1 : b0 = 240
            · subst e1; rfl
            · by_cases e2 : b0 = 244
              · subst e2; rfl
              · simp only [if_neg e1, if_neg e2, if_neg (show ¬ b0 = 224 by omega), if_neg (show ¬ b0 = 237 by omega)]
theorem l0_end (c s : Int) (rest : List Int) (lo hi : Int) : Ev (fun k => runes_Decode.l0 k c s rest lo hi s) (c, s, 0) := by
  refine Ev.step (f := fun _ => some (c, s, 0)) (fun k => ?_) (Ev.now _)
  simp only [runes_Decode.l0]
  rw [if_neg (by omega)]
theorem l0_trunc (c s : Int) (rest : List Int) (lo hi i : Int) (h : i < s) (hl : i = (rest.length : Int)) : Ev (fun k => runes_Decode.l0 k c s rest lo hi i) (0, 0, 3) := by
  refine Ev.step (f := fun _ => some (0, 0, 3)) (fun k => ?_) (Ev.now _)
  simp only [runes_Decode.l0]
  rw [if_pos h, if_pos hl]
theorem l0_bad (c s : Int) (rest : List Int) (lo hi i : Int) (h0 : 0 ≤ i) (h : i < s) (hl : i < (rest.length : Int)) (hb : rd rest i < lo ∨ hi < rd rest i) : Ev (fun k => runes_Decode.l0 k c s rest lo hi i) (0, 0, 10) := by
  refine Ev.step (f := fun _ => some (0, 0, 10)) (fun k => ?_) (Ev.now _)
  simp only [runes_Decode.l0]
  rw [if_pos h, if_neg (by omega), if_pos h0, if_pos hl]
  by_cases h1 : rd rest i < lo
  · rw [if_pos h1]
  · rw [if_neg h1, if_pos (by omega)]
theorem l0_go (c s : Int) (rest : List Int) (lo hi i b : Int) (hrd : rd rest i = b) (h0 : 0 ≤ i) (h : i < s) (hs : s ≤ 4) (hl : i < (rest.length : Int)) (h1 : lo ≤ b) (h2 : b ≤ hi) (hr0 : 0 ≤ b) (hr1 : b ≤ 255) (hc0 : 0 ≤ c) (hc1 : c < 4294967296) (r : Int × Int × Int)
    (k : Ev (fun k => runes_Decode.l0 k (c * 64 + b % 64) s rest 128 191 (i + 1)) r) : Ev (fun k => runes_Decode.l0 k c s rest lo hi i) r := by
  subst hrd
  refine Ev.step (f := fun k => runes_Decode.l0 k (c * 64 + rd rest i % 64) s rest 128 191 (i + 1)) (fun k => ?_) k
  simp only [runes_Decode.l0]
  rw [if_pos h, if_neg (by omega), if_pos h0, if_pos hl, if_neg (by omega), if_neg (by omega)]
  rw [u8_and63 _ hr0 (by omega), wrap_nat (i := c * 64) (by omega) (by omega), wrap_nat (i := rd rest i % 64) (by omega) (by omega), i64_or6 (by omega) (by omega) (by omega) (by omega) (by omega), wrap_nat (i := i + 1) (by omega) (by omega)]
theorem rd0 (a : Int) (t : List Int) : rd (a :: t) 0 = a := rfl
theorem rd1 (a b : Int) (t : List Int) : rd (a :: b :: t) 1 = b := rfl
theorem rd2 (a b c : Int) (t : List Int) : rd (a :: b :: c :: t) 2 = c := rfl
theorem rd3 (a b c d : Int) (t : List Int) : rd (a :: b :: c :: d :: t) 3 = d := rfl
theorem bad3 : DecIs none (0, 0, 3) := ⟨rfl, rfl, by decide⟩
theorem bad10 : DecIs none (0, 0, 10) := ⟨rfl, rfl, by decide⟩
/-- The loop, at a form of two, three, four bytes. -/
theorem runes_tail (b0 : Int) (t : List Int) (hb : Bytes (b0 :: t)) :
    ∃ r, Ev (fun k => (if (formOf b0).1 = 0 then (some (0, 0, 10)) else (runes_Decode.l0 k (wrap64 (Go.bits .and .u8 b0 (formOf b0).2.1)) (formOf b0).1 (b0 :: t) (formOf b0).2.2.1 (formOf b0).2.2.2 1))) r ∧ DecIs (dec (b0 :: t)) r := by
  obtain ⟨⟨g0, g1⟩, ht⟩ := hb.cons
  unfold formOf dec
  by_cases h1 : b0 < 128
  · simp only [if_pos h1]
    refine ⟨(b0, 1, 0), ?_, rfl⟩
    rw [show Go.bits .and .u8 b0 127 = b0 % 128 from bits_mask .u8 8 (by decide) wraps_u8 7 (by decide) b0 g0 (by omega), wrap_nat (by omega) (by omega)]
    have : b0 % 128 = b0 := by omega
    rw [this]
    simpa using l0_end b0 1 (b0 :: t) 128 191
  · simp only [if_neg h1]
    by_cases h2 : b0 < 194
    · simp only [if_pos h2]; exact ⟨_, Ev.now _, bad10⟩
    · simp only [if_neg h2]
      by_cases h3 : b0 > 244
      · simp only [if_pos h3]; exact ⟨_, Ev.now _, bad10⟩
      · simp only [if_neg h3]
        by_cases h4 : b0 < 224
        · simp only [if_pos h4, show ¬ ((2 : Int) = 0) by decide, if_false]
          rw [u8_and31 _ g0 (by omega), wrap_nat (by omega) (by omega)]
          match t, ht with
          | [], _ => exact ⟨_, l0_trunc _ _ _ _ _ _ (by decide) rfl, bad3⟩
          | b1 :: t1, ht =>
            obtain ⟨⟨k0, k1⟩, ht1⟩ := ht.cons
            by_cases c1 : 128 ≤ b1 ∧ b1 ≤ 191
            · simp only [if_pos c1]
              refine ⟨_, l0_go _ _ _ _ _ _ b1 (by rfl) (by decide) (by decide) (by decide) (by simp only [List.length_cons, List.length_nil]; omega) c1.1 c1.2 k0 k1 (by omega) (by omega) _ (l0_end _ 2 _ _ _), ?_⟩
              show (_, _, _) = (_, _, _)
              rw [show b0 % 32 * 64 + b1 % 64 = (b0 - 192) * 64 + (b1 - 128) by omega]
              rfl
            · simp only [if_neg c1]
              exact ⟨_, l0_bad _ _ _ _ _ _ (by decide) (by decide) (by simp only [List.length_cons, List.length_nil]; omega) (by rw [rd1]; omega), bad10⟩
        · simp only [if_neg h4]
          by_cases h5 : b0 < 240
          · simp only [if_pos h5, show ¬ ((3 : Int) = 0) by decide, if_false]
            rw [u8_and15 _ g0 (by omega), wrap_nat (by omega) (by omega)]
            match t, ht with
            | [], _ => exact ⟨_, l0_trunc _ _ _ _ _ _ (by decide) rfl, bad3⟩
            | [b1], ht =>
              obtain ⟨⟨k0, k1⟩, ht1⟩ := ht.cons
              by_cases c1 : lowOf b0 ≤ b1 ∧ b1 ≤ highOf b0
              · exact ⟨_, l0_go _ _ _ _ _ _ b1 (by rfl) (by decide) (by decide) (by decide) (by simp only [List.length_cons, List.length_nil]; omega) c1.1 c1.2 k0 k1 (by omega) (by omega) _ (l0_trunc _ _ _ _ _ _ (by decide) rfl), bad3⟩
              · exact ⟨_, l0_bad _ _ _ _ _ _ (by decide) (by decide) (by simp only [List.length_cons, List.length_nil]; omega) (by rw [rd1]; omega), bad10⟩
            | b1 :: b2 :: t2, ht =>
              obtain ⟨⟨k0, k1⟩, ht1⟩ := ht.cons
              obtain ⟨⟨m0, m1⟩, ht2⟩ := ht1.cons
              by_cases c1 : lowOf b0 ≤ b1 ∧ b1 ≤ highOf b0
              · have hb1 : 128 ≤ b1 ∧ b1 ≤ 191 := by
                  have := c1.1; have := c1.2; unfold lowOf at *; unfold highOf at *; split at * <;> split at * <;> omega
                by_cases c2 : 128 ≤ b2 ∧ b2 ≤ 191
                · simp only [if_pos (show lowOf b0 ≤ b1 ∧ b1 ≤ highOf b0 ∧ 128 ≤ b2 ∧ b2 ≤ 191 from ⟨c1.1, c1.2, c2⟩)]
                  refine ⟨_, l0_go _ _ _ _ _ _ b1 (by rfl) (by decide) (by decide) (by decide) (by simp only [List.length_cons, List.length_nil]; omega) c1.1 c1.2 k0 k1 (by omega) (by omega) _ (l0_go _ _ _ _ _ _ b2 (by rfl) (by decide) (by decide) (by decide) (by simp only [List.length_cons, List.length_nil]; omega) c2.1 c2.2 m0 m1 (by omega) (by omega) _ (l0_end _ 3 _ _ _)), ?_⟩
                  show (_, _, _) = (_, _, _)
                  rw [show (b0 % 16 * 64 + b1 % 64) * 64 + b2 % 64 = (b0 - 224) * 4096 + (b1 - 128) * 64 + (b2 - 128) by omega]
                  rfl
                · simp only [if_neg (show ¬ (lowOf b0 ≤ b1 ∧ b1 ≤ highOf b0 ∧ 128 ≤ b2 ∧ b2 ≤ 191) from fun h => c2 h.2.2)]
                  exact ⟨_, l0_go _ _ _ _ _ _ b1 (by rfl) (by decide) (by decide) (by decide) (by simp only [List.length_cons, List.length_nil]; omega) c1.1 c1.2 k0 k1 (by omega) (by omega) _ (l0_bad _ _ _ _ _ _ (by decide) (by decide) (by simp only [List.length_cons, List.length_nil]; omega) (by rw [show (1 : Int) + 1 = 2 from rfl, rd2]; omega)), bad10⟩
              · simp only [if_neg (show ¬ (lowOf b0 ≤ b1 ∧ b1 ≤ highOf b0 ∧ 128 ≤ b2 ∧ b2 ≤ 191) from fun h => c1 ⟨h.1, h.2.1⟩)]
                exact ⟨_, l0_bad _ _ _ _ _ _ (by decide) (by decide) (by simp only [List.length_cons, List.length_nil]; omega) (by rw [rd1]; omega), bad10⟩
          · simp only [if_neg h5, show ¬ ((4 : Int) = 0) by decide, if_false]
            rw [u8_and7 _ g0 (by omega), wrap_nat (by omega) (by omega)]
            match t, ht with
            | [], _ => exact ⟨_, l0_trunc _ _ _ _ _ _ (by decide) rfl, bad3⟩
            | [b1], ht =>
              obtain ⟨⟨k0, k1⟩, ht1⟩ := ht.cons
              by_cases c1 : lowOf b0 ≤ b1 ∧ b1 ≤ highOf b0
              · exact ⟨_, l0_go _ _ _ _ _ _ b1 (by rfl) (by decide) (by decide) (by decide) (by simp only [List.length_cons, List.length_nil]; omega) c1.1 c1.2 k0 k1 (by omega) (by omega) _ (l0_trunc _ _ _ _ _ _ (by decide) rfl), bad3⟩
              · exact ⟨_, l0_bad _ _ _ _ _ _ (by decide) (by decide) (by simp only [List.length_cons, List.length_nil]; omega) (by rw [rd1]; omega), bad10⟩
            | [b1, b2], ht =>
              obtain ⟨⟨k0, k1⟩, ht1⟩ := ht.cons
              obtain ⟨⟨m0, m1⟩, ht2⟩ := ht1.cons
              by_cases c1 : lowOf b0 ≤ b1 ∧ b1 ≤ highOf b0
              · by_cases c2 : 128 ≤ b2 ∧ b2 ≤ 191
                · exact ⟨_, l0_go _ _ _ _ _ _ b1 (by rfl) (by decide) (by decide) (by decide) (by simp only [List.length_cons, List.length_nil]; omega) c1.1 c1.2 k0 k1 (by omega) (by omega) _ (l0_go _ _ _ _ _ _ b2 (by rfl) (by decide) (by decide) (by decide) (by simp only [List.length_cons, List.length_nil]; omega) c2.1 c2.2 m0 m1 (by omega) (by omega) _ (l0_trunc _ _ _ _ _ _ (by decide) rfl)), bad3⟩
                · exact ⟨_, l0_go _ _ _ _ _ _ b1 (by rfl) (by decide) (by decide) (by decide) (by simp only [List.length_cons, List.length_nil]; omega) c1.1 c1.2 k0 k1 (by omega) (by omega) _ (l0_bad _ _ _ _ _ _ (by decide) (by decide) (by simp only [List.length_cons, List.length_nil]; omega) (by rw [show (1 : Int) + 1 = 2 from rfl, rd2]; omega)), bad10⟩
              · exact ⟨_, l0_bad _ _ _ _ _ _ (by decide) (by decide) (by simp only [List.length_cons, List.length_nil]; omega) (by rw [rd1]; omega), bad10⟩
            | b1 :: b2 :: b3 :: t3, ht =>
              obtain ⟨⟨k0, k1⟩, ht1⟩ := ht.cons
              obtain ⟨⟨m0, m1⟩, ht2⟩ := ht1.cons
              obtain ⟨⟨n0, n1⟩, ht3⟩ := ht2.cons
              by_cases c1 : lowOf b0 ≤ b1 ∧ b1 ≤ highOf b0
              · have hb1 : 128 ≤ b1 ∧ b1 ≤ 191 := by
                  have := c1.1; have := c1.2; unfold lowOf at *; unfold highOf at *; split at * <;> split at * <;> omega
                by_cases c2 : 128 ≤ b2 ∧ b2 ≤ 191
                · by_cases c3 : 128 ≤ b3 ∧ b3 ≤ 191
                  · simp only [if_pos (show lowOf b0 ≤ b1 ∧ b1 ≤ highOf b0 ∧ 128 ≤ b2 ∧ b2 ≤ 191 ∧ 128 ≤ b3 ∧ b3 ≤ 191 from ⟨c1.1, c1.2, c2.1, c2.2, c3⟩)]
                    refine ⟨_, l0_go _ _ _ _ _ _ b1 (by rfl) (by decide) (by decide) (by decide) (by simp only [List.length_cons, List.length_nil]; omega) c1.1 c1.2 k0 k1 (by omega) (by omega) _ (l0_go _ _ _ _ _ _ b2 (by rfl) (by decide) (by decide) (by decide) (by simp only [List.length_cons, List.length_nil]; omega) c2.1 c2.2 m0 m1 (by omega) (by omega) _ (l0_go _ _ _ _ _ _ b3 (by rfl) (by decide) (by decide) (by decide) (by simp only [List.length_cons, List.length_nil]; omega) c3.1 c3.2 n0 n1 (by omega) (by omega) _ (l0_end _ 4 _ _ _))), ?_⟩
                    show (_, _, _) = (_, _, _)
                    rw [show ((b0 % 8 * 64 + b1 % 64) * 64 + b2 % 64) * 64 + b3 % 64 = (b0 - 240) * 262144 + (b1 - 128) * 4096 + (b2 - 128) * 64 + (b3 - 128) by omega]
                    rfl
                  · simp only [if_neg (show ¬ (lowOf b0 ≤ b1 ∧ b1 ≤ highOf b0 ∧ 128 ≤ b2 ∧ b2 ≤ 191 ∧ 128 ≤ b3 ∧ b3 ≤ 191) from fun h => c3 h.2.2.2.2)]
                    exact ⟨_, l0_go _ _ _ _ _ _ b1 (by rfl) (by decide) (by decide) (by decide) (by simp only [List.length_cons, List.length_nil]; omega) c1.1 c1.2 k0 k1 (by omega) (by omega) _ (l0_go _ _ _ _ _ _ b2 (by rfl) (by decide) (by decide) (by decide) (by simp only [List.length_cons, List.length_nil]; omega) c2.1 c2.2 m0 m1 (by omega) (by omega) _ (l0_bad _ _ _ _ _ _ (by decide) (by decide) (by simp only [List.length_cons, List.length_nil]; omega) (by rw [show (1 : Int) + 1 + 1 = 3 from rfl, rd3]; omega))), bad10⟩
                · simp only [if_neg (show ¬ (lowOf b0 ≤ b1 ∧ b1 ≤ highOf b0 ∧ 128 ≤ b2 ∧ b2 ≤ 191 ∧ 128 ≤ b3 ∧ b3 ≤ 191) from fun h => c2 ⟨h.2.2.1, h.2.2.2.1⟩)]
                  exact ⟨_, l0_go _ _ _ _ _ _ b1 (by rfl) (by decide) (by decide) (by decide) (by simp only [List.length_cons, List.length_nil]; omega) c1.1 c1.2 k0 k1 (by omega) (by omega) _ (l0_bad _ _ _ _ _ _ (by decide) (by decide) (by simp only [List.length_cons, List.length_nil]; omega) (by rw [show (1 : Int) + 1 = 2 from rfl, rd2]; omega)), bad10⟩
              · simp only [if_neg (show ¬ (lowOf b0 ≤ b1 ∧ b1 ≤ highOf b0 ∧ 128 ≤ b2 ∧ b2 ≤ 191 ∧ 128 ≤ b3 ∧ b3 ≤ 191) from fun h => c1 ⟨h.1, h.2.1⟩)]
                exact ⟨_, l0_bad _ _ _ _ _ _ (by decide) (by decide) (by simp only [List.length_cons, List.length_nil]; omega) (by rw [rd1]; omega), bad10⟩
theorem drop_cons {l : List Int} {i : Nat} (h : i < l.length) : ∃ b0 t, l.drop i = b0 :: t := by
  rw [List.drop_eq_getElem_cons h]
  exact ⟨_, _, rfl⟩
theorem runes_dec (l : List Int) (hb : Bytes l) (i : Nat) (hi : i < l.length) : ∃ r, Ev (fun k => runes_Decode.f k l i) r ∧ DecIs (dec (l.drop i)) r := by
  obtain ⟨b0, t, hd⟩ := drop_cons hi
  have hb2 : Bytes (b0 :: t) := hd ▸ hb.drop i
  obtain ⟨r, h1, h2⟩ := runes_tail b0 t hb2
  rw [hd]
  refine ⟨r, ?_, h2⟩
  unfold runes_Decode.f
  simp only [if_neg (show ¬ ((i : Int) < 0) by omega), show decide ((i : Int) ≥ (l.length : Int)) = false from decide_eq_false (by omega)]
  refine Ev.step (f := fun k => (runes_form.f k b0).bind fun bt103 => (if bt103.1 = 0 then (some (0, 0, 10)) else (runes_Decode.l0 k (wrap64 (Go.bits .and .u8 b0 bt103.2.1)) bt103.1 (b0 :: t) bt103.2.2.1 bt103.2.2.2 1))) (fun k => ?_) (Ev.bind (form_ev b0) h1)
  simp only [runes_Decode.j0, Bool.false_eq_true, if_false]
  rw [if_pos (by omega), if_pos (by omega)]
  simp only [Int.toNat_natCast, hd, rd0, List.length_cons]
  rw [if_pos (by omega)]
end Go.Proofs.YtjioglaobabmmaaDoor.Pure
