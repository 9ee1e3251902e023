/- The quoted text: the program's and the document's. -/
import Derived.Test.YtjioglaobabmmaaDoorP0
import Derived.Test.YtjioglaobabmmaaDoorSQuote
import Derived.Test.YtjioglaobabmmaaDoorQA
import Derived.Test.YtjioglaobabmmaaDoorP9
namespace Go.Proofs.YtjioglaobabmmaaDoor.Pure
open Go.RowKit Go.Proofs.YtjioglaobabmmaaDoor.P Go.Proofs.YtjioglaobabmmaaDoorW.PrintWords
set_option linter.unusedVariables false
set_option linter.unusedSimpArgs false
theorem bytesOf_bytes (s : ByteArray) : Bytes (bytesOf s) := by
  intro x hx
  unfold bytesOf at hx
  obtain ⟨b, _, rfl⟩ := List.mem_map.mp hx
  have := b.toNat_lt
  omega
theorem bytesOf_get (s : ByteArray) (i : Nat) (h : i < s.size) : rd (bytesOf s) (i : Int) = ((s.get! i).toNat : Int) := by
  have hl : i < (bytesOf s).length := by rw [bytesOf_length]; exact h
  rw [rd_getElem hl]
  simp only [bytesOf, List.getElem_map]
  congr 2
  show s.data.toList[i]'_ = s.data[i]!
  rw [getElem!_pos s.data i h]
  simp
/-- Which form a character has. -/
theorem dec_cases (b0 : Int) (t : List Int) (c : Int) (n : Nat) (h : dec (b0 :: t) = some (c, n)) :
    (b0 < 128 ∧ c = b0 ∧ n = 1) ∨ (194 ≤ b0 ∧ b0 < 224 ∧ n = 2 ∧ ∃ b1 t1, t = b1 :: t1 ∧ 128 ≤ b1 ∧ b1 ≤ 191 ∧ c = (b0 - 192) * 64 + (b1 - 128))
    ∨ (224 ≤ b0 ∧ b0 < 240 ∧ n = 3 ∧ ∃ b1 b2 t1, t = b1 :: b2 :: t1 ∧ lowOf b0 ≤ b1 ∧ b1 ≤ highOf b0 ∧ 128 ≤ b2 ∧ b2 ≤ 191 ∧ c = (b0 - 224) * 4096 + (b1 - 128) * 64 + (b2 - 128))
    ∨ (240 ≤ b0 ∧ b0 ≤ 244 ∧ n = 4 ∧ ∃ b1 b2 b3 t1, t = b1 :: b2 :: b3 :: t1 ∧ lowOf b0 ≤ b1 ∧ b1 ≤ highOf b0 ∧ 128 ≤ b2 ∧ b2 ≤ 191 ∧ 128 ≤ b3 ∧ b3 ≤ 191 ∧ c = (b0 - 240) * 262144 + (b1 - 128) * 4096 + (b2 - 128) * 64 + (b3 - 128)) := by
  unfold dec at h
  by_cases h1 : b0 < 128
  · simp only [if_pos h1, Option.some.injEq, Prod.mk.injEq] at h
    exact .inl ⟨h1, h.1.symm, h.2.symm⟩
  · simp only [if_neg h1] at h
    by_cases h2 : b0 < 194
    · simp only [if_pos h2] at h; cases h
    · simp only [if_neg h2] at h
      by_cases h3 : b0 > 244
      · simp only [if_pos h3] at h; cases h
      · simp only [if_neg h3] at h
        by_cases h4 : b0 < 224
        · simp only [if_pos h4] at h
          split at h
          · split at h
            · rename_i k
              simp only [Option.some.injEq, Prod.mk.injEq] at h
              exact .inr (.inl ⟨by omega, h4, h.2.symm, _, _, rfl, k.1, k.2, h.1.symm⟩)
            · cases h
          · cases h
        · simp only [if_neg h4] at h
          by_cases h5 : b0 < 240
          · simp only [if_pos h5] at h
            split at h
            · split at h
              · rename_i k
                simp only [Option.some.injEq, Prod.mk.injEq] at h
                exact .inr (.inr (.inl ⟨by omega, h5, h.2.symm, _, _, _, rfl, k.1, k.2.1, k.2.2.1, k.2.2.2, h.1.symm⟩))
              · cases h
            · cases h
          · simp only [if_neg h5] at h
            split at h
            · split at h
              · rename_i k
                simp only [Option.some.injEq, Prod.mk.injEq] at h
                exact .inr (.inr (.inr ⟨by omega, by omega, h.2.symm, _, _, _, _, rfl, k.1, k.2.1, k.2.2.1, k.2.2.2.1, k.2.2.2.2.1, k.2.2.2.2.2, h.1.symm⟩))
              · cases h
            · cases h
/-- The model's decoder over four bytes, and whether the later ones go on. -/
def dcore (b0 b1 b2 b3 : Nat) (c1 c2 c3 : Bool) : Nat × Nat :=
  if b0 < 0x80 then (b0, 1)
  else if b0 / 32 == 6 && c1 then
    (if (b0 % 32) * 64 + b1 % 64 ≥ 0x80 then ((b0 % 32) * 64 + b1 % 64, 2) else (Utf8.runeError, 1))
  else if b0 / 16 == 14 && c1 && c2 then
    (if (b0 % 16) * 4096 + (b1 % 64) * 64 + b2 % 64 ≥ 0x800 && Utf8.valid (((b0 % 16) * 4096 + (b1 % 64) * 64 + b2 % 64 : Nat) : Int) then ((b0 % 16) * 4096 + (b1 % 64) * 64 + b2 % 64, 3) else (Utf8.runeError, 1))
  else if b0 / 8 == 30 && c1 && c2 && c3 then
    (if (b0 % 8) * 262144 + (b1 % 64) * 4096 + (b2 % 64) * 64 + b3 % 64 ≥ 0x10000 && Utf8.valid (((b0 % 8) * 262144 + (b1 % 64) * 4096 + (b2 % 64) * 64 + b3 % 64 : Nat) : Int) then ((b0 % 8) * 262144 + (b1 % 64) * 4096 + (b2 % 64) * 64 + b3 % 64, 4) else (Utf8.runeError, 1))
  else (Utf8.runeError, 1)
def byteAt (s : ByteArray) (i : Nat) : Nat := (s.get! i).toNat
theorem decode_core (s : ByteArray) (i : Nat) : Utf8.decode s i = dcore (byteAt s (i + 0)) (byteAt s (i + 1)) (byteAt s (i + 2)) (byteAt s (i + 3)) (decide (i + 1 < s.size) && byteAt s (i + 1) / 64 == 2) (decide (i + 2 < s.size) && byteAt s (i + 2) / 64 == 2) (decide (i + 3 < s.size) && byteAt s (i + 3) / 64 == 2) := rfl
theorem dcore1 (b0 b1 b2 b3 : Nat) (c1 c2 c3 : Bool) (h : b0 < 128) : dcore b0 b1 b2 b3 c1 c2 c3 = (b0, 1) := by
  unfold dcore; rw [if_pos h]
theorem dcore2 (b0 b1 b2 b3 : Nat) (c2 c3 : Bool) (h : 194 ≤ b0) (h' : b0 < 224) (k : 128 ≤ b1) (k' : b1 ≤ 191) : dcore b0 b1 b2 b3 true c2 c3 = ((b0 - 192) * 64 + (b1 - 128), 2) := by
  have a1 : (b0 / 32 == 6) = true := by rw [beq_iff_eq]; omega
  have e : (b0 % 32) * 64 + b1 % 64 = (b0 - 192) * 64 + (b1 - 128) := by omega
  have p1 : ¬ b0 < 128 := by omega
  have p2 : (b0 % 32) * 64 + b1 % 64 ≥ 128 := by omega
  simp only [dcore, if_neg p1, a1, Bool.and_self, if_true, if_pos p2]
  exact Prod.ext e rfl
set_option maxRecDepth 100000 in
theorem dcore3 (b0 b1 b2 b3 : Nat) (c3 : Bool) (h : 224 ≤ b0) (h' : b0 < 240) (k : 128 ≤ b1) (k' : b1 ≤ 191) (m : 128 ≤ b2) (m' : b2 ≤ 191) (hs : 2048 ≤ (b0 - 224) * 4096 + (b1 - 128) * 64 + (b2 - 128)) (hv : ¬ (55296 ≤ (b0 - 224) * 4096 + (b1 - 128) * 64 + (b2 - 128) ∧ (b0 - 224) * 4096 + (b1 - 128) * 64 + (b2 - 128) ≤ 57343)) :
    dcore b0 b1 b2 b3 true true c3 = ((b0 - 224) * 4096 + (b1 - 128) * 64 + (b2 - 128), 3) := by
  have e : (b0 % 16) * 4096 + (b1 % 64) * 64 + b2 % 64 = (b0 - 224) * 4096 + (b1 - 128) * 64 + (b2 - 128) := by omega
  have a0 : (b0 / 32 == 6) = false := by rw [beq_eq_false_iff_ne]; omega
  have a1 : (b0 / 16 == 14) = true := by rw [beq_iff_eq]; omega
  have p1 : ¬ b0 < 128 := by omega
  have v : Utf8.valid (((b0 % 16) * 4096 + (b1 % 64) * 64 + b2 % 64 : Nat) : Int) = true := by
    simp only [Utf8.valid, Bool.or_eq_true, Bool.and_eq_true, decide_eq_true_eq]
    omega
  have g : decide ((b0 % 16) * 4096 + (b1 % 64) * 64 + b2 % 64 ≥ 2048) = true := by
    have z : 2048 ≤ (b0 % 16) * 4096 + (b1 % 64) * 64 + b2 % 64 := Nat.le_trans hs (Nat.le_of_eq e.symm)
    clear hs hv v e a0 a1
    simpa using z
  simp only [dcore, if_neg p1, a0, a1, v, g, Bool.false_and, Bool.false_eq_true, if_false, Bool.and_self, if_true]
  exact Prod.ext e rfl
set_option maxRecDepth 100000 in
theorem dcore4 (b0 b1 b2 b3 : Nat) (h : 240 ≤ b0) (h' : b0 ≤ 244) (k : 128 ≤ b1) (k' : b1 ≤ 191) (m : 128 ≤ b2) (m' : b2 ≤ 191) (q : 128 ≤ b3) (q' : b3 ≤ 191) (hs : 65536 ≤ (b0 - 240) * 262144 + (b1 - 128) * 4096 + (b2 - 128) * 64 + (b3 - 128)) (hv : (b0 - 240) * 262144 + (b1 - 128) * 4096 + (b2 - 128) * 64 + (b3 - 128) ≤ 1114111) :
    dcore b0 b1 b2 b3 true true true = ((b0 - 240) * 262144 + (b1 - 128) * 4096 + (b2 - 128) * 64 + (b3 - 128), 4) := by
  have e : (b0 % 8) * 262144 + (b1 % 64) * 4096 + (b2 % 64) * 64 + b3 % 64 = (b0 - 240) * 262144 + (b1 - 128) * 4096 + (b2 - 128) * 64 + (b3 - 128) := by omega
  have a0 : (b0 / 32 == 6) = false := by rw [beq_eq_false_iff_ne]; omega
  have a1 : (b0 / 16 == 14) = false := by rw [beq_eq_false_iff_ne]; omega
  have a2 : (b0 / 8 == 30) = true := by rw [beq_iff_eq]; omega
  have p1 : ¬ b0 < 128 := by omega
  have v : Utf8.valid (((b0 % 8) * 262144 + (b1 % 64) * 4096 + (b2 % 64) * 64 + b3 % 64 : Nat) : Int) = true := by
    simp only [Utf8.valid, Bool.or_eq_true, Bool.and_eq_true, decide_eq_true_eq]
    omega
  have g : decide ((b0 % 8) * 262144 + (b1 % 64) * 4096 + (b2 % 64) * 64 + b3 % 64 ≥ 65536) = true := by
    have z : 65536 ≤ (b0 % 8) * 262144 + (b1 % 64) * 4096 + (b2 % 64) * 64 + b3 % 64 := Nat.le_trans hs (Nat.le_of_eq e.symm)
    clear hs hv v e a0 a1 a2
    simpa using z
  simp only [dcore, if_neg p1, a0, a1, a2, v, g, Bool.false_and, Bool.false_eq_true, if_false, Bool.and_self, if_true]
  exact Prod.ext e rfl
theorem byte_at (s : ByteArray) (i : Nat) (h : i < s.size) : rd (bytesOf s) (i : Int) = (byteAt s i : Int) := bytesOf_get s i h
end Go.Proofs.YtjioglaobabmmaaDoor.Pure
/- The quoted text: the program's is the document's. -/
namespace Go.Proofs.YtjioglaobabmmaaDoor.Pure
open Go.RowKit Go.Proofs.YtjioglaobabmmaaDoor.P Go.Proofs.YtjioglaobabmmaaDoorW.PrintWords
set_option linter.unusedVariables false
set_option linter.unusedSimpArgs false
theorem drop_head {l : List Int} {i : Nat} {b : Int} {t : List Int} (h : l.drop i = b :: t) : i < l.length ∧ rd l (i : Int) = b ∧ l.drop (i + 1) = t := by
  have hi : i < l.length := by
    rcases Nat.lt_or_ge i l.length with h' | h'
    · exact h'
    · rw [List.drop_eq_nil_of_le h'] at h; cases h
  rw [drop_rd hi] at h
  exact ⟨hi, (List.cons.inj h).1, (List.cons.inj h).2⟩
theorem model_dec (s : ByteArray) (i : Nat) (h : i < s.size) (c : Int) (n : Nat) (hd : dec ((bytesOf s).drop i) = some (c, n)) : Utf8.decode s i = (c.toNat, n) := by
  have hl := bytesOf_length s
  have hs := dec_spec _ ((bytesOf_bytes s).drop i) c n hd
  have hc := (isChar_iff c).mp hs.2.2.2.1
  clear hs
  rw [drop_rd (by omega), byte_at s i h] at hd
  have hd' := dec_cases _ _ c n hd
  clear hd
  rw [decode_core, Nat.add_zero]
  generalize byteAt s i = B0 at hd' ⊢
  rcases hd' with ⟨g1, rfl, rfl⟩ | ⟨g1, g2, rfl, b1, t1, ht, k1, k2, rfl⟩ | ⟨g1, g2, rfl, b1, b2, t1, ht, k1, k2, k3, k4, rfl⟩ | ⟨g1, g2, rfl, b1, b2, b3, t1, ht, k1, k2, k3, k4, k5, k6, rfl⟩
  · rw [dcore1 _ _ _ _ _ _ _ (by omega)]
    simp
  · obtain ⟨e1, r1, _⟩ := drop_head ht
    rw [hl] at e1
    rw [byte_at s (i + 1) e1] at r1
    generalize byteAt s (i + 1) = B1 at r1 ⊢
    subst r1
    have c1 : (decide (i + 1 < s.size) && B1 / 64 == 2) = true := by
      rw [decide_eq_true e1, Bool.true_and, beq_iff_eq]; omega
    rw [c1, dcore2 _ _ _ _ _ _ (by omega) (by omega) (by omega) (by omega)]
    exact Prod.ext (by show _ = Int.toNat _; omega) rfl
  · obtain ⟨e1, r1, ht1⟩ := drop_head ht
    obtain ⟨e2, r2, _⟩ := drop_head ht1
    rw [hl] at e1 e2
    rw [byte_at s (i + 1) e1] at r1
    rw [show i + 1 + 1 = i + 2 from rfl] at e2 r2
    rw [byte_at s (i + 2) e2] at r2
    generalize byteAt s (i + 1) = B1 at r1 ⊢
    generalize byteAt s (i + 2) = B2 at r2 ⊢
    subst r1 r2
    have hb1 : 128 ≤ (B1 : Int) ∧ (B1 : Int) ≤ 191 := by
      clear hc; unfold lowOf at k1; unfold highOf at k2; split at k1 <;> split at k2 <;> omega
    have h800 : 2048 ≤ ((B0 : Int) - 224) * 4096 + ((B1 : Int) - 128) * 64 + ((B2 : Int) - 128) := by
      clear hc; unfold lowOf at k1; split at k1
      · omega
      · omega
    have c1 : (decide (i + 1 < s.size) && B1 / 64 == 2) = true := by
      rw [decide_eq_true e1, Bool.true_and, beq_iff_eq]; omega
    have c2 : (decide (i + 2 < s.size) && B2 / 64 == 2) = true := by
      rw [decide_eq_true e2, Bool.true_and, beq_iff_eq]; omega
    rw [c1, c2, dcore3 _ _ _ _ _ (by omega) (by omega) (by omega) (by omega) (by omega) (by omega) (by omega) (by omega)]
    exact Prod.ext (by show _ = Int.toNat _; omega) rfl
  · obtain ⟨e1, r1, ht1⟩ := drop_head ht
    obtain ⟨e2, r2, ht2⟩ := drop_head ht1
    obtain ⟨e3, r3, _⟩ := drop_head ht2
    rw [hl] at e1 e2 e3
    rw [byte_at s (i + 1) e1] at r1
    rw [show i + 1 + 1 = i + 2 from rfl] at e2 r2 e3 r3
    rw [byte_at s (i + 2) e2] at r2
    rw [show i + 2 + 1 = i + 3 from rfl] at e3 r3
    rw [byte_at s (i + 3) e3] at r3
    generalize byteAt s (i + 1) = B1 at r1 ⊢
    generalize byteAt s (i + 2) = B2 at r2 ⊢
    generalize byteAt s (i + 3) = B3 at r3 ⊢
    subst r1 r2 r3
    have hb1 : 128 ≤ (B1 : Int) ∧ (B1 : Int) ≤ 191 := by
      clear hc; unfold lowOf at k1; unfold highOf at k2; split at k1 <;> split at k2 <;> omega
    have h10 : 65536 ≤ ((B0 : Int) - 240) * 262144 + ((B1 : Int) - 128) * 4096 + ((B2 : Int) - 128) * 64 + ((B3 : Int) - 128) := by
      clear hc; unfold lowOf at k1; split at k1
      · omega
      · split at k1 <;> omega
    have c1 : (decide (i + 1 < s.size) && B1 / 64 == 2) = true := by
      rw [decide_eq_true e1, Bool.true_and, beq_iff_eq]; omega
    have c2 : (decide (i + 2 < s.size) && B2 / 64 == 2) = true := by
      rw [decide_eq_true e2, Bool.true_and, beq_iff_eq]; omega
    have c3 : (decide (i + 3 < s.size) && B3 / 64 == 2) = true := by
      rw [decide_eq_true e3, Bool.true_and, beq_iff_eq]; omega
    rw [c1, c2, c3, dcore4 _ _ _ _ (by omega) (by omega) (by omega) (by omega) (by omega) (by omega) (by omega) (by omega) (by omega) (by omega)]
    exact Prod.ext (by show _ = Int.toNat _; omega) rfl
def hexd (d : Int) : Int := if d < 10 then 48 + d else 87 + d
/-- A character, as the document has it in a string. -/
def docEsc (c : Int) : List Int :=
  if c = 34 ∨ c = 92 then [92, c] else if c = 8 then [92, 98] else if c = 12 then [92, 102] else if c = 10 then [92, 110] else if c = 13 then [92, 114] else if c = 9 then [92, 116]
  else if c < 32 then [92, 117, 48, 48, hexd (c / 16), hexd (c % 16)] else bytesOfChar c
theorem qc_low : ∀ c : Nat, c < 128 → qc c = toU8 (docEsc c) := by decide +kernel
theorem qc_doc (c : Nat) (h : isChar c) : qc c = toU8 (docEsc c) := by
  by_cases hc : c < 128
  · exact qc_low c hc
  · unfold qc docEsc
    rw [if_neg (by omega), if_neg (by omega), if_neg (by omega), if_neg (by omega), if_neg (by omega), if_neg (by omega), if_neg (by omega)]
    rw [if_neg (by omega), if_neg (by omega), if_neg (by omega), if_neg (by omega), if_neg (by omega), if_neg (by omega), if_neg (by omega)]
    exact encodeRune_char c h
theorem docEsc_len (c : Int) : (docEsc c).length ≤ 6 := by
  have := encOf_len c
  unfold docEsc bytesOfChar
  repeat' split
  all_goals simp
/-- The quoted characters, from a place on. -/
def quoteR : Nat → List Int → Nat → List Int
  | 0, _, _ => []
  | f + 1, l, i => if i < l.length then match dec (l.drop i) with
      | some (c, n) => docEsc c ++ quoteR f l (i + n)
      | none => []
    else []
theorem qfrom_doc (s : ByteArray) (f : Nat) : ∀ (g i : Nat), val g ((bytesOf s).drop i) = true → qfrom s f i = toU8 (quoteR f (bytesOf s) i) := by
  have hl := bytesOf_length s
  induction f with
  | zero => intro g i _; rfl
  | succ f ih =>
    intro g i hv
    rw [qfrom, quoteR]
    by_cases h : i < s.size
    · rw [if_pos h, if_pos (by omega)]
      have hne : ((bytesOf s).drop i).isEmpty = false := by
        rw [List.isEmpty_eq_false_iff]; intro e; have := congrArg List.length e; simp at this; omega
      cases g with
      | zero => simp [val, hne] at hv
      | succ g =>
        simp only [val, hne, Bool.false_eq_true, if_false] at hv
        cases hd : dec ((bytesOf s).drop i) with
        | none => rw [hd] at hv; cases hv
        | some p =>
          obtain ⟨c, n⟩ := p
          rw [hd] at hv
          simp only at hv ⊢
          rw [List.drop_drop] at hv
          have hs := dec_spec _ ((bytesOf_bytes s).drop i) c n hd
          have hc := (isChar_iff c).mp hs.2.2.2.1
          obtain ⟨m, rfl⟩ := Int.eq_ofNat_of_zero_le hc.1
          rw [model_dec s i h _ n hd, toU8_append, ← ih g (i + n) hv]
          simp only [Int.toNat_natCast]
          rw [qc_doc m hs.2.2.2.1]
    · rw [if_neg h, if_neg (by omega)]
      rfl
end Go.Proofs.YtjioglaobabmmaaDoor.Pure
/- Characters, their bytes and their quoted forms. -/
namespace Go.Proofs.YtjioglaobabmmaaDoor.Pure
open Go.RowKit Go.Proofs.YtjioglaobabmmaaDoor.P Go.Proofs.YtjioglaobabmmaaDoorW.PrintWords
set_option linter.unusedVariables false
set_option linter.unusedSimpArgs false
/-- The character at the head of its own bytes. -/
theorem dec_char (c : Int) (h : isChar c) (r : List Int) : dec (bytesOfChar c ++ r) = some (c, (bytesOfChar c).length) := by
  rw [isChar_iff] at h
  unfold bytesOfChar
  by_cases h1 : c < 128
  · simp only [if_pos h1, List.cons_append, List.nil_append, dec]
    rfl
  · simp only [if_neg h1]
    by_cases h2 : c < 2048
    · simp only [if_pos h2, List.cons_append, List.nil_append, dec]
      rw [if_neg (by omega), if_neg (by omega), if_neg (by omega), if_pos (by omega), if_pos (by omega)]
      simp only [List.length_cons, List.length_nil]
      congr 2
      omega
    · simp only [if_neg h2]
      by_cases h3 : c < 65536
      · simp only [if_pos h3, List.cons_append, List.nil_append, dec]
        rw [if_neg (by omega), if_neg (by omega), if_neg (by omega), if_neg (by omega), if_pos (by omega)]
        rw [if_pos (by
          refine ⟨?_, ?_, by omega, by omega⟩
          · unfold lowOf; split
            · omega
            · split <;> omega
          · unfold highOf; split
            · omega
            · split <;> omega)]
        simp only [List.length_cons, List.length_nil]
        congr 2
        omega
      · simp only [if_neg h3, List.cons_append, List.nil_append, dec]
        rw [if_neg (by omega), if_neg (by omega), if_neg (by omega), if_neg (by omega), if_neg (by omega)]
        rw [if_pos (by
          refine ⟨?_, ?_, by omega, by omega, by omega, by omega⟩
          · unfold lowOf; split
            · omega
            · split <;> omega
          · unfold highOf; split
            · omega
            · split <;> omega)]
        simp only [List.length_cons, List.length_nil]
        congr 2
        omega
theorem bytesOfChar_head (c : Int) : ∃ b t, bytesOfChar c = b :: t ∧ (c < 128 → b = c ∧ t = []) ∧ (¬ c < 128 → isChar c → 128 ≤ b ∧ b ≤ 255 ∧ t ≠ []) := by
  unfold bytesOfChar
  by_cases h1 : c < 128
  · exact ⟨c, [], by rw [if_pos h1], fun _ => ⟨rfl, rfl⟩, fun h => absurd h1 h⟩
  · by_cases h2 : c < 2048
    · exact ⟨_, _, by rw [if_neg h1, if_pos h2], fun h => absurd h h1, fun _ hc => ⟨by omega, by omega, by simp⟩⟩
    · by_cases h3 : c < 65536
      · exact ⟨_, _, by rw [if_neg h1, if_neg h2, if_pos h3], fun h => absurd h h1, fun _ hc => ⟨by omega, by omega, by simp⟩⟩
      · refine ⟨_, _, by rw [if_neg h1, if_neg h2, if_neg h3], fun h => absurd h h1, fun _ hc => ?_⟩
        rw [isChar_iff] at hc
        exact ⟨by omega, by omega, by simp⟩
theorem charBytes (c : Int) (h : isChar c) : Bytes (bytesOfChar c) := by
  rw [isChar_iff] at h
  unfold bytesOfChar Bytes
  intro x hx
  split at hx
  · simp at hx; omega
  · split at hx
    · simp at hx; rcases hx with rfl | rfl <;> omega
    · split at hx
      · simp at hx; rcases hx with rfl | rfl | rfl <;> omega
      · simp at hx; rcases hx with rfl | rfl | rfl | rfl <;> omega
theorem char_len (c : Int) : 1 ≤ (bytesOfChar c).length ∧ (bytesOfChar c).length ≤ 4 := by
  unfold bytesOfChar
  repeat' split
  all_goals simp
/-- Characters' bytes, and their quoted forms. -/
def chs (cs : List Int) : List Int := cs.flatMap bytesOfChar
def qts (cs : List Int) : List Int := cs.flatMap docEsc
theorem chs_cons (c : Int) (cs : List Int) : chs (c :: cs) = bytesOfChar c ++ chs cs := by simp [chs]
theorem chs_append (a b : List Int) : chs (a ++ b) = chs a ++ chs b := by simp [chs]
theorem qts_cons (c : Int) (cs : List Int) : qts (c :: cs) = docEsc c ++ qts cs := by simp [qts]
theorem val_nil (f : Nat) : val f [] = true := by cases f <;> simp [val]
theorem val_char (f : Nat) (c : Int) (h : isChar c) (r : List Int) : val (f + 1) (bytesOfChar c ++ r) = val f r := by
  have hl := char_len c
  have hne : (bytesOfChar c ++ r).isEmpty = false := by
    rw [List.isEmpty_eq_false_iff]; intro e; have := congrArg List.length e; simp at this; rw [this.1] at hl; simp at hl
  simp only [val, hne, Bool.false_eq_true, if_false, dec_char c h]
  rw [List.drop_left]
theorem val_more (f : Nat) : ∀ (g : Nat) (l : List Int), Bytes l → l.length ≤ f → l.length ≤ g → val f l = val g l := by
  induction f with
  | zero =>
    intro g l hb h1 h2
    have : l = [] := List.length_eq_zero_iff.mp (by omega)
    subst this
    rw [val_nil, val_nil]
  | succ f ih =>
    intro g l hb h1 h2
    cases g with
    | zero =>
      have : l = [] := List.length_eq_zero_iff.mp (by omega)
      subst this
      rw [val_nil, val_nil]
    | succ g =>
      simp only [val]
      split
      · rfl
      · cases hd : dec l with
        | none => rfl
        | some p =>
          obtain ⟨c, n⟩ := p
          have := dec_spec l hb c n hd
          simp only
          exact ih g _ (hb.drop n) (by rw [List.length_drop]; omega) (by rw [List.length_drop]; omega)
theorem bytes_append {a b : List Int} (ha : Bytes a) (hb : Bytes b) : Bytes (a ++ b) := by
  intro x hx
  rcases List.mem_append.mp hx with h | h
  · exact ha x h
  · exact hb x h
theorem utf_char (c : Int) (h : isChar c) (r : List Int) (hb : Bytes r) : utf (bytesOfChar c ++ r) = utf r := by
  have hl := char_len c
  have hB : Bytes (bytesOfChar c ++ r) := bytes_append (charBytes c h) hb
  rw [utf, val_more _ (r.length + 3 + 1) _ hB (Nat.le_refl _) (by rw [List.length_append]; omega), val_char _ c h, utf]
  exact val_more _ _ _ hb (by omega) (Nat.le_refl _)
theorem chs_bytes (cs : List Int) (h : ∀ c ∈ cs, isChar c) : Bytes (chs cs) := by
  intro x hx
  simp only [chs, List.mem_flatMap] at hx
  obtain ⟨c, hc, hx⟩ := hx
  exact charBytes c (h c hc) x hx
theorem utf_chs (cs : List Int) (h : ∀ c ∈ cs, isChar c) (r : List Int) (hb : Bytes r) : utf (chs cs ++ r) = utf r := by
  induction cs with
  | nil => rfl
  | cons c cs ih =>
    rw [chs_cons, List.append_assoc, utf_char c (h c (by simp)) _ (bytes_append (chs_bytes cs (fun x hx => h x (by simp [hx]))) hb)]
    exact ih (fun x hx => h x (by simp [hx]))
theorem chars_of_val (f : Nat) : ∀ l : List Int, Bytes l → val f l = true → ∃ cs, (∀ c ∈ cs, isChar c) ∧ l = chs cs := by
  induction f with
  | zero =>
    intro l hb h
    simp only [val, List.isEmpty_iff] at h
    exact ⟨[], by simp, by rw [h]; rfl⟩
  | succ f ih =>
    intro l hb h
    simp only [val] at h
    split at h
    · rename_i he
      rw [List.isEmpty_iff] at he
      exact ⟨[], by simp, by rw [he]; rfl⟩
    · cases hd : dec l with
      | none => rw [hd] at h; cases h
      | some p =>
        obtain ⟨c, n⟩ := p
        rw [hd] at h
        simp only at h
        have hs := dec_spec l hb c n hd
        obtain ⟨cs, h1, h2⟩ := ih _ (hb.drop n) h
        refine ⟨c :: cs, ?_, ?_⟩
        · intro x hx
          rcases List.mem_cons.mp hx with rfl | hx
          · exact hs.2.2.2.1
          · exact h1 x hx
        · rw [chs_cons, ← h2, hs.2.2.2.2, List.take_append_drop]
theorem chars_of (l : List Int) (hb : Bytes l) (h : utf l = true) : ∃ cs, (∀ c ∈ cs, isChar c) ∧ l = chs cs := chars_of_val _ l hb h
theorem quoteR_chs (cs : List Int) (h : ∀ c ∈ cs, isChar c) : ∀ (f i : Nat) (l : List Int), l.drop i = chs cs → l.length ≤ i + f → quoteR f l i = qts cs := by
  induction cs with
  | nil =>
    intro f i l hd hf
    cases f with
    | zero => rfl
    | succ f =>
      have : ¬ i < l.length := by intro hi; have := congrArg List.length hd; simp [chs] at this; omega
      rw [quoteR, if_neg this]; rfl
  | cons c cs ih =>
    intro f i l hd hf
    have hl := char_len c
    have hlen := congrArg List.length hd
    rw [chs_cons, List.length_append, List.length_drop] at hlen
    cases f with
    | zero => omega
    | succ f =>
      rw [quoteR, if_pos (by omega), hd, chs_cons, dec_char c (h c (by simp))]
      simp only
      rw [qts_cons, ih (fun x hx => h x (by simp [hx])) f _ l (by rw [← List.drop_drop, hd, chs_cons, List.drop_left]) (by omega)]
theorem rd_drop (l : List Int) (i : Nat) (b : Int) (t : List Int) (h : l.drop i = b :: t) : i < l.length ∧ rd l (i : Int) = b := by
  have hi : i < l.length := by
    rcases Nat.lt_or_ge i l.length with h' | h'
    · exact h'
    · rw [List.drop_eq_nil_of_le h'] at h; cases h
  rw [drop_rd hi] at h
  exact ⟨hi, (List.cons.inj h).1⟩
theorem hexv_hexd (d : Int) (h0 : 0 ≤ d) (h1 : d ≤ 15) : hexv (hexd d) = some d := by
  unfold hexd hexv
  by_cases h : d < 10
  · simp only [if_pos h, if_pos (show 48 ≤ 48 + d ∧ 48 + d ≤ 57 by omega)]
    congr 1; omega
  · simp only [if_neg h, if_neg (show ¬ (48 ≤ 87 + d ∧ 87 + d ≤ 57) by omega), if_pos (show 97 ≤ 87 + d ∧ 87 + d ≤ 102 by omega)]
    congr 1; omega
/-- A quoted character, with its escape or as itself. -/
theorem docEsc_is (c : Int) (h : isChar c) : (∃ t, docEsc c = 92 :: t ∧ t ≠ [] ∧ (∀ x ∈ t, 0 ≤ x ∧ x < 128) ∧ (∀ r, escR (docEsc c ++ r) = (c, ((docEsc c).length : Int), 0)) ∧ (∀ p r, t = p ++ r → r ≠ [] → escR (92 :: p) = (0, 0, 3) ∨ escR (92 :: p) = (0, 6, 3)))
    ∨ (docEsc c = bytesOfChar c ∧ c ≠ 34 ∧ c ≠ 92 ∧ 32 ≤ c) := by
  have hc := (isChar_iff c).mp h
  unfold docEsc
  by_cases a : c = 34 ∨ c = 92
  · left
    simp only [if_pos a]
    refine ⟨[c], rfl, by simp, by intro x hx; simp at hx; omega, fun r => ?_, fun p r hp hr => ?_⟩
    · rcases a with rfl | rfl <;> rfl
    · cases p with
      | nil => exact .inl rfl
      | cons x p => simp at hp; exact absurd hp.2.2 hr
  · simp only [if_neg a]
    by_cases a1 : c = 8
    · left; subst a1
      refine ⟨[98], rfl, by simp, by decide, fun r => rfl, fun p r hp hr => ?_⟩
      cases p with
      | nil => exact .inl rfl
      | cons x p => simp at hp; exact absurd hp.2.2 hr
    · simp only [if_neg a1]
      by_cases a2 : c = 12
      · left; subst a2
        refine ⟨[102], rfl, by simp, by decide, fun r => rfl, fun p r hp hr => ?_⟩
        cases p with
        | nil => exact .inl rfl
        | cons x p => simp at hp; exact absurd hp.2.2 hr
      · simp only [if_neg a2]
        by_cases a3 : c = 10
        · left; subst a3
          refine ⟨[110], rfl, by simp, by decide, fun r => rfl, fun p r hp hr => ?_⟩
          cases p with
          | nil => exact .inl rfl
          | cons x p => simp at hp; exact absurd hp.2.2 hr
        · simp only [if_neg a3]
          by_cases a4 : c = 13
          · left; subst a4
            refine ⟨[114], rfl, by simp, by decide, fun r => rfl, fun p r hp hr => ?_⟩
            cases p with
            | nil => exact .inl rfl
            | cons x p => simp at hp; exact absurd hp.2.2 hr
          · simp only [if_neg a4]
            by_cases a5 : c = 9
            · left; subst a5
              refine ⟨[116], rfl, by simp, by decide, fun r => rfl, fun p r hp hr => ?_⟩
              cases p with
              | nil => exact .inl rfl
              | cons x p => simp at hp; exact absurd hp.2.2 hr
            · simp only [if_neg a5]
              by_cases a6 : c < 32
              · left
                simp only [if_pos a6]
                have x1 := hexv_hexd (c / 16) (by omega) (by omega)
                have x2 := hexv_hexd (c % 16) (by omega) (by omega)
                have r1 : 0 ≤ hexd (c / 16) ∧ hexd (c / 16) < 128 := by unfold hexd; split <;> omega
                have r2 : 0 ≤ hexd (c % 16) ∧ hexd (c % 16) < 128 := by unfold hexd; split <;> omega
                refine ⟨_, rfl, by simp, ?_, fun r => ?_, fun p r hp hr => ?_⟩
                · intro x hx
                  simp only [List.mem_cons, List.not_mem_nil, or_false] at hx
                  rcases hx with rfl | rfl | rfl | rfl | rfl
                  · decide
                  · decide
                  · decide
                  · exact r1
                  · exact r2
                · simp only [List.cons_append, List.nil_append]
                  unfold escR
                  rw [if_neg (by simp), show rd (92 :: 117 :: 48 :: 48 :: hexd (c / 16) :: hexd (c % 16) :: r) 1 = 117 from rfl, show letR 117 = none from by decide]
                  have hu : unitR (92 :: 117 :: 48 :: 48 :: hexd (c / 16) :: hexd (c % 16) :: r) = (c, 0) := by
                    simp only [unitR, if_true, fourR, show hexv 48 = some 0 from by decide, x1, x2]
                    congr 1
                    omega
                  simp only [hu, ne_eq, not_true_eq_false, if_false]
                  rw [if_pos (.inl (by omega))]
                  rfl
                · match p, hp with
                  | [], _ => exact .inl rfl
                  | [y1], hp =>
                    simp only [List.cons_append, List.nil_append, List.cons.injEq] at hp
                    obtain ⟨rfl, _⟩ := hp
                    exact .inr rfl
                  | [y1, y2], hp =>
                    simp only [List.cons_append, List.nil_append, List.cons.injEq] at hp
                    obtain ⟨rfl, rfl, _⟩ := hp
                    exact .inr rfl
                  | [y1, y2, y3], hp =>
                    simp only [List.cons_append, List.nil_append, List.cons.injEq] at hp
                    obtain ⟨rfl, rfl, rfl, _⟩ := hp
                    exact .inr rfl
                  | [y1, y2, y3, y4], hp =>
                    simp only [List.cons_append, List.nil_append, List.cons.injEq] at hp
                    obtain ⟨rfl, rfl, rfl, rfl, _⟩ := hp
                    right
                    unfold escR
                    rw [if_neg (by simp), show rd (92 :: [117, 48, 48, hexd (c / 16)]) 1 = 117 from rfl, show letR 117 = none from by decide]
                    have hu : unitR (92 :: [117, 48, 48, hexd (c / 16)]) = (0, 3) := by
                      simp only [unitR, if_true, fourR, show hexv 48 = some 0 from by decide, x1]
                    simp only [hu]
                    rfl
                  | y1 :: y2 :: y3 :: y4 :: y5 :: p, hp =>
                    simp at hp
                    exact absurd hp.2.2.2.2.2.2 hr
              · right
                simp only [if_neg a6, true_and]
                exact ⟨fun h => a (.inl h), fun h => a (.inr h), by omega⟩
end Go.Proofs.YtjioglaobabmmaaDoor.Pure
/- What a quoted text tells; of its beginnings; what a string tells. -/
namespace Go.Proofs.YtjioglaobabmmaaDoor.Pure
open Go.RowKit Go.Proofs.YtjioglaobabmmaaDoor.P Go.Proofs.YtjioglaobabmmaaDoorW.PrintWords
set_option linter.unusedVariables false
set_option linter.unusedSimpArgs false
theorem ascii_utf (l : List Int) (h : ∀ x ∈ l, 0 ≤ x ∧ x < 128) (r : List Int) (hb : Bytes r) : utf (l ++ r) = utf r := by
  have e : l = chs l := by
    induction l with
    | nil => rfl
    | cons a t ih =>
      have ha := h a (by simp)
      rw [chs_cons, ← ih (fun x hx => h x (by simp [hx]))]
      unfold bytesOfChar
      rw [if_pos ha.2]
      rfl
  rw [e]
  exact utf_chs l (fun c hc => by have := h c hc; exact ⟨by omega, by omega, by omega⟩) r hb
theorem utf_esc (c : Int) (h : isChar c) (r : List Int) (hb : Bytes r) : utf (docEsc c ++ r) = utf r := by
  rcases docEsc_is c h with ⟨t, h1, h2, h3, h4, h5⟩ | ⟨h1, h2, h3, h4⟩
  · rw [h1]
    refine ascii_utf _ (fun x hx => ?_) r hb
    rcases List.mem_cons.mp hx with rfl | hx
    · exact ⟨by decide, by decide⟩
    · exact h3 x hx
  · rw [h1]
    exact utf_char c h r hb
theorem docEsc_bytes (c : Int) (h : isChar c) : Bytes (docEsc c) := by
  rcases docEsc_is c h with ⟨t, h1, h2, h3, h4, h5⟩ | ⟨h1, h2, h3, h4⟩
  · rw [h1]
    intro x hx
    rcases List.mem_cons.mp hx with rfl | hx
    · exact ⟨by decide, by decide⟩
    · have := h3 x hx; omega
  · rw [h1]; exact charBytes c h
theorem qts_bytes (cs : List Int) (h : ∀ c ∈ cs, isChar c) : Bytes (qts cs) := by
  intro x hx
  simp only [qts, List.mem_flatMap] at hx
  obtain ⟨c, hc, hx⟩ := hx
  exact docEsc_bytes c (h c hc) x hx
theorem docEsc_lens (c : Int) : 1 ≤ (docEsc c).length ∧ (docEsc c).length ≤ 6 := by
  have := char_len c
  unfold docEsc
  repeat' split
  all_goals (first | omega | simp)
theorem qts_len (cs : List Int) (h : ∀ c ∈ cs, isChar c) : (qts cs).length ≤ 6 * (chs cs).length ∧ cs.length ≤ (qts cs).length := by
  induction cs with
  | nil => exact ⟨Nat.le_refl _, Nat.le_refl _⟩
  | cons c cs ih =>
    have h1 := docEsc_lens c
    have h2 := char_len c
    have := ih (fun x hx => h x (by simp [hx]))
    rw [qts_cons, chs_cons, List.length_append, List.length_append, List.length_cons]
    omega
/-- One quoted character is told. -/
theorem unq_char (c : Int) (h : isChar c) (f : Nat) (l : List Int) (i : Nat) (acc r : List Int) (hd : l.drop i = docEsc c ++ r) : unqR (f + 1) l i acc = unqR f l (i + (docEsc c).length) (acc ++ bytesOfChar c) := by
  rcases docEsc_is c h with ⟨t, h1, h2, h3, h4, h5⟩ | ⟨h1, h2, h3, h4⟩
  · obtain ⟨hi, hr⟩ := rd_drop l i 92 (t ++ r) (by rw [hd, h1]; rfl)
    rw [unqR, if_pos hi, hr, if_neg (by decide), if_neg (by decide), if_pos rfl, hd, h4 r]
    rfl
  · obtain ⟨b, t, e, k1, k2⟩ := bytesOfChar_head c
    obtain ⟨hi, hr⟩ := rd_drop l i b (t ++ r) (by rw [hd, h1, e]; rfl)
    have hb : b ≠ 34 ∧ ¬ b < 32 ∧ b ≠ 92 := by
      by_cases hc : c < 128
      · have := k1 hc; omega
      · have := k2 hc h; omega
    rw [unqR, if_pos hi, hr, if_neg hb.1, if_neg hb.2.1, if_neg hb.2.2, hd, h1, dec_char c h]
theorem unq_all (cs : List Int) (h : ∀ c ∈ cs, isChar c) : ∀ (f : Nat) (l : List Int) (i : Nat) (acc y : List Int), l.drop i = qts cs ++ 34 :: y → cs.length < f → unqR f l i acc = (acc ++ chs cs, ((i + (qts cs).length + 1 : Nat) : Int), 0) := by
  induction cs with
  | nil =>
    intro f l i acc y hd hf
    obtain ⟨f, rfl⟩ : ∃ g, f = g + 1 := ⟨f - 1, by simp at hf; omega⟩
    obtain ⟨hi, hr⟩ := rd_drop l i 34 y hd
    rw [unqR, if_pos hi, if_pos hr]
    simp [chs, qts]
  | cons c cs ih =>
    intro f l i acc y hd hf
    obtain ⟨f, rfl⟩ : ∃ g, f = g + 1 := ⟨f - 1, by simp at hf; omega⟩
    rw [qts_cons, List.append_assoc] at hd
    rw [unq_char c (h c (by simp)) f l i acc _ hd, ih (fun x hx => h x (by simp [hx])) f l _ _ y (by rw [← List.drop_drop, hd, List.drop_left]) (by simp at hf; omega)]
    rw [qts_cons, chs_cons, List.append_assoc, List.length_append]
    congr 2
    omega
/-- Within a character there is none. -/
theorem dec_part (c : Int) (h : isChar c) (p s : List Int) (he : bytesOfChar c = p ++ s) (hs : s ≠ []) : dec p = none := by
  cases hd : dec p with
  | none => rfl
  | some q =>
    exfalso
    obtain ⟨c', n⟩ := q
    have hb : Bytes p := fun x hx => charBytes c h x (by rw [he]; exact List.mem_append_left _ hx)
    have hp := dec_spec p hb c' n hd
    have h1 := dec_char c h []
    rw [List.append_nil, he, ← List.take_append_drop n p, ← hp.2.2.2.2, List.append_assoc, dec_char c' hp.2.2.2.1] at h1
    simp only [Option.some.injEq, Prod.mk.injEq, List.length_append] at h1
    have : s.length = 0 := by omega
    exact hs (List.length_eq_zero_iff.mp this)
theorem unq_none (f : Nat) (l : List Int) (i : Nat) (acc : List Int) (h : l.drop i = []) : unqR f l i acc = ([], 0, 3) := by
  cases f with
  | zero => rfl
  | succ f =>
    have : ¬ i < l.length := by intro hi; have := congrArg List.length h; simp at this; omega
    rw [unqR, if_neg this]
/-- A beginning of the quoted text is cut off, or within a character. -/
theorem unq_short (cs : List Int) (h : ∀ c ∈ cs, isChar c) : ∀ (f : Nat) (l : List Int) (i : Nat) (acc p r : List Int), qts cs ++ [34] = p ++ r → r ≠ [] → l.drop i = p → p.length ≤ f → unqR f l i acc = ([], 0, if utf p = true then 3 else 10) := by
  have u0 : utf [] = true := rfl
  induction cs with
  | nil =>
    intro f l i acc p r he hr hd hf
    have : p = [] := by
      cases p with
      | nil => rfl
      | cons a t =>
        have e := congrArg List.length he
        simp [qts] at e
        exact absurd e.2 hr
    subst this
    rw [unq_none f l i acc hd, if_pos u0]
  | cons c cs ih =>
    intro f l i acc p r he hr hd hf
    have hc := h c (by simp)
    have hrest : ∀ x ∈ cs, isChar x := fun x hx => h x (by simp [hx])
    by_cases hp0 : p = []
    · subst hp0
      rw [unq_none f l i acc hd, if_pos u0]
    · obtain ⟨f, rfl⟩ : ∃ g, f = g + 1 := ⟨f - 1, by have : p.length ≠ 0 := fun e => hp0 (List.length_eq_zero_iff.mp e); omega⟩
      rw [qts_cons, List.append_assoc] at he
      rcases List.append_eq_append_iff.mp he with ⟨p', e1, e2⟩ | ⟨s, e1, e2⟩
      · -- the character is whole
        have hlen := docEsc_lens c
        have hpl : p.length = (docEsc c).length + p'.length := by rw [e1, List.length_append]
        have hB : Bytes p' := by
          intro x hx
          have : x ∈ qts cs ++ [34] := by rw [e2]; exact List.mem_append_left _ hx
          rcases List.mem_append.mp this with g | g
          · exact qts_bytes cs hrest x g
          · simp at g; omega
        rw [unq_char c hc f l i acc p' (by rw [hd, e1]), ih hrest f l _ _ p' r e2 hr (by rw [← List.drop_drop, hd, e1, List.drop_left]) (by omega), e1, utf_esc c hc p' hB]
      · by_cases hs : s = []
        · subst hs
          rw [List.append_nil] at e1
          rw [List.nil_append] at e2
          have hB : Bytes ([] : List Int) := fun x hx => by cases hx
          rw [unq_char c hc f l i acc [] (by rw [hd, e1, List.append_nil]), unq_none _ _ _ _ (by rw [← List.drop_drop, hd, e1, List.drop_length])]
          have := utf_esc c hc [] hB
          rw [List.append_nil, e1] at this
          rw [this, if_pos u0]
        · rcases docEsc_is c hc with ⟨t, h1, h2, h3, h4, h5⟩ | ⟨h1, h2, h3, h4⟩
          · obtain ⟨q, rfl⟩ : ∃ q, p = 92 :: q := by
              cases p with
              | nil => exact absurd rfl hp0
              | cons a q => rw [h1] at e1; simp only [List.cons_append, List.cons.injEq] at e1; exact ⟨q, by rw [← e1.1]⟩
            have et : t = q ++ s := by rw [h1] at e1; simpa using e1
            have hu : utf (92 :: q) = true := by
              have := ascii_utf (92 :: q) (fun x hx => by
                rcases List.mem_cons.mp hx with rfl | hx
                · exact ⟨by decide, by decide⟩
                · exact h3 x (by rw [et]; exact List.mem_append_left _ hx)) [] (fun x hx => by cases hx)
              rw [List.append_nil] at this
              rw [this]; rfl
            obtain ⟨hi, hrd⟩ := rd_drop l i 92 q hd
            rw [unqR, if_pos hi, hrd, if_neg (by decide), if_neg (by decide), if_pos rfl, hd, hu, if_pos rfl]
            rcases h5 q s et hs with g | g <;> rw [g] <;> rfl
          · have hdn := dec_part c hc p s (by rw [← h1, e1]) hs
            have hu : ¬ utf p = true := by
              intro hu
              cases p with
              | nil => exact hp0 rfl
              | cons a q =>
                rw [utf, List.length_cons, val, hdn] at hu
                simp at hu
            obtain ⟨b, t, e, k1, k2⟩ := bytesOfChar_head c
            have hc128 : ¬ c < 128 := by
              intro g
              have := k1 g
              rw [h1, e, this.2] at e1
              have := congrArg List.length e1
              have p1 : p.length ≠ 0 := fun z => hp0 (List.length_eq_zero_iff.mp z)
              have s1 : s.length ≠ 0 := fun z => hs (List.length_eq_zero_iff.mp z)
              simp at this
              omega
            have hb := k2 hc128 hc
            obtain ⟨q, hq⟩ : ∃ q, p = b :: q := by
              cases p with
              | nil => exact absurd rfl hp0
              | cons a q => rw [h1, e] at e1; simp only [List.cons_append, List.cons.injEq] at e1; exact ⟨q, by rw [← e1.1]⟩
            obtain ⟨hi, hrd⟩ := rd_drop l i b q (by rw [hd, hq])
            rw [unqR, if_pos hi, hrd, if_neg (by omega), if_neg (by omega), if_neg (by omega), hd, hdn, if_neg hu]
theorem four_same (x : List Int) : ∀ (r : Nat) (n : Int) (y z : List Int), fourR r (x ++ 34 :: y) n = fourR r (x ++ 34 :: z) n := by
  induction x with
  | nil => intro r n y z; cases r <;> simp [fourR, show hexv 34 = none from by decide]
  | cons c t ih =>
    intro r n y z
    cases r with
    | zero => simp [fourR]
    | succ r =>
      simp only [List.cons_append, fourR]
      cases hexv c with
      | none => rfl
      | some v => exact ih r _ y z
theorem unit_same (x y z : List Int) : unitR (x ++ 34 :: y) = unitR (x ++ 34 :: z) := by
  match x with
  | [] => rfl
  | [a] => simp only [List.cons_append, List.nil_append, unitR]; split <;> simp
  | a :: b :: t => simp only [List.cons_append, unitR, four_same t 4 0 y z]
theorem esc_same (x y z : List Int) (c m : Int) (h : escR (x ++ 34 :: y) = (c, m, 0)) (hm : m ≤ (x.length : Int)) : escR (x ++ 34 :: z) = (c, m, 0) := by
  have hs := escR_spec _ c m h
  match x, h, hm, hs with
  | [], h, hm, hs => simp at hm; omega
  | [a], h, hm, hs => simp at hm; omega
  | a :: b :: t, h, hm, hs =>
    unfold escR at h ⊢
    rw [if_neg (by simp), show rd (a :: b :: t ++ 34 :: y) 1 = b from rfl] at h
    rw [if_neg (by simp), show rd (a :: b :: t ++ 34 :: z) 1 = b from rfl]
    cases hl : letR b with
    | some v => rw [hl] at h; exact h
    | none =>
      rw [hl] at h
      simp only [unit_same (a :: b :: t) z y] at h ⊢
      by_cases h6 : 6 ≤ (a :: b :: t).length
      · rw [List.drop_append_of_le_length h6] at h ⊢
        rw [unit_same ((a :: b :: t).drop 6) z y]
        exact h
      · exfalso
        split at h
        · simp only [Prod.mk.injEq] at h; omega
        · split at h
          · simp only [Prod.mk.injEq] at h; omega
          · split at h
            · simp only [Prod.mk.injEq] at h; omega
            · simp only [Prod.mk.injEq] at h; omega
/-- What is told is UTF-8, is no longer than the string, and does not change by what stands around. -/
theorem unq_told (f : Nat) : ∀ (l : List Int) (i : Nat) (acc s : List Int) (n : Int), Bytes l → unqR f l i acc = (s, n, 0) →
    ∃ cs x y, (∀ c ∈ cs, isChar c) ∧ s = acc ++ chs cs ∧ l.drop i = x ++ 34 :: y ∧ (chs cs).length ≤ x.length ∧ n = ((i + x.length + 1 : Nat) : Int) ∧
      ∀ (l' : List Int) (i' : Nat) (acc' z : List Int) (g : Nat), l'.drop i' = x ++ 34 :: z → x.length < g → unqR g l' i' acc' = (acc' ++ chs cs, ((i' + x.length + 1 : Nat) : Int), 0) := by
  induction f with
  | zero => intro l i acc s n _ h; simp [unqR] at h
  | succ f ih =>
    intro l i acc s n hB h
    rw [unqR] at h
    by_cases hi : i < l.length
    · rw [if_pos hi] at h
      have hd := drop_rd hi
      by_cases q1 : rd l i = 34
      · rw [if_pos q1] at h
        simp only [Prod.mk.injEq, and_true] at h
        refine ⟨[], [], l.drop (i + 1), by simp, by simp [chs, h.1], by rw [hd, q1]; rfl, by simp [chs], by rw [← h.2]; simp, ?_⟩
        intro l' i' acc' z g hd' hg
        obtain ⟨g, rfl⟩ : ∃ e, g = e + 1 := ⟨g - 1, by omega⟩
        obtain ⟨hi', hr'⟩ := rd_drop l' i' 34 z hd'
        rw [unqR, if_pos hi', if_pos hr']
        simp [chs]
      · rw [if_neg q1] at h
        by_cases q2 : rd l i < 32
        · rw [if_pos q2] at h; simp at h
        · rw [if_neg q2] at h
          by_cases q3 : rd l i = 92
          · rw [if_pos q3] at h
            by_cases e0 : (escR (l.drop i)).2.2 = 0
            · rw [if_pos e0] at h
              obtain ⟨c, m, e, hu⟩ : ∃ c m e, escR (l.drop i) = (c, m, e) := ⟨_, _, _, rfl⟩
              rw [hu] at h e0
              simp only at h e0
              subst e0
              obtain ⟨k1, k2, k3, k4⟩ := escR_spec _ c m hu
              obtain ⟨m, rfl⟩ := Int.eq_ofNat_of_zero_le (show 0 ≤ m by omega)
              simp only [Int.toNat_natCast] at h
              obtain ⟨cs, x, y, c1, c2, c3, c4, c5, c6⟩ := ih l (i + m) _ s n hB h
              have hml : m ≤ (l.drop i).length := by omega
              have htl : ((l.drop i).take m).length = m := by rw [List.length_take]; omega
              have hsplit : l.drop i = ((l.drop i).take m ++ x) ++ 34 :: y := by
                rw [List.append_assoc, ← c3, ← List.drop_drop, List.take_append_drop]
              refine ⟨c :: cs, (l.drop i).take m ++ x, y, ?_, ?_, hsplit, ?_, ?_, ?_⟩
              · intro a ha
                rcases List.mem_cons.mp ha with rfl | ha
                · exact k1
                · exact c1 a ha
              · rw [c2, chs_cons, List.append_assoc]
              · rw [chs_cons, List.length_append, List.length_append, htl]; omega
              · rw [c5, List.length_append, htl]; congr 1; omega
              · intro l' i' acc' z g hd' hg
                obtain ⟨g, rfl⟩ : ∃ e, g = e + 1 := ⟨g - 1, by omega⟩
                have he : escR (l'.drop i') = (c, (m : Int), 0) := by
                  rw [hd']
                  rw [hsplit] at hu
                  exact esc_same _ y z c m hu (by rw [List.length_append, htl]; omega)
                have h92 : ∃ t, l'.drop i' = 92 :: t := by
                  rw [hd', hd, q3]
                  obtain ⟨m', rfl⟩ : ∃ e, m = e + 1 := ⟨m - 1, by omega⟩
                  exact ⟨_, rfl⟩
                obtain ⟨t, ht⟩ := h92
                obtain ⟨hi', hr'⟩ := rd_drop l' i' 92 t ht
                rw [unqR, if_pos hi', hr', if_neg (by decide), if_neg (by decide), if_pos rfl, he]
                simp only [if_true, Int.toNat_natCast]
                rw [c6 l' (i' + m) _ z g (by rw [← List.drop_drop, hd', List.append_assoc]; rw [List.drop_append_of_le_length (by rw [htl]; omega), List.drop_of_length_le (by rw [htl]; omega)]; rfl) (by rw [List.length_append, htl] at hg; omega)]
                rw [chs_cons, List.append_assoc, List.length_append, htl]
                congr 2
                omega
            · rw [if_neg e0] at h
              simp only [Prod.mk.injEq] at h
              exact absurd h.2.2 e0
          · rw [if_neg q3] at h
            cases hdc : dec (l.drop i) with
            | none => rw [hdc] at h; simp at h
            | some p =>
              obtain ⟨c, m⟩ := p
              rw [hdc] at h
              simp only at h
              obtain ⟨k1, k2, k3, k4, k5⟩ := dec_spec _ (hB.drop i) c m hdc
              obtain ⟨cs, x, y, c1, c2, c3, c4, c5, c6⟩ := ih l (i + m) _ s n hB h
              have htl : (bytesOfChar c).length = m := by rw [k5, List.length_take]; omega
              have hsplit : l.drop i = (bytesOfChar c ++ x) ++ 34 :: y := by
                rw [k5, List.append_assoc, ← c3, ← List.drop_drop, List.take_append_drop]
              refine ⟨c :: cs, bytesOfChar c ++ x, y, ?_, ?_, hsplit, ?_, ?_, ?_⟩
              · intro a ha
                rcases List.mem_cons.mp ha with rfl | ha
                · exact k4
                · exact c1 a ha
              · rw [c2, chs_cons, List.append_assoc]
              · rw [chs_cons, List.length_append, List.length_append]; omega
              · rw [c5, List.length_append, htl]; congr 1; omega
              · intro l' i' acc' z g hd' hg
                obtain ⟨g, rfl⟩ : ∃ e, g = e + 1 := ⟨g - 1, by omega⟩
                obtain ⟨b, t, e, _, _⟩ := bytesOfChar_head c
                have hb : rd l i = b := by
                  rw [hsplit, e] at hd
                  exact (List.cons.inj hd).1.symm
                obtain ⟨hi', hr'⟩ := rd_drop l' i' b _ (by rw [hd', e]; rfl)
                rw [hb] at q1 q2 q3
                rw [unqR, if_pos hi', hr', if_neg q1, if_neg q2, if_neg q3, hd', List.append_assoc, dec_char c k4]
                simp only
                rw [c6 l' _ _ z g (by rw [← List.drop_drop, hd', List.append_assoc, List.drop_left]) (by rw [List.length_append] at hg; omega)]
                rw [chs_cons, List.append_assoc, List.length_append]
                congr 2
                omega
    · rw [if_neg hi] at h; simp at h
theorem take_q (x y : List Int) : (x ++ 34 :: y).take (x.length + 1) = x ++ [34] := by
  rw [List.take_append, List.take_of_length_le (by omega), show x.length + 1 - x.length = 1 by omega]
  rfl
end Go.Proofs.YtjioglaobabmmaaDoor.Pure
/- Quote: the program's and the document's. -/
namespace Go.Proofs.YtjioglaobabmmaaDoor.Pure
open Go.RowKit Go.Proofs.YtjioglaobabmmaaDoor.P Go.Proofs.YtjioglaobabmmaaDoorW.PrintWords
set_option linter.unusedVariables false
set_option linter.unusedSimpArgs false
theorem bytesOf_str (l : List Int) (h : Bytes l) : bytesOf (strOfNums l) = l := by
  unfold bytesOf strOfNums
  simp only [List.map_map]
  conv => rhs; rw [← List.map_id l]
  apply List.map_congr_left
  intro x hx
  have := h x hx
  simp only [Function.comp_def, UInt8.toNat_ofNat', id]
  omega
theorem xbytes_str (l : List Int) (h : Bytes l) (hl : l.length ≤ 9223372036854775807) : X_bytes.f (strOfNums l) = some l := by
  unfold X_bytes.f
  rw [strOfNums_size, if_pos hl, bytesOf_str l h]
theorem str_of_bytes (s : ByteArray) : strOfNums (bytesOf s) = s := by
  apply ByteArray.ext
  unfold strOfNums bytesOf
  simp only [List.map_map]
  rw [show (List.map ((fun n : Int => UInt8.ofNat n.toNat) ∘ fun b : UInt8 => (b.toNat : Int)) s.data.toList) = s.data.toList from by
    conv => rhs; rw [← List.map_id s.data.toList]
    apply List.map_congr_left
    intro x _
    simp]
theorem utf_of_chs (cs : List Int) (h : ∀ c ∈ cs, isChar c) : utf (chs cs) = true := by
  have := utf_chs cs h [] (fun x hx => by cases hx)
  rw [List.append_nil] at this
  rw [this]; rfl
theorem val_of_chs (cs : List Int) (h : ∀ c ∈ cs, isChar c) : val (chs cs).length (chs cs) = true := utf_of_chs cs h
theorem quote_prog (cs : List Int) (h : ∀ c ∈ cs, isChar c) (hs : 6 * (chs cs).length + 2 ≤ 140737488355328) : Ev (fun k => escape_Quote.f k (strOfNums (chs cs))) (strOfNums (34 :: (qts cs ++ [34])), 0) := by
  have hb := chs_bytes cs h
  have hu := utf_of_chs cs h
  unfold escape_Quote.f
  simp only [xbytes_str _ hb (by omega), Option.bind_some]
  obtain ⟨⟨a, e, h1, h2⟩, _⟩ := check_ev (chs cs) hb (by omega)
  have he : e = 0 := h2.mpr hu
  subst he
  refine Ev.bind h1 ?_
  simp only [if_true]
  rw [if_pos (by rw [strOfNums_size]; exact hs)]
  have hq := qfrom_doc (strOfNums (chs cs)) (strOfNums (chs cs)).size (chs cs).length 0 (by rw [bytesOf_str _ hb]; exact val_of_chs cs h)
  rw [bytesOf_str _ hb, quoteR_chs cs h _ 0 (chs cs) rfl (by rw [strOfNums_size]; omega)] at hq
  rw [hq]
  have : (34 :: (toU8 (qts cs) ++ [34]) : List UInt8) = toU8 (34 :: (qts cs ++ [34])) := by
    simp [toU8]
  rw [this, strOf_toU8]
  exact Ev.now _
def shortOf (c : Int) : Int := if c = 34 ∨ c = 92 then c else if c = 8 then 98 else if c = 12 then 102 else if c = 10 then 110 else if c = 13 then 114 else if c = 9 then 116 else 0
theorem short_ev (c : Int) : Ev (fun k => colophonref08_short.f k c) (shortOf c) := by
  unfold colophonref08_short.f shortOf
  by_cases a : c = 34
  · subst a
    exact Ev.step (f := fun _ => some _) (fun k => by rfl) (Ev.now _)
  · by_cases b : c = 92
    · subst b
      exact Ev.step (f := fun _ => some _) (fun k => by rfl) (Ev.now _)
    · simp only [if_neg a, if_neg (show ¬ (c = 34 ∨ c = 92) from fun h => h.elim a b), beq_eq_false_iff_ne.mpr b]
      refine Ev.step (f := fun _ => some _) (fun k => ?_) (Ev.now _)
      simp only [colophonref08_short.j0, Bool.false_eq_true, if_false]
      repeat' split
      all_goals rfl
theorem digit_is (d : Int) (h0 : 0 ≤ d) (h1 : d ≤ 15) : colophonref08_digit.f d = some (hexd d) := by
  unfold colophonref08_digit.f hexd
  by_cases h : d < 10
  · rw [if_pos h, if_pos h, wrap_nat (by omega) (by omega)]
    congr 1; omega
  · rw [if_neg h, if_neg h, wrap_nat (by omega) (by omega)]
    congr 1; omega
theorem docEsc_short (c : Int) : docEsc c = if shortOf c = 0 then (if c < 32 then [92, 117, 48, 48, hexd (c / 16), hexd (c % 16)] else bytesOfChar c) else [92, shortOf c] := by
  unfold docEsc shortOf
  by_cases a : c = 34 ∨ c = 92
  · rw [if_pos a, if_pos a, if_neg (by omega)]
  · rw [if_neg a, if_neg a]
    repeat' split
    all_goals (first | rfl | (exfalso; omega))
theorem ref_loop (cs : List Int) (h : ∀ c ∈ cs, isChar c) : ∀ (l : List Int) (i : Nat) (out : List Int), Bytes l → l.drop i = chs cs → l.length ≤ 140737488355328 → out.length + 6 * (chs cs).length + 2 ≤ 140737488355328 →
    Ev (fun k => colophonref08_Quote.l0 k l out i) (strOfNums (out ++ (qts cs ++ [34])), 0) := by
  induction cs with
  | nil =>
    intro l i out hB hd hl ho
    have hi : ¬ i < l.length := by
      intro hi
      have := congrArg List.length hd
      simp [chs] at this
      omega
    refine Ev.step (f := fun _ => some _) (fun k => ?_) (Ev.now _)
    simp only [colophonref08_Quote.l0]
    rw [if_neg (by omega), if_pos (by omega)]
    rfl
  | cons c cs ih =>
    intro l i out hB hd hl ho
    have hc := h c (by simp)
    have hcl := char_len c
    have hlen := congrArg List.length hd
    rw [chs_cons, List.length_append, List.length_drop] at hlen
    have hi : i < l.length := by omega
    have hdec : dec (l.drop i) = some (c, (bytesOfChar c).length) := by rw [hd, chs_cons, dec_char c hc]
    rcases both_dec l hB i hi with ⟨c', n, e, g1, g4, hn, hc', hx, ha, hb'⟩ | ⟨e, _, _⟩
    · rw [e] at hdec
      simp only [Option.some.injEq, Prod.mk.injEq] at hdec
      obtain ⟨rfl, rfl⟩ := hdec
      have hcc := (isChar_iff c').mp hc'
      have hdrop : l.drop (i + (bytesOfChar c').length) = chs cs := by rw [← List.drop_drop, hd, chs_cons, List.drop_left]
      have hel := docEsc_lens c'
      rw [chs_cons, List.length_append] at ho
      have ih' := ih (fun x hx => h x (by simp [hx])) l (i + (bytesOfChar c').length) (out ++ docEsc c') hB hdrop hl (by rw [List.length_append]; omega)
      rw [List.append_assoc, ← List.append_assoc (docEsc c'), ← qts_cons] at ih'
      have hw : wrap64 ((i : Int) + ((bytesOfChar c').length : Int)) = ((i + (bytesOfChar c').length : Nat) : Int) := by
        rw [wrap_nat (by omega) (by omega)]
        rfl
      have hcut : (l.take (i + (bytesOfChar c').length)).drop i = bytesOfChar c' := by
        rw [List.drop_take, show i + (bytesOfChar c').length - i = (bytesOfChar c').length by omega, ← hx]
      refine Ev.step (fun k => by simp only [colophonref08_Quote.l0]; rw [if_pos (by omega)]) (Ev.bind hb' (Ev.bind (short_ev c') ?_))
      simp only [hw, Int.toNat_natCast, hcut, Option.bind_some]
      have hde := docEsc_short c'
      by_cases s0 : shortOf c' = 0
      · rw [if_pos s0] at hde
        simp only [if_pos s0]
        by_cases c32 : c' < 32
        · rw [if_pos c32] at hde
          simp only [if_pos c32]
          rw [Int.tdiv_eq_ediv_of_nonneg hcc.1, Int.tmod_eq_emod_of_nonneg hcc.1, wrap_nat (i := c' / 16) (by omega) (by omega), digit_is _ (by omega) (by omega), digit_is _ (by omega) (by omega)]
          simp only [Option.bind_some]
          rw [← hde]
          simp only [if_pos (show out.length + (docEsc c').length < 140737488355328 by omega)]
          exact ih'
        · rw [if_neg c32] at hde
          simp only [if_neg c32]
          simp only [if_pos (show (0 : Int) ≤ (i : Int) by omega), if_pos (show (i : Int) ≤ ((i + (bytesOfChar c').length : Nat) : Int) by omega), if_pos (show ((i + (bytesOfChar c').length : Nat) : Int) ≤ (l.length : Int) by omega), if_pos (show out.length + (bytesOfChar c').length < 140737488355328 by omega)]
          rw [hde] at ih'
          exact ih'
      · rw [if_neg s0] at hde
        simp only [if_neg s0]
        rw [← hde]
        simp only [if_pos (show out.length + (docEsc c').length < 140737488355328 by omega)]
        exact ih'
    · rw [e] at hdec; cases hdec
theorem quote_ref (cs : List Int) (h : ∀ c ∈ cs, isChar c) (hs : 6 * (chs cs).length + 3 ≤ 140737488355328) : Ev (fun k => colophonref08_Quote.f k (strOfNums (chs cs))) (strOfNums (34 :: (qts cs ++ [34])), 0) := by
  have hb := chs_bytes cs h
  have hu := utf_of_chs cs h
  unfold colophonref08_Quote.f
  simp only [xbytes_str _ hb (by omega), Option.bind_some]
  obtain ⟨_, ⟨a, e, h1, h2⟩⟩ := check_ev (chs cs) hb (by omega)
  have he : e = 0 := h2.mpr hu
  subst he
  refine Ev.bind h1 ?_
  simp only [if_true]
  exact ref_loop cs h (chs cs) 0 [34] hb rfl (by omega) (by simp only [List.length_cons, List.length_nil]; omega)
theorem quote_bad (s : ByteArray) (hs : s.size ≤ 140737488355328) (hu : ¬ utf (bytesOf s) = true) : Ev (fun k => escape_Quote.f k s) (⟨#[]⟩, 10) ∧ Ev (fun k => colophonref08_Quote.f k s) (⟨#[]⟩, 10) := by
  have hx : X_bytes.f s = some (bytesOf s) := by unfold X_bytes.f; rw [if_pos (by omega)]
  obtain ⟨⟨a, e, h1, h2⟩, ⟨a', e', h1', h2'⟩⟩ := check_ev (bytesOf s) (bytesOf_bytes s) (by rw [bytesOf_length]; exact hs)
  have he : ¬ e = 0 := fun h => hu (h2.mp h)
  have he' : ¬ e' = 0 := fun h => hu (h2'.mp h)
  unfold escape_Quote.f colophonref08_Quote.f
  simp only [hx, Option.bind_some]
  refine ⟨Ev.bind h1 ?_, Ev.bind h1' ?_⟩
  · simp only [if_neg he]; exact Ev.now _
  · simp only [if_neg he']; exact Ev.now _
end Go.Proofs.YtjioglaobabmmaaDoor.Pure
/- What the laws' own helpers do: bring, text, tells. -/
namespace Go.Proofs.YtjioglaobabmmaaDoor.Pure
open Go.RowKit Go.Proofs.YtjioglaobabmmaaDoor.P Go.Proofs.YtjioglaobabmmaaDoorW.PrintWords
set_option linter.unusedVariables false
set_option linter.unusedSimpArgs false
theorem bring_at (a n : Int) (hn : 0 < n) (hm : n ≤ 4611686018427387904) : ∃ x, colophonref00_Bring.f a n = some x ∧ 0 ≤ x ∧ x < n := by
  unfold colophonref00_Bring.f
  have ht : Int.tmod a n = if 0 ≤ a then a % n else -((-a) % n) := by
    split
    · exact Int.tmod_eq_emod_of_nonneg (by assumption)
    · have := Int.neg_tmod (-a) n
      rw [Int.neg_neg] at this
      rw [this, Int.tmod_eq_emod_of_nonneg (by omega)]
  have hr0 : 0 ≤ a % n := Int.emod_nonneg a (by omega)
  have hr1 : a % n < n := Int.emod_lt_of_pos a hn
  have hr2 : 0 ≤ (-a) % n := Int.emod_nonneg (-a) (by omega)
  have hr3 : (-a) % n < n := Int.emod_lt_of_pos (-a) hn
  rw [if_neg (by omega), if_neg (by omega)]
  have hb : -n < Int.tmod a n ∧ Int.tmod a n < n := by rw [ht]; split <;> omega
  by_cases h : Int.tmod a n < 0
  · rw [if_pos h, wrap_nat (by omega) (by omega)]
    exact ⟨_, rfl, by omega, by omega⟩
  · rw [if_neg h]
    exact ⟨_, rfl, by omega, by omega⟩
theorem chs_len (cs : List Int) : (chs cs).length ≤ 4 * cs.length := by
  induction cs with
  | nil => exact Nat.le_refl _
  | cons c cs ih =>
    have := char_len c
    rw [chs_cons, List.length_append, List.length_cons]
    omega
theorem quote_len (cs : List Int) (h : ∀ c ∈ cs, isChar c) : (34 :: (qts cs ++ [34])).length = (qts cs).length + 2 := by
  simp
theorem quote_bytes (cs : List Int) (h : ∀ c ∈ cs, isChar c) : Bytes (34 :: (qts cs ++ [34])) := by
  intro x hx
  rcases List.mem_cons.mp hx with rfl | hx
  · decide
  · rcases List.mem_append.mp hx with g | g
    · exact qts_bytes cs h x g
    · simp at g; subst g; decide
theorem tells_at (l want : List Int) (hb : Bytes l) (hl : l.length ≤ 140737488351232) (h : unquoteR l 0 = (want, (l.length : Int), 0)) : Ev (fun k => colophonlaw08_tells.f k (strOfNums l) (strOfNums want)) true := by
  unfold colophonlaw08_tells.f
  simp only [xbytes_str l hb (by omega), Option.bind_some]
  have := (unquote_both l hb hl 0).1
  rw [h] at this
  refine Ev.bind this ?_
  simp only [if_true, strOfNums_size, beq_self_eq_true]
  exact Ev.now _
/-- What was quoted is told, wherever it stands. -/
theorem told_at (cs : List Int) (h : ∀ c ∈ cs, isChar c) (a y : List Int) : unquoteR (a ++ 34 :: (qts cs ++ 34 :: y)) (a.length : Int) = (chs cs, ((a.length + (qts cs).length + 2 : Nat) : Int), 0) := by
  have hl : (a ++ 34 :: (qts cs ++ 34 :: y)).length = a.length + ((qts cs).length + (y.length + 1) + 1) := by simp
  have hq := qts_len cs h
  have hd : (a ++ 34 :: (qts cs ++ 34 :: y)).drop a.length = 34 :: (qts cs ++ 34 :: y) := List.drop_left
  obtain ⟨hi, hr⟩ := rd_drop _ a.length 34 _ hd
  unfold unquoteR
  rw [if_neg (by omega), if_neg (by omega), if_neg (by omega), if_pos hr, Int.toNat_natCast, unq_all cs h _ _ _ [] y (by rw [← List.drop_drop, hd]; rfl) (by omega)]
  rw [List.nil_append]
  congr 2
  omega
theorem unqR_err (f : Nat) : ∀ (l : List Int) (i : Nat) (acc : List Int), (unqR f l i acc).2.2 ≠ 0 → (unqR f l i acc).1 = [] ∧ (unqR f l i acc).2.1 = 0 := by
  induction f with
  | zero => intro l i acc _; exact ⟨rfl, rfl⟩
  | succ f ih =>
    intro l i acc
    rw [unqR]
    split
    · split
      · intro h; exact absurd rfl h
      · split
        · intro _; exact ⟨rfl, rfl⟩
        · split
          · split
            · exact ih _ _ _
            · intro _; exact ⟨rfl, rfl⟩
          · split
            · exact ih _ _ _
            · intro _; exact ⟨rfl, rfl⟩
    · intro _; exact ⟨rfl, rfl⟩
theorem unquoteR_err (l : List Int) (a : Int) : (unquoteR l a).2.2 ≠ 0 → (unquoteR l a).1 = [] ∧ (unquoteR l a).2.1 = 0 := by
  unfold unquoteR
  repeat' split
  all_goals (first | exact unqR_err _ _ _ _ | (intro _; exact ⟨rfl, rfl⟩))
end Go.Proofs.YtjioglaobabmmaaDoor.Pure
