/- strings.IndexRune over the five marks, at a character of more than one byte. -/
import Derived.Test.YtjioglaobabmmaaDoorShelf
import Derived.WalkKit
import Derived.WalkSpells
import Derived.WalkLawsBesides
import Derived.WalkMore
namespace Go.Proofs.YtjioglaobabmmaaDoor.P
open Go.RowKit
set_option linter.unusedVariables false
set_option linter.unusedSimpArgs false
theorem run_conv_rune (r : Int) (w : World) : (Go.convert 21 9 (.int .i32 r)).run Tryd.prog w = .ok (.string (Utf8.encode r)) w := by
  simp [convert, run_underlying Tryd.underlying21, run_underlying Tryd.underlying9, Conv.intToString]
theorem indexByte_none : ∀ (l : List UInt8) (c : UInt8), (∀ b ∈ l, b < 128) → 128 ≤ c → Lib.indexByte l c = -1
  | [], _, _, _ => rfl
  | b :: l, c, hl, hc => by
    have h1 : b < 128 := hl b (by simp)
    have h2 := indexByte_none l c (fun x hx => hl x (by simp [hx])) hc
    have h3 : (b == c) = false := by
      rw [beq_eq_false_iff_ne]
      intro h
      subst h
      exact absurd hc (by simpa using h1)
    simp [Lib.indexByte, h3, h2]
theorem indexByte_high (s : ByteArray) (u : UInt8) (w : World) (hs : ∀ b ∈ s.data.toList, b < 128) (hc : 128 ≤ u) :
    Calls Tryd.prog 42 #[.string s, .int .u8 u.toNat] w fun e w' => e = .returned (.int .i64 (-1)) ∧ w' = w := by
  have h := Tryd.strings_IndexByte s u.toNat w
  rw [show ((u.toNat : Int)).toNat.toUInt8 = u by simp, indexByte_none _ _ hs hc] at h
  exact h
set_option maxHeartbeats 4000000 in
set_option maxRecDepth 100000 in
theorem indexRune_lone (w : World) : Calls Tryd.prog 26 #[.string ⟨#[8, 12, 10, 13, 9]⟩, .int .i32 65533] w fun e w' => e = .returned (.int .i64 (-1)) ∧ Below w.heap.size w w' := by
  go_enter Tryd.func26, Tryd.ntmps26
  go_wp2
  go_loopw [] (fun wr => ∃ pos : Nat, wr.heap[w.heap.size]? = some (.stringIter ⟨#[8, 12, 10, 13, 9]⟩ pos) ∧ Below w.heap.size w wr) (fun wr => 5 - wr.iterPos w.heap.size)
  case atStart =>
    refine ⟨0, ?_, (Below.refl _ w).alloc (Nat.le_refl _) _⟩
    have := World.iter_heap w ⟨#[8, 12, 10, 13, 9]⟩ 0
    simpa using this
  case round =>
    obtain ⟨pos, hit, hbw⟩ := hrel
    by_cases hp : pos < (⟨#[8, 12, 10, 13, 9]⟩ : ByteArray).size
    · have hnx : ∀ ty, (Instr.next (.pointer (some ⟨w.heap.size, 0, none⟩)) true ty).run Tryd.prog wr = _ := fun ty => Lib.run_next_any_at wr w.heap.size ⟨#[8, 12, 10, 13, 9]⟩ pos ty hit hp
      have hd : (Utf8.decode ⟨#[8, 12, 10, 13, 9]⟩ pos).1 ≠ 65533 ∧ (Utf8.decode ⟨#[8, 12, 10, 13, 9]⟩ pos).2 = 1 := by
        have hp' : pos < 5 := hp
        match pos, hp' with
        | 0, _ => decide +kernel
        | 1, _ => decide +kernel
        | 2, _ => decide +kernel
        | 3, _ => decide +kernel
        | 4, _ => decide +kernel
        | n + 5, h => exact absurd h (by omega)
      have hsz : w.heap.size < wr.heap.size := (Array.getElem?_eq_some_iff.1 hit).1
      have hit2 := Lib.iterAt_heap wr w.heap.size ⟨#[8, 12, 10, 13, 9]⟩ pos (pos + (Utf8.decode ⟨#[8, 12, 10, 13, 9]⟩ pos).2) hit
      have hbw2 := Lib.below_iterAt hbw (k := w.heap.size) (by omega) ⟨#[8, 12, 10, 13, 9]⟩ (pos + (Utf8.decode ⟨#[8, 12, 10, 13, 9]⟩ pos).2)
      have hne : (((Utf8.decode ⟨#[8, 12, 10, 13, 9]⟩ pos).1 : Int) == 65533) = false := by
        simp only [beq_eq_false_iff_ne]; omega
      rw [hd.2] at hit2 hbw2
      go_wp2
      go_roundw
      case rel => exact ⟨_, hit2, hbw2⟩
      case measure =>
        simp only [World.iterPos, hit2, hit]
        have : pos < 5 := hp
        omega
    · have hnx : ∀ ty, (Instr.next (.pointer (some ⟨w.heap.size, 0, none⟩)) true ty).run Tryd.prog wr = _ := fun ty => Lib.run_next_end_at wr w.heap.size ⟨#[8, 12, 10, 13, 9]⟩ pos ty hit hp
      go_wp2
      go_ret
      exact ⟨rfl, hbw⟩
theorem enc_spec (r : Int) (h0 : 128 ≤ r) (h1 : r ≤ 1114111) (hv : (!Lib.validRune r) = false) : (∃ a u, Utf8.encode r = ⟨#[a, u]⟩ ∧ 128 ≤ u) ∨ (∃ a b u, Utf8.encode r = ⟨#[a, b, u]⟩ ∧ 128 ≤ u) ∨ (∃ a b c u, Utf8.encode r = ⟨#[a, b, c, u]⟩ ∧ 128 ≤ u) := by
  have hu : ∀ n : Nat, (128 : UInt8) ≤ UInt8.ofNat (128 + n % 64) := by
    intro n
    show (128 : UInt8).toNat ≤ (UInt8.ofNat (128 + n % 64)).toNat
    rw [UInt8.toNat_ofNat']
    show 128 ≤ (128 + n % 64) % 256
    omega
  have hval : Utf8.valid r = true := by
    simp only [Lib.validRune, Utf8.valid, Utf8.valid, Bool.not_eq_false', Bool.or_eq_true, Bool.and_eq_true, decide_eq_true_eq] at hv ⊢
    omega
  unfold Utf8.encode
  simp only [hval, if_true]
  have h8 : ¬ r.toNat < 128 := by omega
  rw [if_neg h8]
  by_cases ha : r.toNat < 2048
  · rw [if_pos ha]; exact Or.inl ⟨_, _, rfl, hu _⟩
  · rw [if_neg ha]
    by_cases hb : r.toNat < 65536
    · rw [if_pos hb]; exact Or.inr (Or.inl ⟨_, _, _, rfl, hu _⟩)
    · rw [if_neg hb]; exact Or.inr (Or.inr ⟨_, _, _, _, rfl, hu _⟩)
set_option maxHeartbeats 4000000 in
set_option maxRecDepth 100000 in
theorem indexRune_2 (r : Int) (h0 : 128 ≤ r) (h1 : r ≤ 1114111) (hne : r ≠ 65533) (hv : (!Lib.validRune r) = false) (a u : UInt8) (he : Utf8.encode r = ⟨#[a, u]⟩) (hu : 128 ≤ u) (w : World) : Calls Tryd.prog 26 #[.string ⟨#[8, 12, 10, 13, 9]⟩, .int .i32 r] w fun e w' => e = .returned (.int .i64 (-1)) ∧ Below w.heap.size w w' := by
  have hcv : ∀ w, (Go.convert 21 9 (.int .i32 r)).run Tryd.prog w = .ok (.string ⟨#[a, u]⟩) w := fun w => by rw [run_conv_rune, he]
  have hi : 1 < (⟨#[a, u]⟩ : ByteArray).size := Nat.lt_succ_self _
  have hd : (((⟨#[8, 12, 10, 13, 9]⟩ : ByteArray)[1].toNat : Int) != ((⟨#[a, u]⟩ : ByteArray)[1].toNat : Int)) = true := by
    simp only [bne_iff_ne, ne_eq]
    have hu' : 128 ≤ u.toNat := hu
    show ¬ ((12 : Int) = (u.toNat : Int))
    omega
  go_enter Tryd.func26, Tryd.ntmps26
  go_wp2_with (first | (go_at_call 43; refine (Tryd.utf8_ValidRune _ _).mono ?_; rintro e w' ⟨rfl, rfl⟩))
  refine wp_scope_straight ?_
  go_wp2
  refine wp_loop_rounds 1 ?_
  rw [rounds_succ]
  go_wp2
  refine wp_scope_straight ?_
  go_wp2
  go_region_with (first | (go_at_call 42; refine (Tryd.strings_IndexByte _ _ _).mono ?_; rintro e w' ⟨rfl, rfl⟩))
  all_goals (go_wp2_with (rename_i h; exact absurd (hd.symm.trans h) (by decide)))
  all_goals (go_region_with (first | (go_at_call 42; refine (indexByte_high _ u _ (by decide) hu).mono ?_; rintro e w' ⟨rfl, rfl⟩)))
  all_goals go_wp2
  all_goals (simp only [Exit.noGoto_ret, Exit.then, Exit.inBlock])
  all_goals go_ret
  all_goals exact ⟨rfl, ((Below.refl _ _).drew).drew⟩
set_option maxHeartbeats 4000000 in
set_option maxRecDepth 100000 in
theorem indexRune_3 (r : Int) (h0 : 128 ≤ r) (h1 : r ≤ 1114111) (hne : r ≠ 65533) (hv : (!Lib.validRune r) = false) (a b u : UInt8) (he : Utf8.encode r = ⟨#[a, b, u]⟩) (hu : 128 ≤ u) (w : World) : Calls Tryd.prog 26 #[.string ⟨#[8, 12, 10, 13, 9]⟩, .int .i32 r] w fun e w' => e = .returned (.int .i64 (-1)) ∧ Below w.heap.size w w' := by
  have hcv : ∀ w, (Go.convert 21 9 (.int .i32 r)).run Tryd.prog w = .ok (.string ⟨#[a, b, u]⟩) w := fun w => by rw [run_conv_rune, he]
  have hi : 2 < (⟨#[a, b, u]⟩ : ByteArray).size := Nat.lt_succ_self _
  have hd : (((⟨#[8, 12, 10, 13, 9]⟩ : ByteArray)[2].toNat : Int) != ((⟨#[a, b, u]⟩ : ByteArray)[2].toNat : Int)) = true := by
    simp only [bne_iff_ne, ne_eq]
    have hu' : 128 ≤ u.toNat := hu
    show ¬ ((10 : Int) = (u.toNat : Int))
    omega
  go_enter Tryd.func26, Tryd.ntmps26
  go_wp2_with (first | (go_at_call 43; refine (Tryd.utf8_ValidRune _ _).mono ?_; rintro e w' ⟨rfl, rfl⟩))
  refine wp_scope_straight ?_
  go_wp2
  refine wp_loop_rounds 1 ?_
  rw [rounds_succ]
  go_wp2
  refine wp_scope_straight ?_
  go_wp2
  go_region_with (first | (go_at_call 42; refine (Tryd.strings_IndexByte _ _ _).mono ?_; rintro e w' ⟨rfl, rfl⟩))
  all_goals (go_wp2_with (rename_i h; exact absurd (hd.symm.trans h) (by decide)))
  all_goals (go_region_with (first | (go_at_call 42; refine (indexByte_high _ u _ (by decide) hu).mono ?_; rintro e w' ⟨rfl, rfl⟩)))
  all_goals go_wp2
  all_goals (simp only [Exit.noGoto_ret, Exit.then, Exit.inBlock])
  all_goals go_ret
  all_goals exact ⟨rfl, ((Below.refl _ _).drew).drew⟩
set_option maxHeartbeats 4000000 in
set_option maxRecDepth 100000 in
theorem indexRune_4 (r : Int) (h0 : 128 ≤ r) (h1 : r ≤ 1114111) (hne : r ≠ 65533) (hv : (!Lib.validRune r) = false) (a b c u : UInt8) (he : Utf8.encode r = ⟨#[a, b, c, u]⟩) (hu : 128 ≤ u) (w : World) : Calls Tryd.prog 26 #[.string ⟨#[8, 12, 10, 13, 9]⟩, .int .i32 r] w fun e w' => e = .returned (.int .i64 (-1)) ∧ Below w.heap.size w w' := by
  have hcv : ∀ w, (Go.convert 21 9 (.int .i32 r)).run Tryd.prog w = .ok (.string ⟨#[a, b, c, u]⟩) w := fun w => by rw [run_conv_rune, he]
  have hi : 3 < (⟨#[a, b, c, u]⟩ : ByteArray).size := Nat.lt_succ_self _
  have hd : (((⟨#[8, 12, 10, 13, 9]⟩ : ByteArray)[3].toNat : Int) != ((⟨#[a, b, c, u]⟩ : ByteArray)[3].toNat : Int)) = true := by
    simp only [bne_iff_ne, ne_eq]
    have hu' : 128 ≤ u.toNat := hu
    show ¬ ((13 : Int) = (u.toNat : Int))
    omega
  go_enter Tryd.func26, Tryd.ntmps26
  go_wp2_with (first | (go_at_call 43; refine (Tryd.utf8_ValidRune _ _).mono ?_; rintro e w' ⟨rfl, rfl⟩))
  refine wp_scope_straight ?_
  go_wp2
  refine wp_loop_rounds 1 ?_
  rw [rounds_succ]
  go_wp2
  refine wp_scope_straight ?_
  go_wp2
  go_region_with (first | (go_at_call 42; refine (Tryd.strings_IndexByte _ _ _).mono ?_; rintro e w' ⟨rfl, rfl⟩))
  all_goals (go_wp2_with (rename_i h; exact absurd (hd.symm.trans h) (by decide)))
  all_goals (go_region_with (first | (go_at_call 42; refine (indexByte_high _ u _ (by decide) hu).mono ?_; rintro e w' ⟨rfl, rfl⟩)))
  all_goals go_wp2
  all_goals (simp only [Exit.noGoto_ret, Exit.then, Exit.inBlock])
  all_goals go_ret
  all_goals exact ⟨rfl, ((Below.refl _ _).drew).drew⟩
theorem indexRune_high (r : Int) (h0 : 128 ≤ r) (h1 : r ≤ 1114111) (hv : Lib.validRune r = true) (w : World) : Calls Tryd.prog 26 #[.string ⟨#[8, 12, 10, 13, 9]⟩, .int .i32 r] w fun e w' => e = .returned (.int .i64 (-1)) ∧ Below w.heap.size w w' := by
  by_cases hne : r = 65533
  · subst hne; exact indexRune_lone w
  · have hv' : (!Lib.validRune r) = false := by rw [hv]; rfl
    rcases enc_spec r h0 h1 hv' with ⟨a, u, he, hu⟩ | ⟨a, b, u, he, hu⟩ | ⟨a, b, c, u, he, hu⟩
    · exact indexRune_2 r h0 h1 hne hv' a u he hu w
    · exact indexRune_3 r h0 h1 hne hv' a b u he hu w
    · exact indexRune_4 r h0 h1 hne hv' a b c u he hu w
end Go.Proofs.YtjioglaobabmmaaDoor.P
