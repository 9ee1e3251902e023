/- escape.Quote in the printed form: the document's walk over the runes of the text, into a strings.Builder. -/
import Derived.Test.YtjioglaobabmmaaDoorP1
import Derived.Test.YtjioglaobabmmaaDoorShelf
import Derived.Test.YtjioglaobabmmaaDoorBuilder
import Derived.Test.YtjioglaobabmmaaDoorRune
import Derived.Test.YtjioglaobabmmaaDoorFmt
import Derived.Shelf.Strings.MapGrows
import Derived.Lib.BufferKept
import Derived.WalkKit
import Derived.BigCall
namespace Go.Proofs.YtjioglaobabmmaaDoor.P
open Go.RowKit Go.Proofs.YtjioglaobabmmaaDoorW.PrintWords Go.Proofs.YtjioglaobabmmaaDoorW.PrintLast Go.Proofs.YtjioglaobabmmaaDoorW.PrintMore
set_option linter.unusedVariables false
set_option linter.unusedSimpArgs false
/-- Where a character stands among the five marks. -/
def markAt (c : Int) : Int := if c = 8 then 0 else if c = 12 then 1 else if c = 10 then 2 else if c = 13 then 3 else if c = 9 then 4 else -1
/-- A character, as JSON has it. -/
def qc (c : Nat) : List UInt8 :=
  if c = 8 then [92, 98] else if c = 12 then [92, 102] else if c = 10 then [92, 110] else if c = 13 then [92, 114] else if c = 9 then [92, 116]
  else if c = 34 ∨ c = 92 then 92 :: Lib.encodeRune c
  else if c < 32 then [92, 117] ++ List.replicate (4 - (hex32 c).length) 48 ++ hex32 c
  else Lib.encodeRune c
def qfrom (s : ByteArray) : Nat → Nat → List UInt8
  | 0, _ => []
  | f + 1, pos => if pos < s.size then qc (Utf8.decode s pos).1 ++ qfrom s f (pos + (Utf8.decode s pos).2) else []
theorem qfrom_end (s : ByteArray) (f pos : Nat) (h : ¬ pos < s.size) : qfrom s f pos = [] := by
  cases f with
  | zero => rfl
  | succ f => simp [qfrom, h]
def escape_Quote.f (k : Nat) (s : ByteArray) : Option (ByteArray × Int) :=
  (X_bytes.f s).bind fun b => (runes_Check.f k b).bind fun t => if t.2 = 0 then (if 6 * s.size + 2 ≤ 140737488355328 then some (⟨(34 :: (qfrom s s.size 0 ++ [34])).toArray⟩, 0) else none) else some (⟨#[]⟩, 10)
theorem escape_Quote.mono (s : ByteArray) (k : Nat) : LeO (escape_Quote.f k s) (escape_Quote.f (k + 1) s) := by
  intro r h
  unfold escape_Quote.f at h ⊢
  obtain ⟨b, h1, h⟩ := Option.bind_eq_some_iff.mp h
  obtain ⟨t, h2, h⟩ := Option.bind_eq_some_iff.mp h
  rw [h1, Option.bind_some, runes_Check.mono _ k _ h2, Option.bind_some]
  exact h
theorem decode_valid (s : ByteArray) (pos : Nat) : Lib.validRune ((Utf8.decode s pos).1 : Int) = true := by
  have hv : ∀ c : Nat, Utf8.valid (c : Int) = true → Lib.validRune (c : Int) = true := by
    intro c h
    simp only [Lib.validRune, Utf8.valid, Bool.or_eq_true, Bool.and_eq_true, decide_eq_true_eq] at h ⊢
    omega
  have hs : ∀ c : Nat, c < 2048 → Lib.validRune (c : Int) = true := by
    intro c h
    simp only [Lib.validRune, decide_eq_true_eq]
    omega
  have he : Lib.validRune ((Utf8.runeError : Nat) : Int) = true := by decide
  unfold Utf8.decode
  dsimp only
  split
  · exact hs _ (by omega)
  · split
    · split
      · exact hs _ (by dsimp only; omega)
      · exact he
    · split
      · split
        · rename_i h
          simp only [Bool.and_eq_true] at h
          exact hv _ h.2
        · exact he
      · split
        · split
          · rename_i h
            simp only [Bool.and_eq_true] at h
            exact hv _ h.2
          · exact he
        · exact he
theorem marks_index (c : Int) (h0 : 0 ≤ c) (h1 : c < 128) : Lib.indexByte (⟨#[8, 12, 10, 13, 9]⟩ : ByteArray).data.toList c.toNat.toUInt8 = markAt c := by
  obtain ⟨n, rfl⟩ := Int.eq_ofNat_of_zero_le h0
  have hn : n < 128 := by omega
  have : ∀ n : Nat, n < 128 → Lib.indexByte (⟨#[8, 12, 10, 13, 9]⟩ : ByteArray).data.toList ((n : Int)).toNat.toUInt8 = markAt n := by decide +kernel
  exact this n hn
theorem idxRune (c : Int) (h0 : 0 ≤ c) (hv : Lib.validRune c = true) (w : World) :
    Calls Tryd.prog 26 #[.string ⟨#[8, 12, 10, 13, 9]⟩, .int .i32 c] w fun e w' => e = .returned (.int .i64 (markAt c)) ∧ Below w.heap.size w w' := by
  by_cases h : c < 128
  · refine (Tryd.strings_IndexRune_ascii _ c w h0 h).mono ?_
    rintro e w' ⟨rfl, rfl⟩
    rw [marks_index c h0 h]
    exact ⟨rfl, Below.refl _ _⟩
  · have hle : c ≤ 1114111 := by
      simp only [Lib.validRune, decide_eq_true_eq] at hv
      omega
    refine (indexRune_high c (by omega) hle hv w).mono ?_
    rintro e w' ⟨rfl, hb⟩
    have : markAt c = -1 := by simp only [markAt]; repeat rw [if_neg (by omega)]
    rw [this]
    exact ⟨rfl, hb⟩
theorem hex32_len (c : Nat) : 1 ≤ (hex32 c).length ∧ (hex32 c).length ≤ 2 := by
  unfold hex32
  repeat' split
  all_goals simp
theorem qc_len (c : Nat) : (qc c).length ≤ 6 := by
  have h1 := Lib.runeCells_le (c : Int)
  rw [Lib.runeCells_length] at h1
  have h2 := hex32_len c
  unfold qc
  repeat' split
  all_goals simp
  all_goals omega
theorem TAB.cell15 {w : World} (h : TAB w) : w.cell? ⟨3, 15, none⟩ = some (.int .u8 4) := Lib.TabIs.cell h (g := 3) (by kernel_rfl) 15 (by decide)
theorem repeatL_one (n : Nat) : Lib.repeatL [48] n = List.replicate n 48 := by
  induction n with
  | zero => rfl
  | succ n ih => rw [Lib.repeatL, ih, List.replicate_succ]; rfl
theorem rep0 (n : Nat) (hn : n ≤ 2) (w : World) : Calls Tryd.prog 30 #[.string ⟨#[48]⟩, .int .i64 (4 - (n : Int))] w fun e w' => e = .returned (.string ⟨(List.replicate (4 - n) 48).toArray⟩) ∧ Below w.heap.size w w' := by
  have h := Tryd.strings_Repeat ⟨#[48]⟩ (4 - n) w (by omega) (by show 1 * (4 - n) ≤ _; omega)
  rw [show ((4 - n : Nat) : Int) = 4 - (n : Int) by omega] at h
  refine h.mono ?_
  rintro e w' ⟨rfl, hb⟩
  exact ⟨by rw [show (⟨#[48]⟩ : ByteArray).data.toList = [48] from rfl, repeatL_one], hb⟩
theorem width_pos (s : ByteArray) (pos : Nat) (h : pos < s.size) : 1 ≤ (Utf8.decode s pos).2 := by
  by_cases ha : (s[pos]'h).toNat < 128
  · rw [decode_ascii s pos h ha]
    exact Nat.le_refl _
  · exact (decode_high s pos h (by omega)).2
set_option maxHeartbeats 4000000 in
set_option maxRecDepth 1000000 in
theorem escape_Quote.calls (k : Nat) (s : ByteArray) (r1 : ByteArray) (r2 : Int) (w : World) (hT : TAB w) (h : escape_Quote.f k s = some (r1, r2)) :
    Calls Tryd.prog 10 #[.string s] w fun e w' => e = .returned (.tuple #[.string r1, .int .i64 r2]) ∧ Below w.heap.size w w' := by
  have HB := Aside0.mk (Below.refl w.heap.size w)
  unfold escape_Quote.f at h
  obtain ⟨b, A2, h⟩ := Option.bind_eq_some_iff.mp h
  obtain ⟨⟨t1, t2⟩, A3, h⟩ := Option.bind_eq_some_iff.mp h
  dsimp only at h
  go_enter Tryd.func10, Tryd.ntmps10
  by_cases ht : t2 = 0
  · rw [if_pos ht] at h
    subst ht
    split at h
    · rename_i hsz
      obtain ⟨rfl, rfl⟩ := Prod.mk.inj (Option.some.inj h)
      go_wp2_with (first | ((with_reducible refine gate_dst (N := 13) rfl ?_); refine conv_run rfl (.tmp 12) 9 27 5 rfl Tryd.underlying9 Tryd.underlying27 Tryd.underlying5 s rfl A2 ?_; intro v wv ho hb; obtain ⟨Ao, co, eo⟩ := Kd.V_slice ho; subst eo) | (go_at_call 24; refine (runes_Check.calls k _ _ b t1 0 _ (Kd.V_reads' ho).2.2 (Kd.V_reads' ho).2.1 A3).mono ?_; rintro e w' ⟨rfl, nd, rfl⟩))
      have hB : w.heap.size ≤ wv.heap.size := hb.size
      have hIB : Lib.IsBuilderF 50 5 wv.heap.size wv.heap.size (Lib.byteCells []) ((wv.drewN nd).alloc (.cells #[.pointer none, .slice none 0 0] 50)) := Lib.IsBuilderF.of (Lib.fresh_isBuilder 50 5 (wv.drewN nd))
      refine (WriteByte_k wv.heap.size wv.heap.size _ 34 _ hIB (by rw [Lib.byteCells_length]; simp) (by simp [World.alloc])).mono ?_
      rintro e W1 ⟨rfl, h1, b1, k1⟩
      have hW1 : Below w.heap.size w W1 := below_weaken (below_alloc (pw_below_drewN hb nd) _) hB b1
      have hsz1 : wv.heap.size < W1.heap.size := h1.lt
      go_wp2
      go_loopw [] (fun wr => ∃ (pos fuel : Nat) (acc : List UInt8), Lib.IsBuilderF 50 5 wv.heap.size wv.heap.size (Lib.byteCells acc) wr ∧ wr.heap[W1.heap.size]? = some (.stringIter s pos) ∧ Below w.heap.size w wr ∧ acc ++ qfrom s fuel pos = 34 :: qfrom s s.size 0 ∧ s.size ≤ pos + fuel ∧ acc.length + 6 * fuel ≤ 6 * s.size + 1) (fun wr => s.size - wr.iterPos (W1.heap.size))
      case atStart =>
        refine ⟨0, s.size, [34], Lib.IsBuilderF.alloc (Or.inr h1) _, ?_, below_alloc hW1 _, rfl, by omega, by simp; omega⟩
        have := World.iter_heap W1 s 0
        simpa using this
      case round =>
        obtain ⟨pos, fuel, acc, hI, hit, hbw, hacc, hfu, hal⟩ := hrel
        have hsz : W1.heap.size < wr.heap.size := (Array.getElem?_eq_some_iff.1 hit).1
        by_cases hp : pos < s.size
        · have hnx : ∀ ty, (Instr.next (.pointer (some ⟨W1.heap.size, 0, none⟩)) true ty).run Tryd.prog wr = _ := fun ty => Lib.run_next_any_at wr W1.heap.size s pos ty hit hp
          have hwd := width_pos s pos hp
          have hd1 := decode_le s pos
          have hval := decode_valid s pos
          have hI2 := hI.iterAt hit (pos + (Utf8.decode s pos).2)
          have hit2 := Lib.iterAt_heap wr W1.heap.size s pos (pos + (Utf8.decode s pos).2) hit
          have hbw2 := Lib.below_iterAt hbw (k := W1.heap.size) (by have := hW1.size; omega) s (pos + (Utf8.decode s pos).2)
          have hsz3 : W1.heap.size < (wr.iterAt W1.heap.size s (pos + (Utf8.decode s pos).2)).heap.size := by rw [Lib.iterAt_size]; omega
          obtain ⟨f, rfl⟩ : ∃ f, fuel = f + 1 := ⟨fuel - 1, by omega⟩
          generalize hdec : Utf8.decode s pos = d at hwd hd1 hval hI2 hit2 hbw2 hsz3 hnx
          obtain ⟨c, n⟩ := d
          dsimp only at hwd hd1 hval hI2 hit2 hbw2 hsz3 hnx
          by_cases h8 : c = 8
          · subst h8
            go_wp2_with (go_at_call 26; refine (idxRune 8 (by decide) hval _).mono ?_; rintro e Wa ⟨rfl, ba⟩; rw [show markAt 8 = 0 from rfl])
            refine (WriteByte_k wv.heap.size wv.heap.size _ 92 _ (hI2.below ba) (by rw [Lib.byteCells_length]; omega) (by have := ba.size; omega)).mono ?_
            rintro e Wb ⟨rfl, h3, b3, k3⟩
            go_wp2_with (go_at_call 25; refine (WriteByte_k wv.heap.size wv.heap.size _ 98 _ (Or.inr h3) (by rw [List.length_append, Lib.byteCells_length]; simp only [List.length_cons, List.length_nil]; omega) (by have := ba.size; have := b3.size; omega)).mono ?_; rintro e Wc ⟨rfl, h4, b4, k4⟩)
            have hit5 := k4.iter (k3.iter (((ba.block _ hsz3)).trans hit2) (by omega)) (by omega)
            go_wp2
            go_roundw
            case rel =>
              refine ⟨pos + n, f, acc ++ qc 8, ?_, hit5, below_weaken (below_weaken (below_step hbw2 ba) (by omega) b3) (by omega) b4, ?_, by omega, ?_⟩
              · rw [Lib.byteCells_append, show qc 8 = [92, 98] from rfl]
                rw [List.append_assoc] at h4
                exact Or.inr h4
              · rw [← hacc]; simp [qfrom, hp, hdec]
              · rw [List.length_append]; have := qc_len 8; omega
            case measure =>
              simp only [World.iterPos, hit5, hit]
              omega
          by_cases h12 : c = 12
          · subst h12
            go_wp2_with (go_at_call 26; refine (idxRune 12 (by decide) hval _).mono ?_; rintro e Wa ⟨rfl, ba⟩; rw [show markAt 12 = 1 from rfl])
            refine (WriteByte_k wv.heap.size wv.heap.size _ 92 _ (hI2.below ba) (by rw [Lib.byteCells_length]; omega) (by have := ba.size; omega)).mono ?_
            rintro e Wb ⟨rfl, h3, b3, k3⟩
            go_wp2_with (go_at_call 25; refine (WriteByte_k wv.heap.size wv.heap.size _ 102 _ (Or.inr h3) (by rw [List.length_append, Lib.byteCells_length]; simp only [List.length_cons, List.length_nil]; omega) (by have := ba.size; have := b3.size; omega)).mono ?_; rintro e Wc ⟨rfl, h4, b4, k4⟩)
            have hit5 := k4.iter (k3.iter (((ba.block _ hsz3)).trans hit2) (by omega)) (by omega)
            go_wp2
            go_roundw
            case rel =>
              refine ⟨pos + n, f, acc ++ qc 12, ?_, hit5, below_weaken (below_weaken (below_step hbw2 ba) (by omega) b3) (by omega) b4, ?_, by omega, ?_⟩
              · rw [Lib.byteCells_append, show qc 12 = [92, 102] from rfl]
                rw [List.append_assoc] at h4
                exact Or.inr h4
              · rw [← hacc]; simp [qfrom, hp, hdec]
              · rw [List.length_append]; have := qc_len 12; omega
            case measure =>
              simp only [World.iterPos, hit5, hit]
              omega
          by_cases h10 : c = 10
          · subst h10
            go_wp2_with (go_at_call 26; refine (idxRune 10 (by decide) hval _).mono ?_; rintro e Wa ⟨rfl, ba⟩; rw [show markAt 10 = 2 from rfl])
            refine (WriteByte_k wv.heap.size wv.heap.size _ 92 _ (hI2.below ba) (by rw [Lib.byteCells_length]; omega) (by have := ba.size; omega)).mono ?_
            rintro e Wb ⟨rfl, h3, b3, k3⟩
            go_wp2_with (go_at_call 25; refine (WriteByte_k wv.heap.size wv.heap.size _ 110 _ (Or.inr h3) (by rw [List.length_append, Lib.byteCells_length]; simp only [List.length_cons, List.length_nil]; omega) (by have := ba.size; have := b3.size; omega)).mono ?_; rintro e Wc ⟨rfl, h4, b4, k4⟩)
            have hit5 := k4.iter (k3.iter (((ba.block _ hsz3)).trans hit2) (by omega)) (by omega)
            go_wp2
            go_roundw
            case rel =>
              refine ⟨pos + n, f, acc ++ qc 10, ?_, hit5, below_weaken (below_weaken (below_step hbw2 ba) (by omega) b3) (by omega) b4, ?_, by omega, ?_⟩
              · rw [Lib.byteCells_append, show qc 10 = [92, 110] from rfl]
                rw [List.append_assoc] at h4
                exact Or.inr h4
              · rw [← hacc]; simp [qfrom, hp, hdec]
              · rw [List.length_append]; have := qc_len 10; omega
            case measure =>
              simp only [World.iterPos, hit5, hit]
              omega
          by_cases h13 : c = 13
          · subst h13
            go_wp2_with (go_at_call 26; refine (idxRune 13 (by decide) hval _).mono ?_; rintro e Wa ⟨rfl, ba⟩; rw [show markAt 13 = 3 from rfl])
            refine (WriteByte_k wv.heap.size wv.heap.size _ 92 _ (hI2.below ba) (by rw [Lib.byteCells_length]; omega) (by have := ba.size; omega)).mono ?_
            rintro e Wb ⟨rfl, h3, b3, k3⟩
            go_wp2_with (go_at_call 25; refine (WriteByte_k wv.heap.size wv.heap.size _ 114 _ (Or.inr h3) (by rw [List.length_append, Lib.byteCells_length]; simp only [List.length_cons, List.length_nil]; omega) (by have := ba.size; have := b3.size; omega)).mono ?_; rintro e Wc ⟨rfl, h4, b4, k4⟩)
            have hit5 := k4.iter (k3.iter (((ba.block _ hsz3)).trans hit2) (by omega)) (by omega)
            go_wp2
            go_roundw
            case rel =>
              refine ⟨pos + n, f, acc ++ qc 13, ?_, hit5, below_weaken (below_weaken (below_step hbw2 ba) (by omega) b3) (by omega) b4, ?_, by omega, ?_⟩
              · rw [Lib.byteCells_append, show qc 13 = [92, 114] from rfl]
                rw [List.append_assoc] at h4
                exact Or.inr h4
              · rw [← hacc]; simp [qfrom, hp, hdec]
              · rw [List.length_append]; have := qc_len 13; omega
            case measure =>
              simp only [World.iterPos, hit5, hit]
              omega
          by_cases h9 : c = 9
          · subst h9
            go_wp2_with (go_at_call 26; refine (idxRune 9 (by decide) hval _).mono ?_; rintro e Wa ⟨rfl, ba⟩; rw [show markAt 9 = 4 from rfl])
            refine (WriteByte_k wv.heap.size wv.heap.size _ 92 _ (hI2.below ba) (by rw [Lib.byteCells_length]; omega) (by have := ba.size; omega)).mono ?_
            rintro e Wb ⟨rfl, h3, b3, k3⟩
            go_wp2_with (go_at_call 25; refine (WriteByte_k wv.heap.size wv.heap.size _ 116 _ (Or.inr h3) (by rw [List.length_append, Lib.byteCells_length]; simp only [List.length_cons, List.length_nil]; omega) (by have := ba.size; have := b3.size; omega)).mono ?_; rintro e Wc ⟨rfl, h4, b4, k4⟩)
            have hit5 := k4.iter (k3.iter (((ba.block _ hsz3)).trans hit2) (by omega)) (by omega)
            go_wp2
            go_roundw
            case rel =>
              refine ⟨pos + n, f, acc ++ qc 9, ?_, hit5, below_weaken (below_weaken (below_step hbw2 ba) (by omega) b3) (by omega) b4, ?_, by omega, ?_⟩
              · rw [Lib.byteCells_append, show qc 9 = [92, 116] from rfl]
                rw [List.append_assoc] at h4
                exact Or.inr h4
              · rw [← hacc]; simp [qfrom, hp, hdec]
              · rw [List.length_append]; have := qc_len 9; omega
            case measure =>
              simp only [World.iterPos, hit5, hit]
              omega
          by_cases h34 : c = 34
          · subst h34
            go_wp2_with (go_at_call 26; refine (idxRune 34 (by decide) hval _).mono ?_; rintro e Wa ⟨rfl, ba⟩; rw [show markAt 34 = -1 from rfl])
            refine (WriteByte_k wv.heap.size wv.heap.size _ 92 _ (hI2.below ba) (by rw [Lib.byteCells_length]; omega) (by have := ba.size; omega)).mono ?_
            rintro e Wb ⟨rfl, h3, b3, k3⟩
            go_wp2_with (go_at_call 27; refine (WriteRune_k wv.heap.size wv.heap.size _ 34 (by decide) (by decide) _ (Or.inr h3) (by rw [List.length_append, Lib.byteCells_length]; simp only [List.length_cons, List.length_nil]; omega) (by have := ba.size; have := b3.size; omega)).mono ?_; rintro e Wc ⟨rfl, h4, b4, k4⟩)
            have hit5 := k4.iter (k3.iter (((ba.block _ hsz3)).trans hit2) (by omega)) (by omega)
            go_wp2
            go_roundw
            case rel =>
              refine ⟨pos + n, f, acc ++ qc 34, ?_, hit5, below_weaken (below_weaken (below_step hbw2 ba) (by omega) b3) (by omega) b4, ?_, by omega, ?_⟩
              · rw [Lib.byteCells_append, show qc 34 = [92, 34] from rfl]
                rw [List.append_assoc] at h4
                exact Or.inr h4
              · rw [← hacc]; simp [qfrom, hp, hdec]
              · rw [List.length_append]; have := qc_len 34; omega
            case measure =>
              simp only [World.iterPos, hit5, hit]
              omega
          by_cases h92 : c = 92
          · subst h92
            go_wp2_with (go_at_call 26; refine (idxRune 92 (by decide) hval _).mono ?_; rintro e Wa ⟨rfl, ba⟩; rw [show markAt 92 = -1 from rfl])
            refine (WriteByte_k wv.heap.size wv.heap.size _ 92 _ (hI2.below ba) (by rw [Lib.byteCells_length]; omega) (by have := ba.size; omega)).mono ?_
            rintro e Wb ⟨rfl, h3, b3, k3⟩
            go_wp2_with (go_at_call 27; refine (WriteRune_k wv.heap.size wv.heap.size _ 92 (by decide) (by decide) _ (Or.inr h3) (by rw [List.length_append, Lib.byteCells_length]; simp only [List.length_cons, List.length_nil]; omega) (by have := ba.size; have := b3.size; omega)).mono ?_; rintro e Wc ⟨rfl, h4, b4, k4⟩)
            have hit5 := k4.iter (k3.iter (((ba.block _ hsz3)).trans hit2) (by omega)) (by omega)
            go_wp2
            go_roundw
            case rel =>
              refine ⟨pos + n, f, acc ++ qc 92, ?_, hit5, below_weaken (below_weaken (below_step hbw2 ba) (by omega) b3) (by omega) b4, ?_, by omega, ?_⟩
              · rw [Lib.byteCells_append, show qc 92 = [92, 92] from rfl]
                rw [List.append_assoc] at h4
                exact Or.inr h4
              · rw [← hacc]; simp [qfrom, hp, hdec]
              · rw [List.length_append]; have := qc_len 92; omega
            case measure =>
              simp only [World.iterPos, hit5, hit]
              omega
          have hm : markAt (c : Int) = -1 := by
            simp only [markAt]
            repeat rw [if_neg (by omega)]
          have e34 : ((c : Int) == 34) = false := beq_eq_false_iff_ne.mpr (by omega)
          have e92 : ((c : Int) == 92) = false := beq_eq_false_iff_ne.mpr (by omega)
          have hq : ¬ (c = 34 ∨ c = 92) := by omega
          have hc0 : 0 ≤ (c : Int) := Int.natCast_nonneg c
          have hc1 : (c : Int) ≤ 1114111 := by
            simp only [Lib.validRune, decide_eq_true_eq] at hval
            omega
          by_cases h32 : c < 32
          · have hqc : qc c = [92, 117] ++ List.replicate (4 - (hex32 c).length) 48 ++ hex32 c := by
              simp only [qc, if_neg h8, if_neg h12, if_neg h10, if_neg h13, if_neg h9, if_neg hq, if_pos h32]
            have h32' : (c : Int) < 32 := by omega
            have hT2 : TAB (wr.iterAt W1.heap.size s (pos + n)) := TAB.below hT hbw2
            have hhl := hex32_len c
            have hql := qc_len c
            have hcat : ∀ x y z : ByteArray, x = ⟨#[92, 117]⟩ → y = ⟨(List.replicate (4 - (hex32 c).length) (48 : UInt8)).toArray⟩ → z = ⟨(hex32 c).toArray⟩ → x ++ y ++ z = ⟨(qc c).toArray⟩ := by
              rintro x y z rfl rfl rfl
              rw [hqc]
              apply ByteArray.ext
              simp
            go_wp2_with (first | (go_at_call 26; refine (idxRune c hc0 hval _).mono ?_; rintro e Wa ⟨rfl, ba⟩; rw [hm]) | (go_at_call 28; refine (fmt16 c h32 _ (TAB.cell15 (hT2.below ba))).mono ?_; rintro e Wb ⟨rfl, bb⟩) | (go_at_call 30; refine (rep0 _ hhl.2 _).mono ?_; rintro e Wc ⟨rfl, bc⟩))
            rw [hcat _ _ _ rfl (by simp) rfl]
            refine (WriteString_k wv.heap.size wv.heap.size _ _ _ (((hI2.below ba).below bb).below bc) (by rw [Lib.byteCells_length]; show acc.length + (qc c).toArray.size ≤ _; rw [List.size_toArray]; omega) (by have := ba.size; have := bb.size; have := bc.size; omega)).mono ?_
            rintro e Wd ⟨rfl, h3, b3, k3⟩
            go_wp2
            have hit5 := k3.iter ((bc.block _ (by have := ba.size; have := bb.size; omega)).trans ((bb.block _ (by have := ba.size; omega)).trans (((ba.block _ hsz3)).trans hit2))) (by omega)
            go_roundw
            case rel =>
              refine ⟨pos + n, f, acc ++ qc c, ?_, hit5, below_weaken (below_step (below_step (below_step hbw2 ba) bb) bc) (by omega) b3, ?_, by omega, ?_⟩
              · rw [Lib.byteCells_append]
                rw [Lib.strCells_toArray] at h3
                exact Or.inr h3
              · rw [← hacc]; simp [qfrom, hp, hdec]
              · rw [List.length_append]; omega
            case measure =>
              simp only [World.iterPos, hit5, hit]
              omega
          · have hqc : qc c = Lib.encodeRune c := by
              simp only [qc, if_neg h8, if_neg h12, if_neg h10, if_neg h13, if_neg h9, if_neg hq, if_neg h32]
            have h32' : ¬ (c : Int) < 32 := by omega
            go_wp2_with (first | (go_at_call 26; refine (idxRune c hc0 hval _).mono ?_; rintro e Wa ⟨rfl, ba⟩; rw [hm]) | (go_at_call 27; refine (WriteRune_k wv.heap.size wv.heap.size _ c (by omega) (by omega) _ (hI2.below ba) (by rw [Lib.byteCells_length]; omega) (by have := ba.size; omega)).mono ?_; rintro e Wb ⟨rfl, h3, b3, k3⟩))
            have hit5 := k3.iter (((ba.block _ hsz3)).trans hit2) (by omega)
            go_roundw
            case rel =>
              refine ⟨pos + n, f, acc ++ qc c, ?_, hit5, below_weaken (below_step hbw2 ba) (by omega) b3, ?_, by omega, ?_⟩
              · rw [Lib.byteCells_append, hqc, Lib.byteCells_encodeRune]
                exact Or.inr h3
              · rw [← hacc]; simp [qfrom, hp, hdec]
              · rw [List.length_append]; have := qc_len c; omega
            case measure =>
              simp only [World.iterPos, hit5, hit]
              omega
        · have hnx : ∀ ty, (Instr.next (.pointer (some ⟨W1.heap.size, 0, none⟩)) true ty).run Tryd.prog wr = _ := fun ty => Lib.run_next_end_at wr W1.heap.size s pos ty hit hp
          rw [qfrom_end s fuel pos hp, List.append_nil] at hacc
          subst hacc
          go_wp2_with (first | (go_at_call 25; refine (WriteByte_k wv.heap.size wv.heap.size _ 34 _ hI (by rw [Lib.byteCells_length]; omega) (by omega)).mono ?_; rintro e Wa ⟨rfl, h3, b3, k3⟩) | (go_at_call 31; refine (Tryd.Builder_String_any_k wv.heap.size wv.heap.size (34 :: (qfrom s s.size 0 ++ [34])) _ (Or.inr (by rw [← List.cons_append, Lib.byteCells_append]; exact h3)) (by have := b3.size; omega)).mono ?_; rintro e Wb ⟨rfl, _, b4, _⟩))
          go_ret2
          exact ⟨rfl, below_weaken (below_weaken hbw hB b3) hB b4⟩
    · cases h
  · rw [if_neg ht] at h
    obtain ⟨rfl, rfl⟩ := Prod.mk.inj (Option.some.inj h)
    have c4b0 : (t2 == 0) = false := beq_eq_false_iff_ne.mpr ht
    have c4b1 : (t2 != 0) = true := bne_iff_ne.mpr ht
    go_wp2_with (first | ((with_reducible refine gate_dst (N := 13) rfl ?_); refine conv_run rfl (.tmp 12) 9 27 5 rfl Tryd.underlying9 Tryd.underlying27 Tryd.underlying5 s rfl A2 ?_; intro v wv ho hb; obtain ⟨Ao, co, eo⟩ := Kd.V_slice ho; subst eo) | (go_at_call 24; refine (runes_Check.calls k _ _ b t1 t2 _ (Kd.V_reads' ho).2.2 (Kd.V_reads' ho).2.1 A3).mono ?_; rintro e w' ⟨rfl, nd, rfl⟩))
    go_ret2
    exact ⟨rfl, pw_below_drewN hb _⟩
end Go.Proofs.YtjioglaobabmmaaDoor.P
