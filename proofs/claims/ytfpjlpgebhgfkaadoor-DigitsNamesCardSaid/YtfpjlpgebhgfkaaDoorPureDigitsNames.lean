/- DigitsNames: the plain law: its loops ask the laws that are proved of all inputs. -/
import Derived.Test.YtfpjlpgebhgfkaaDoorP8
import Derived.Test.YtfpjlpgebhgfkaaDoorPureDigitsRuns
import Derived.Test.YtfpjlpgebhgfkaaDoorPureDigitsParses
import Derived.Test.YtfpjlpgebhgfkaaDoorPureDigitsTexts
namespace Go.Proofs.YtfpjlpgebhgfkaaDoor.Pure
open Go.RowKit Go.Proofs.YtfpjlpgebhgfkaaDoor.P Go.Proofs.YtfpjlpgebhgfkaaDoorW.PrintWords Go.Proofs.YtfpjlpgebhgfkaaDoorW.PrintMore
set_option linter.unusedVariables false
set_option linter.unusedSimpArgs false
theorem nm_u8 {x : Int} (h : 0 ≤ x ∧ x ≤ 255) : (Lit.int .u8 x).wf = true :=
  (Lit.wf_int_iff _ _).2 (by simpa [IntKind.min, IntKind.max, IntKind.bits, IntKind.signed] using h)
theorem nm_i64 {x : Int} (h : -9223372036854775808 ≤ x ∧ x ≤ 9223372036854775807) : (Lit.int .i64 x).wf = true :=
  (Lit.wf_int_iff _ _).2 (by simpa [IntKind.min, IntKind.max, IntKind.bits, IntKind.signed] using h)
theorem nm_bytes (s : ByteArray) : ∀ x ∈ bytesOf s, (Lit.int .u8 x).wf = true := by
  intro x hx
  unfold bytesOf at hx
  obtain ⟨b, _, rfl⟩ := List.mem_map.mp hx
  have := b.toNat_lt
  exact nm_u8 (by omega)
theorem nm_runs (l : List Int) (a : Int) (hl : l.length ≤ 2000) (hb : ∀ x ∈ l, (Lit.int .u8 x).wf = true) (ha : -9223372036854775808 ≤ a ∧ a ≤ 9223372036854775807) : Ev (fun k => colophonlaw05_DigitsRuns.f k l a) true := by
  obtain ⟨k, h⟩ := DigitsRuns l a (by unfold maxLen; omega) (by omega) hb (nm_i64 ha)
  exact Ev.of (fun k => colophonlaw05_DigitsRuns.mono _ _ k) h
theorem nm_parses (l : List Int) (a : Int) (hl : l.length ≤ 2000) (hb : ∀ x ∈ l, (Lit.int .u8 x).wf = true) (ha : -9223372036854775808 ≤ a ∧ a ≤ 9223372036854775807) : Ev (fun k => colophonlaw05_DigitsParses.f k l a) true := by
  obtain ⟨k, h⟩ := DigitsParses l a (by unfold maxLen; omega) (by omega) hb (nm_i64 ha)
  exact Ev.of (fun k => colophonlaw05_DigitsParses.mono _ _ k) h
theorem nm_texts (a : Int) (ha : -9223372036854775808 ≤ a ∧ a ≤ 9223372036854775807) : Ev (fun k => colophonlaw05_DigitsTexts.f k a) true := by
  obtain ⟨k, h⟩ := DigitsTexts a (nm_i64 ha)
  exact Ev.of (fun k => colophonlaw05_DigitsTexts.mono _ k) h
theorem nm_rd (l : List Int) (h : ∀ x ∈ l, -9223372036854775808 ≤ x ∧ x ≤ 9223372036854775807) (i : Int) : -9223372036854775808 ≤ rd l i ∧ rd l i ≤ 9223372036854775807 := by
  unfold rd
  rw [List.getD_eq_getElem?_getD]
  cases hg : l[i.toNat]? with
  | none => exact ⟨by decide, by decide⟩
  | some v => exact h v (List.mem_of_getElem? hg)
theorem nm_wrap {i : Int} (h0 : -9223372036854775808 ≤ i) (h : i < 9223372036854775808) : wrap64 i = i := by unfold wrap64; omega
theorem nm_l2 (L : List Int) (hL : ∀ x ∈ L, -9223372036854775808 ≤ x ∧ x ≤ 9223372036854775807) (hn : L.length ≤ 1000) (d : Nat) : ∀ i : Nat, i + d = L.length → Ev (fun k => colophonlaw05_DigitsNames.l2 k L i) true := by
  induction d with
  | zero =>
    intro i hi
    refine Ev.step (fun k => by simp only [colophonlaw05_DigitsNames.l2]; rw [if_neg (by omega)]) (Ev.bind (Ev.of (fun k => colophonlaw05_awake.mono k) awake_true) ?_)
    simp only [if_true]
    exact Ev.bind (nm_runs [] 0 (by simp) (fun x hx => by cases hx) (by omega)) (Ev.now _)
  | succ d ih =>
    intro i hi
    have hw : wrap64 ((i : Int) + 1) = ((i + 1 : Nat) : Int) := by rw [nm_wrap (by omega) (by omega)]; rfl
    refine Ev.step (fun k => by simp only [colophonlaw05_DigitsNames.l2]; rw [if_pos (by omega), if_pos (by omega), hw]) (Ev.bind (nm_texts _ (nm_rd L hL _)) ?_)
    simp only [if_true]
    exact ih (i + 1) (by omega)
theorem nm_l1 (m : Int) (S : List ByteArray) (hS : ∀ j : Int, (rdOf ByteArray.empty S j).size ≤ 1000) (L : List Int) (hL : ∀ x ∈ L, -9223372036854775808 ≤ x ∧ x ≤ 9223372036854775807) (hn : S.length ≤ 1000) (hm : L.length ≤ 1000) (i : Nat) (hi : i < S.length)
    (next : Ev (fun k => colophonlaw05_DigitsNames.l0 k m S L ((i + 1 : Nat) : Int)) true) (d : Nat) : ∀ j : Nat, j + d = L.length → Ev (fun k => colophonlaw05_DigitsNames.l1 k m S L i j) true := by
  have hw : wrap64 ((i : Int) + 1) = ((i + 1 : Nat) : Int) := by rw [nm_wrap (by omega) (by omega)]; rfl
  have hs := hS i
  induction d with
  | zero =>
    intro j hj
    refine Ev.step (fun k => ?_) next
    simp only [colophonlaw05_DigitsNames.l1]
    rw [if_neg (by omega), hw]
  | succ d ih =>
    intro j hj
    have hwj : wrap64 ((j : Int) + 1) = ((j + 1 : Nat) : Int) := by rw [nm_wrap (by omega) (by omega)]; rfl
    have hwm : wrap64 ((j : Int) - 1) = (j : Int) - 1 := nm_wrap (by omega) (by omega)
    have hx : X_bytes.f (rdOf ByteArray.empty S i) = some (bytesOf (rdOf ByteArray.empty S i)) := by unfold X_bytes.f; rw [if_pos (by omega)]
    have hl : (bytesOf (rdOf ByteArray.empty S i)).length ≤ 2000 := by rw [bytesOf_length]; omega
    refine Ev.step (fun k => by simp only [colophonlaw05_DigitsNames.l1]; rw [if_pos (by omega), if_pos (by omega), if_pos (by omega), hx, Option.bind_some, if_pos (by omega), hwj, hwm]) (Ev.bind (nm_parses _ _ hl (nm_bytes _) (nm_rd L hL _)) ?_)
    simp only [if_true, Option.bind_some]
    refine Ev.bind (nm_runs _ _ hl (nm_bytes _) (by omega)) ?_
    simp only [if_true]
    exact ih (j + 1) (by omega)
theorem nm_l0 (S : List ByteArray) (hS : ∀ j : Int, (rdOf ByteArray.empty S j).size ≤ 1000) (L : List Int) (hL : ∀ x ∈ L, -9223372036854775808 ≤ x ∧ x ≤ 9223372036854775807) (hn : S.length ≤ 1000) (hm : L.length ≤ 1000) (d : Nat) : ∀ i : Nat, i + d = S.length → Ev (fun k => colophonlaw05_DigitsNames.l0 k 9223372036854775807 S L i) true := by
  induction d with
  | zero =>
    intro i hi
    have h2 := nm_l2 [0, 9, 10, 99, 100, 9223372036854775807, wrap64 ((wrap64 (-9223372036854775807)) - 1), (-1)] (by decide +kernel) (by decide) 8 0 rfl
    refine Ev.step (fun k => ?_) h2
    simp only [colophonlaw05_DigitsNames.l0]
    rw [if_neg (by omega)]
    rfl
  | succ d ih =>
    intro i hi
    refine Ev.step (fun k => ?_) (nm_l1 9223372036854775807 S hS L hL hn hm i (by omega) (ih (i + 1) (by omega)) L.length 0 (by omega))
    simp only [colophonlaw05_DigitsNames.l0]
    rw [if_pos (by omega)]
    rfl
theorem nm_le (L : List ByteArray) (h : ∀ s ∈ L, s.size ≤ 1000) (j : Int) : (rdOf ByteArray.empty L j).size ≤ 1000 := by
  unfold rdOf
  rw [List.getD_eq_getElem?_getD]
  cases hg : L[j.toNat]? with
  | none => exact Nat.zero_le _
  | some v => exact h v (List.mem_of_getElem? hg)
theorem DigitsNames : colophonlaw05_DigitsNames.Pure := by
  refine Ev.rounds ?_
  unfold colophonlaw05_DigitsNames.f
  exact nm_l0 _ (nm_le _ (by decide)) _ (by decide) (by decide) (by decide) 16 0 rfl
end Go.Proofs.YtfpjlpgebhgfkaaDoor.Pure
