/- EscapeNames: the plain law: its loops ask the laws that are proved of all inputs. -/
import Derived.Test.YtjioglaobabmmaaDoorP10
import Derived.Test.YtjioglaobabmmaaDoorPureEscapeReads
import Derived.Test.YtjioglaobabmmaaDoorPureEscapePairs
import Derived.Test.YtjioglaobabmmaaDoorPureEscapeQuotes
namespace Go.Proofs.YtjioglaobabmmaaDoor.Pure
open Go.RowKit Go.Proofs.YtjioglaobabmmaaDoor.P Go.Proofs.YtjioglaobabmmaaDoorW.PrintWords Go.Proofs.YtjioglaobabmmaaDoorW.PrintMore
set_option linter.unusedVariables false
set_option linter.unusedSimpArgs false
theorem wf_u8 {x : Int} (h : 0 ≤ x ∧ x ≤ 255) : (Lit.int .u8 x).wf = true :=
  (Lit.wf_int_iff _ _).2 (by simpa [IntKind.min, IntKind.max, IntKind.bits, IntKind.signed] using h)
theorem wf_i64 {x : Int} (h : -9223372036854775808 ≤ x ∧ x ≤ 9223372036854775807) : (Lit.int .i64 x).wf = true :=
  (Lit.wf_int_iff _ _).2 (by simpa [IntKind.min, IntKind.max, IntKind.bits, IntKind.signed] using h)
theorem reads_ev (l : List Int) (a : Int) (hl : l.length ≤ 2000) (hb : Bytes l) (ha : -1000 ≤ a ∧ a ≤ 2000) : Ev (fun k => colophonlaw08_EscapeReads.f k l a) true := by
  obtain ⟨k, h⟩ := EscapeReads l a (by unfold maxLen; omega) (by omega) (fun x hx => wf_u8 (hb x hx)) (wf_i64 (by omega))
  exact Ev.of (fun k => colophonlaw08_EscapeReads.mono _ _ k) h
theorem quotes_ev (s : ByteArray) (hs : s.size ≤ 1000) : Ev (fun k => colophonlaw08_EscapeQuotes.f k s) true := by
  obtain ⟨k, h⟩ := EscapeQuotes s (by omega) (by omega)
  exact Ev.of (fun k => colophonlaw08_EscapeQuotes.mono _ k) h
theorem pairs_ev (a b : Int) (ha : -9223372036854775808 ≤ a ∧ a ≤ 9223372036854775807) (hb : -9223372036854775808 ≤ b ∧ b ≤ 9223372036854775807) : Ev (fun k => colophonlaw08_EscapePairs.f k a b 255) true := by
  obtain ⟨k, h⟩ := EscapePairs a b 255 (wf_i64 ha) (wf_i64 hb) (wf_i64 (by omega))
  exact Ev.of (fun k => colophonlaw08_EscapePairs.mono _ _ _ k) h
theorem rd_range (l : List Int) (h : ∀ x ∈ l, 0 ≤ x ∧ x ≤ 100000) (i : Int) : -9223372036854775808 ≤ rd l i ∧ rd l i ≤ 9223372036854775807 := by
  unfold rd
  rw [List.getD_eq_getElem?_getD]
  cases hg : l[i.toNat]? with
  | none => exact ⟨by decide, by decide⟩
  | some v =>
    have := h v (List.mem_of_getElem? hg)
    exact ⟨by show _ ≤ v; omega, by show v ≤ _; omega⟩
theorem l3_end (L : List Int) (i : Nat) (h : L.length ≤ i) : Ev (fun k => colophonlaw08_EscapeNames.l3 k L i) true := by
  refine Ev.step (fun k => by simp only [colophonlaw08_EscapeNames.l3]; rw [if_neg (by omega)]) (Ev.bind (Ev.of (fun k => colophonlaw08_awake.mono k) awake_true) ?_)
  simp only [if_true]
  refine Ev.bind (quotes_ev _ (by decide)) ?_
  simp only [if_true]
  exact Ev.bind (quotes_ev _ (by decide)) (Ev.now _)
theorem l4_ev (L : List Int) (hL : ∀ x ∈ L, 0 ≤ x ∧ x ≤ 100000) (hn : L.length ≤ 1000) (i : Nat) (hi : i < L.length) (next : Ev (fun k => colophonlaw08_EscapeNames.l3 k L ((i + 1 : Nat) : Int)) true) (d : Nat) : ∀ j : Nat, j + d = L.length → Ev (fun k => colophonlaw08_EscapeNames.l4 k L i j) true := by
  have hw : wrap64 ((i : Int) + 1) = ((i + 1 : Nat) : Int) := by rw [wrap_nat (by omega) (by omega)]; rfl
  induction d with
  | zero =>
    intro j hj
    refine Ev.step (fun k => ?_) next
    simp only [colophonlaw08_EscapeNames.l4]
    rw [if_neg (by omega), hw]
  | succ d ih =>
    intro j hj
    have hwj : wrap64 ((j : Int) + 1) = ((j + 1 : Nat) : Int) := by rw [wrap_nat (by omega) (by omega)]; rfl
    refine Ev.step (fun k => by simp only [colophonlaw08_EscapeNames.l4]; rw [if_pos (by omega), if_pos (by omega), if_pos (by omega), if_pos (by omega), hwj]) (Ev.bind (pairs_ev _ _ (rd_range L hL _) (rd_range L hL _)) ?_)
    simp only [if_true]
    exact ih (j + 1) (by omega)
theorem l3_ev (L : List Int) (hL : ∀ x ∈ L, 0 ≤ x ∧ x ≤ 100000) (hn : L.length ≤ 1000) (d : Nat) : ∀ i : Nat, i + d = L.length → Ev (fun k => colophonlaw08_EscapeNames.l3 k L i) true := by
  induction d with
  | zero => intro i hi; exact l3_end L i (by omega)
  | succ d ih =>
    intro i hi
    refine Ev.step (fun k => ?_) (l4_ev L hL hn i (by omega) (ih (i + 1) (by omega)) L.length 0 (by omega))
    simp only [colophonlaw08_EscapeNames.l3]
    rw [if_pos (by omega)]
    rfl
theorem l2_ev (L : List ByteArray) (hL : ∀ j : Int, (rdOf ByteArray.empty L j).size ≤ 1000) (hn : L.length ≤ 1000) (i : Nat) (hi : i < L.length) (next : Ev (fun k => colophonlaw08_EscapeNames.l1 k L ((i + 1 : Nat) : Int)) true) (d : Nat) : ∀ x : Int, -1 ≤ x → x + d = (rdOf ByteArray.empty L i).size + 2 → Ev (fun k => colophonlaw08_EscapeNames.l2 k L i x) true := by
  have hw : wrap64 ((i : Int) + 1) = ((i + 1 : Nat) : Int) := by rw [wrap_nat (by omega) (by omega)]; rfl
  have hs := hL i
  generalize hS : rdOf ByteArray.empty L i = S at hs
  have hw2 : wrap64 ((S.size : Int) + 2) = (S.size : Int) + 2 := wrap_nat (by omega) (by omega)
  induction d with
  | zero =>
    intro x h0 hj
    refine Ev.step (fun k => ?_) next
    simp only [colophonlaw08_EscapeNames.l2]
    rw [if_pos (by omega), if_pos (by omega), hS, hw2, if_neg (by omega), hw]
  | succ d ih =>
    intro x h0 hj
    have hwj : wrap64 (x + 1) = x + 1 := wrap_nat (by omega) (by omega)
    have hx : X_bytes.f S = some (bytesOf S) := by unfold X_bytes.f; rw [if_pos (by omega)]
    refine Ev.step (fun k => by simp only [colophonlaw08_EscapeNames.l2]; rw [if_pos (by omega), if_pos (by omega), hS, hw2, if_pos (by omega), hwj, hx, Option.bind_some]) (Ev.bind (reads_ev (bytesOf S) x (by rw [bytesOf_length]; omega) (bytesOf_bytes S) (by omega)) ?_)
    simp only [if_true]
    exact ih (x + 1) (by omega) (by omega)
theorem rdOf_le (L : List ByteArray) (h : ∀ s ∈ L, s.size ≤ 1000) (j : Int) : (rdOf ByteArray.empty L j).size ≤ 1000 := by
  unfold rdOf
  rw [List.getD_eq_getElem?_getD]
  cases hg : L[j.toNat]? with
  | none => exact Nat.zero_le _
  | some v => exact h v (List.mem_of_getElem? hg)
theorem l1_ev (L : List ByteArray) (hL : ∀ s ∈ L, s.size ≤ 1000) (hn : L.length ≤ 1000) (d : Nat) : ∀ i : Nat, i + d = L.length → Ev (fun k => colophonlaw08_EscapeNames.l1 k L i) true := by
  induction d with
  | zero =>
    intro i hi
    refine Ev.step (fun k => ?_) (l3_ev [55295, 55296, 56319, 56320, 57343, 57344, 0] (by decide) (by decide) 7 0 rfl)
    simp only [colophonlaw08_EscapeNames.l1]
    rw [if_neg (by omega)]
    rfl
  | succ d ih =>
    intro i hi
    refine Ev.step (fun k => ?_) (l2_ev L (rdOf_le L hL) hn i (by omega) (ih (i + 1) (by omega)) ((rdOf ByteArray.empty L i).size + 3) (-1) (by omega) (by omega))
    simp only [colophonlaw08_EscapeNames.l1]
    rw [if_pos (by omega)]
theorem l0_ev (d : Nat) : ∀ i : Nat, i + d = 300 → Ev (fun k => colophonlaw08_EscapeNames.l0 k i) true := by
  induction d with
  | zero =>
    intro i hi
    refine Ev.step (fun k => by simp only [colophonlaw08_EscapeNames.l0]; rw [if_neg (by omega)]) ?_
    exact l1_ev _ (by decide) (by decide) 24 0 rfl
  | succ d ih =>
    intro i hi
    have hc : isChar (i : Int) := ⟨by omega, by omega, by omega⟩
    have hw : wrap64 ((i : Int) + 1) = ((i + 1 : Nat) : Int) := by rw [wrap_nat (by omega) (by omega)]; rfl
    have hl := char_len (i : Int)
    refine Ev.step (fun k => by simp only [colophonlaw08_EscapeNames.l0]; rw [if_pos (by omega), enc_is, Option.bind_some, encOf, if_pos hc, hw]) (Ev.bind (quotes_ev (strOfNums (bytesOfChar (i : Int))) (by rw [strOfNums_size]; omega)) ?_)
    simp only [if_true]
    have hm : 0 ≤ (i : Int) % 256 ∧ (i : Int) % 256 ≤ 255 := by omega
    generalize (i : Int) % 256 = m at hm
    refine Ev.bind (reads_ev _ 0 (by simp) (fun x hx => by simp only [List.mem_cons, List.not_mem_nil, or_false] at hx; rcases hx with rfl | rfl | rfl | rfl <;> omega) (by decide)) ?_
    simp only [if_true]
    refine Ev.bind (reads_ev _ 0 (by simp) (fun x hx => by simp only [List.mem_cons, List.not_mem_nil, or_false] at hx; rcases hx with rfl | rfl | rfl <;> omega) (by decide)) ?_
    simp only [if_true]
    refine Ev.bind (reads_ev _ 0 (by simp) (fun x hx => by simp only [List.mem_cons, List.not_mem_nil, or_false] at hx; rcases hx with rfl | rfl | rfl | rfl | rfl | rfl | rfl | rfl <;> omega) (by decide)) ?_
    simp only [if_true]
    exact ih (i + 1) (by omega)
theorem EscapeNames : colophonlaw08_EscapeNames.Pure := by
  refine Ev.rounds ?_
  unfold colophonlaw08_EscapeNames.f
  exact l0_ev 300 0 rfl
end Go.Proofs.YtjioglaobabmmaaDoor.Pure
