/- HeadNames: the plain law: its loops ask the laws that are proved of all inputs. -/
import Derived.Test.YtekmdbicobkffaaDoorP11
import Derived.Test.YtekmdbicobkffaaDoorPureHeadLong
namespace Go.Proofs.YtekmdbicobkffaaDoor.Pure
open Go.RowKit Go.Proofs.YtekmdbicobkffaaDoor.P Go.Proofs.YtekmdbicobkffaaDoorW.PrintWords Go.Proofs.YtekmdbicobkffaaDoorW.PrintMore
set_option linter.unusedVariables false
set_option linter.unusedSimpArgs false
theorem nm_u8 {x : Int} (h : 0 ≤ x ∧ x ≤ 255) : (Lit.int .u8 x).wf = true :=
  (Lit.wf_int_iff _ _).2 (by simpa [IntKind.min, IntKind.max, IntKind.bits, IntKind.signed] using h)
theorem nm_i64 {x : Int} (h : -9223372036854775808 ≤ x ∧ x ≤ 9223372036854775807) : (Lit.int .i64 x).wf = true :=
  (Lit.wf_int_iff _ _).2 (by simpa [IntKind.min, IntKind.max, IntKind.bits, IntKind.signed] using h)
theorem nm_parses (l : List Int) (hl : l.length ≤ 2000) (hb : ∀ x ∈ l, (Lit.int .u8 x).wf = true) : Ev (fun k => colophonlaw06_HeadParses.f k l) true := by
  obtain ⟨k, h⟩ := HeadParses l (by unfold maxLen; omega) (by omega) hb
  exact Ev.of (fun k => colophonlaw06_HeadParses.mono _ k) h
theorem nm_makes (a : Int) (ha : -9223372036854775808 ≤ a ∧ a ≤ 9223372036854775807) : Ev (fun k => colophonlaw06_HeadMakes.f k a) true := by
  obtain ⟨k, h⟩ := HeadMakes a (nm_i64 ha)
  exact Ev.of (fun k => colophonlaw06_HeadMakes.mono _ k) h
theorem nm_long (a : Int) (ha : -9223372036854775808 ≤ a ∧ a ≤ 9223372036854775807) : Ev (fun k => colophonlaw06_HeadLong.f k a) true := by
  obtain ⟨k, h⟩ := HeadLong a (nm_i64 ha)
  exact Ev.of (fun k => colophonlaw06_HeadLong.mono _ k) h
theorem nm_bytes (s : ByteArray) : ∀ x ∈ bytesOf s, (Lit.int .u8 x).wf = true := by
  intro x hx
  unfold bytesOf at hx
  obtain ⟨b, _, rfl⟩ := List.mem_map.mp hx
  have := b.toNat_lt
  exact nm_u8 (by omega)
theorem nm_l3 (d : Nat) : ∀ i : Nat, i + d = 500 → Ev (fun k => colophonlaw06_HeadNames.l3 k i) true := by
  induction d with
  | zero =>
    intro i hi
    refine Ev.step (fun k => by simp only [colophonlaw06_HeadNames.l3]; rw [if_neg (by omega)]) (Ev.bind (Ev.of (fun k => colophonlaw06_awake.mono k) awake_true) ?_)
    simp only [if_true, if_pos (show (511 : Nat) ≤ 281474976710656 by decide), if_pos (show (512 : Nat) ≤ 281474976710656 by decide), if_pos (show (511 : Int) ≤ 281474976710656 by decide), if_pos (show (512 : Int) ≤ 281474976710656 by decide)]
    have h0 : ∀ n : Nat, ∀ x ∈ List.replicate n (0 : Int), (Lit.int .u8 x).wf = true := fun n x hx => nm_u8 (by rw [(List.mem_replicate.mp hx).2]; omega)
    refine Ev.bind (nm_parses (List.replicate 511 0) (by rw [List.length_replicate]; omega) (h0 _)) ?_
    simp only [if_true]
    refine Ev.bind (nm_parses (List.replicate 512 0) (by rw [List.length_replicate]; omega) (h0 _)) ?_
    simp only [if_true]
    exact Ev.bind (nm_parses [] (by simp) (fun x hx => by cases hx)) (Ev.now _)
  | succ d ih =>
    intro i hi
    have hw : wrap64 ((i : Int) + 1) = ((i + 1 : Nat) : Int) := by rw [wrap_nat (by omega) (by omega)]; rfl
    have hw4 : wrap64 ((i : Int) - 400) = (i : Int) - 400 := wrap_nat (by omega) (by omega)
    refine Ev.step (fun k => by simp only [colophonlaw06_HeadNames.l3]; rw [if_pos (by omega), hw, hw4]) (Ev.bind (nm_long _ (by omega)) ?_)
    simp only [if_true]
    exact ih (i + 1) (by omega)
theorem nm_rd (l : List Int) (h : ∀ x ∈ l, -9223372036854775808 ≤ x ∧ x ≤ 9223372036854775807) (i : Int) : -9223372036854775808 ≤ rd l i ∧ rd l i ≤ 9223372036854775807 := by
  unfold rd
  rw [List.getD_eq_getElem?_getD]
  cases hg : l[i.toNat]? with
  | none => exact ⟨by decide, by decide⟩
  | some v => exact h v (List.mem_of_getElem? hg)
theorem nm_l2 (L : List Int) (hL : ∀ x ∈ L, -9223372036854775808 ≤ x ∧ x ≤ 9223372036854775807) (hn : L.length ≤ 1000) (d : Nat) : ∀ i : Nat, i + d = L.length → Ev (fun k => colophonlaw06_HeadNames.l2 k L i) true := by
  induction d with
  | zero =>
    intro i hi
    refine Ev.step (fun k => by simp only [colophonlaw06_HeadNames.l2]; rw [if_neg (by omega)]; rfl) (nm_l3 20 480 (by decide))
  | succ d ih =>
    intro i hi
    have hw : wrap64 ((i : Int) + 1) = ((i + 1 : Nat) : Int) := by rw [wrap_nat (by omega) (by omega)]; rfl
    refine Ev.step (fun k => by simp only [colophonlaw06_HeadNames.l2]; rw [if_pos (by omega), if_pos (by omega), hw]) (Ev.bind (nm_makes _ (nm_rd L hL _)) ?_)
    simp only [if_true]
    exact ih (i + 1) (by omega)
theorem nm_l1 (S : List ByteArray) (hS : ∀ j : Int, (rdOf ByteArray.empty S j).size ≤ 1000) (hn : S.length ≤ 1000) (i : Nat) (hi : i < S.length)
    (next : Ev (fun k => colophonlaw06_HeadNames.l0 k S ((i + 1 : Nat) : Int)) true) (d : Nat) : ∀ j : Nat, j + d = (rdOf ByteArray.empty S i).size + 1 → Ev (fun k => colophonlaw06_HeadNames.l1 k S i j) true := by
  have hw : wrap64 ((i : Int) + 1) = ((i + 1 : Nat) : Int) := by rw [wrap_nat (by omega) (by omega)]; rfl
  have hs := hS i
  generalize hT : rdOf ByteArray.empty S i = T at hs
  induction d with
  | zero =>
    intro j hj
    refine Ev.step (fun k => ?_) next
    simp only [colophonlaw06_HeadNames.l1]
    rw [if_pos (by omega), if_pos (by omega), hT, if_neg (by omega), hw]
  | succ d ih =>
    intro j hj
    have hwj : wrap64 ((j : Int) + 1) = ((j + 1 : Nat) : Int) := by rw [wrap_nat (by omega) (by omega)]; rfl
    have hz : (T.extract 0 j).size ≤ 1000 := by rw [ByteArray.size_extract]; omega
    have hx : X_bytes.f (T.extract 0 j) = some (bytesOf (T.extract 0 j)) := by unfold X_bytes.f; rw [if_pos (by omega)]
    refine Ev.step (fun k => by simp only [colophonlaw06_HeadNames.l1]; rw [if_pos (by omega), if_pos (by omega), hT, if_pos (by omega), if_pos (by omega), hwj, Int.toNat_natCast, hx, Option.bind_some]) (Ev.bind (nm_parses _ (by rw [bytesOf_length]; omega) (nm_bytes _)) ?_)
    simp only [if_true]
    exact ih (j + 1) (by omega)
theorem nm_l0 (S : List ByteArray) (hS : ∀ j : Int, (rdOf ByteArray.empty S j).size ≤ 1000) (hn : S.length ≤ 1000) (d : Nat) : ∀ i : Nat, i + d = S.length → Ev (fun k => colophonlaw06_HeadNames.l0 k S i) true := by
  induction d with
  | zero =>
    intro i hi
    refine Ev.step (fun k => by simp only [colophonlaw06_HeadNames.l0]; rw [if_neg (by omega)]; rfl) (nm_l2 [0, 1, 9, 10, 65535, 65536, 65537, -1] (by decide) (by decide) 8 0 (by decide))
  | succ d ih =>
    intro i hi
    refine Ev.step (fun k => by simp only [colophonlaw06_HeadNames.l0]; rw [if_pos (by omega)]; rfl) (nm_l1 S hS hn i (by omega) (ih (i + 1) (by omega)) ((rdOf ByteArray.empty S i).size + 1) 0 (by omega))
theorem nm_rdOf (L : List ByteArray) (h : ∀ s ∈ L, s.size ≤ 1000) (j : Int) : (rdOf ByteArray.empty L j).size ≤ 1000 := by
  unfold rdOf
  rw [List.getD_eq_getElem?_getD]
  cases hg : L[j.toNat]? with
  | none => decide
  | some v => exact h v (List.mem_of_getElem? hg)
set_option maxRecDepth 100000 in
theorem HeadNames : colophonlaw06_HeadNames.Pure := by
  refine Ev.rounds ?_
  unfold colophonlaw06_HeadNames.f
  exact nm_l0 _ (nm_rdOf _ (by decide)) (by decide) _ 0 (Nat.zero_add _)
end Go.Proofs.YtekmdbicobkffaaDoor.Pure
