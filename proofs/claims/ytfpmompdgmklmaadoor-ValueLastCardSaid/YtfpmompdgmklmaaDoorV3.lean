/- slices.Clone at values and at names: a row of the call's own; a value's row of shallow copies among those that are copied. -/
import Derived.Test.YtfpmompdgmklmaaDoorV0
import Derived.Test.YtfpmompdgmklmaaDoorShelf
import Derived.WalkKit
namespace Go.Proofs.YtfpmompdgmklmaaDoor.P
open Go.RowKit Go.Proofs.YtfpmompdgmklmaaDoorW.PrintWords Go.Proofs.YtfpmompdgmklmaaDoorW.PrintLast Go.Proofs.YtfpmompdgmklmaaDoorW.PrintMore
set_option linter.unusedVariables false
set_option linter.unusedSimpArgs false
/-- An element is copied (true), or as it came in, in the world w0. -/
def kmix (w0 : World) : Kd (S25 × Bool) where
  sz := 5
  E := [9, 25]
  K := fun _ _ cs => cs.length = 5 ∧ ∀ u ∈ cs, u.oneCell' = true
  M := fun w base ok x cs => if x.2 = true then k25.M w base ok x.1 cs else k25.K w0 x.1 cs
  K_len := fun h => h.1
  K_one := fun h => h.2
  K_below := fun _ h => h
  K_of_M := by
    intro w base ok x cs h
    split at h
    · exact ⟨k25.K_len (k25.K_of_M h), k25.K_one (k25.K_of_M h)⟩
    · exact ⟨k25.K_len h, k25.K_one h⟩
  M_mono := by
    intro w base ok ok' x cs hok h
    split at h
    · rename_i hx; rw [if_pos hx]; exact k25.M_mono hok h
    · rename_i hx; rw [if_neg hx]; exact h
  M_bound := by
    intro w base ok x cs h
    split at h
    · rename_i hx; rw [if_pos hx]; exact k25.M_bound h
    · rename_i hx; rw [if_neg hx]; exact h
  M_move := by
    intro w w1 base ok x cs hm h
    split at h
    · rename_i hx; rw [if_pos hx]; exact k25.M_move hm h
    · rename_i hx; rw [if_neg hx]; exact h
  M_lower := by
    intro w base base' ok x cs hb h
    split at h
    · rename_i hx; rw [if_pos hx]; exact k25.M_lower hb h
    · rename_i hx; rw [if_neg hx]; exact h
theorem kmix_false {w0 w : World} {base : Nat} {ok : Nat → Prop} {x : S25} {cs : List Value} (h : k25.K w0 x cs) : (kmix w0).M w base ok (x, false) cs := by
  simpa [kmix] using h
theorem kmix_true {w0 w : World} {base : Nat} {ok : Nat → Prop} {x : S25} {cs : List Value} (h : k25.M w base ok x cs) : (kmix w0).M w base ok (x, true) cs := by
  simpa [kmix] using h
theorem kmix_false' {w0 w : World} {base : Nat} {ok : Nat → Prop} {x : S25} {cs : List Value} (h : (kmix w0).M w base ok (x, false) cs) : k25.K w0 x cs := by
  simpa [kmix] using h
theorem kmix_true' {w0 w : World} {base : Nat} {ok : Nat → Prop} {x : S25} {cs : List Value} (h : (kmix w0).M w base ok (x, true) cs) : k25.M w base ok x cs := by
  simpa [kmix] using h
theorem ownBlock_ge {w : World} {base : Nat} {e : TypeId} {size n : Nat} {v : Value} {xs : List Value} (h : w.ownsRow base e size v n xs) (k : Nat) (hk : v.ownBlock = some k) : base ≤ k := own_base h k hk
/-- slices.Clone of names. -/
theorem clone40 (A : Option Addr) (c : Nat) (l : List ByteArray) (w : World) (hr : Kd.C Kd.string w A l.length l) (hs : l.length * 16 ≤ 140737488355328) :
    Calls Tryd.prog 40 #[.slice A l.length c] w fun e w' => ∃ v, e = .returned v ∧ Kd.R Kd.string 9 w' w.heap.size (fun k => w.heap.size ≤ k) v l ∧ Below w.heap.size w w' := by
  rcases A with _ | ad
  · have h0 : l.length = 0 := by
      rcases Nat.eq_zero_or_pos l.length with h0 | h0
      · exact h0
      · obtain ⟨ad, h', _⟩ := hr.2.2 h0
        cases h'
    obtain rfl : l = [] := List.eq_nil_of_length_eq_zero h0
    refine (Tryd.slices_Clone_string_nil _ c w).mono ?_
    rintro e w' ⟨rfl, rfl⟩
    exact ⟨_, rfl, Kd.R_nil _ _ _ _ _, Below.refl _ _⟩
  · rcases Nat.eq_zero_or_pos l.length with h0 | h0
    · obtain rfl : l = [] := List.eq_nil_of_length_eq_zero h0
      refine (Tryd.slices_Clone_string_zero ad c w).mono ?_
      rintro e w' ⟨v, rfl, ho, _, hb⟩
      exact ⟨v, rfl, Kd.R_of_own (enc := Value.string) (h1 := fun _ => rfl) ho (fun k hk => own_base ho k hk), hb⟩
    · obtain ⟨ad', he, hc⟩ := hr.2.2 h0
      cases he
      have hcell : ∀ j, j < l.length → w.cell? (ad.add j) = some (.string (l.getD j ByteArray.empty)) := fun j hj => by
        obtain ⟨cs, hl, hR, hcs⟩ := hc j _ (List.getElem?_eq_getElem hj)
        have hR' : cs = [.string l[j]] := hR
        subst hR'
        have := hcs 0 _ rfl
        rw [show j * Kd.string.sz + 0 = j from Nat.mul_one j] at this
        rw [this]
        simp [List.getD, hj]
      obtain ⟨b, o, rfl⟩ : ∃ b o, ad = ⟨b, o, none⟩ := by
        have h := hcell 0 h0
        obtain ⟨b, o, s⟩ := ad
        cases s with
        | none => exact ⟨b, o, rfl⟩
        | some s =>
          unfold Addr.add at h
          simp [World.cell?] at h
          split at h <;> simp_all
      have hcell' : ∀ j, j < l.length → w.cell? ⟨b, o + j, none⟩ = some (.string (l.getD j ByteArray.empty)) := fun j hj => by
        have := hcell j hj
        rwa [add_at] at this
      refine (Tryd.slices_Clone_string b o l.length c l w (Nat.le_refl _) hs hcell').mono ?_
      rintro e w' ⟨v, rfl, ho, _, hb⟩
      rw [List.take_length] at ho
      exact ⟨v, rfl, Kd.R_of_own (enc := Value.string) (h1 := fun _ => rfl) ho (fun k hk => own_base ho k hk), hb⟩
set_option maxHeartbeats 2000000 in
set_option maxRecDepth 100000 in
/-- slices.Clone of values: the cells are copied. -/
theorem clone41 (A : Option Addr) (c : Nat) (l : List S25) (w0 w : World) (hr : Kd.C k25 w0 A l.length l) (hbel : Below w0.heap.size w0 w) (hs : l.length * 80 ≤ 140737488355328) :
    Calls Tryd.prog 41 #[.slice A l.length c] w fun e w' => ∃ v, e = .returned v ∧ Kd.R (kmix w0) 25 w' w.heap.size (fun k => w.heap.size ≤ k) v (l.map fun x => (x, false)) ∧ Below w.heap.size w w' := by
  rcases A with _ | ad
  · have h0 : l.length = 0 := by
      rcases Nat.eq_zero_or_pos l.length with h0 | h0
      · exact h0
      · obtain ⟨ad, h', _⟩ := hr.2.2 h0
        cases h'
    obtain rfl : l = [] := List.eq_nil_of_length_eq_zero h0
    refine (Tryd.slices_CloneV_nil _ c w).mono ?_
    rintro e w' ⟨rfl, rfl⟩
    exact ⟨_, rfl, Kd.R_nil _ _ _ _ _, Below.refl _ _⟩
  · obtain ⟨inner, hrep, hcell0⟩ : ∃ inner, Reps (k25.K w0) 5 l inner ∧ ∀ j u, inner[j]? = some u → w0.cell? (ad.add j) = some u := ReadsRow.inner_ hr
    have hcell : ∀ j u, inner[j]? = some u → w.cell? (ad.add j) = some u := fun j u hj => pw_cell_below hbel (hcell0 j u hj)
    clear hcell0
    have hone : ∀ u ∈ inner, u.oneCell' = true := by
      intro u hu
      obtain ⟨i, hi, rfl⟩ := List.mem_iff_getElem.mp hu
      have hlen := hrep.1
      have hq : i / 5 < l.length := by omega
      have hK := hrep.2 (i / 5) _ (List.getElem?_eq_getElem hq)
      refine k25.K_one hK _ ?_
      have e : inner[i] = ((inner.drop (i / 5 * 5)).take 5)[i % 5]'(by rw [List.length_take, List.length_drop]; omega) := by
        rw [List.getElem_take, List.getElem_drop]
        congr 1
        omega
      rw [e]
      exact List.getElem_mem _
    obtain ⟨i0, hi, hz0, hz1, hz2⟩ := info_parts info25
    have q22 : ∀ (w : World) (a : Option Addr) (n c n' c' : Nat), (binOp .eql 22 (.slice a n c) (.slice none n' c')).run Tryd.prog w = .ok (.bool a.isNone) w := fun w a n c n' c' => Lib.run_eql_slice_nil w _ _ a n c n' c' Tryd.underlying22
    have HC := Aside0.mk hcell
    have HO := Aside0.mk hone
    have HP := Aside0.mk hrep
    have hn : l.length ≤ 9223372036854775807 := hr.2.1
    have hlen := hrep.1
    clear hcell hone hrep hr
    go_enter Tryd.func41, Tryd.ntmps41
    go_wp2_with (at_builtin; refine wpList_append_own _ rfl _ _ 22 rfl w.heap.size 25 i0 _ 5 80 Tryd.underlying22 hi hz0 hz1 hz2 rfl (by decide) _ _ _ rfl (World.ownsRow_made w #[] 0 (Nat.le_refl _) (Nat.zero_le _) (by simp)) ad l.length c inner rfl ?qc1 ?qc2 ?qc3 ?qc4 ?qc5 ?qc6 ?_)
    case qc1 => exact hlen
    case qc2 =>
      intro j u hj
      exact Lib.cell?_alloc_some _ (HC.out j u hj)
    case qc3 => exact HO.out
    case qc4 => rw [Nat.zero_add]; exact hn
    case qc5 => rw [Nat.zero_add]; exact hs
    case qc6 => simp
    intro v' w1 hown hgrow hnil
    go_wp2
    go_ret
    refine ⟨v', rfl, ?_, ?_⟩
    · have hown' : w1.ownsRow w.heap.size 25 5 v' l.length inner := by simpa using hown
      refine ⟨fun k hk => own_base hown' k hk, inner, by rw [List.length_map]; exact hown', ?_⟩
      refine ⟨by rw [List.length_map]; exact HP.out.1, fun j p hj => ?_⟩
      rw [List.getElem?_map] at hj
      obtain ⟨x, hx, rfl⟩ := Option.map_eq_some_iff.mp hj
      have := HP.out.2 j x hx
      exact kmix_false this
    · exact ((Below.refl _ w).alloc (Nat.le_refl _) _).grown hgrow (by simp) (by intro k hk; simp [Value.ownBlock] at hk; omega)
end Go.Proofs.YtfpmompdgmklmaaDoor.P
