/- head.line's parts, by hand: names' characters. -/
import Derived.Test.YtekmdbicobkffaaDoorS1
import Derived.Shelf.Spec.BytesIndexFunc
import Derived.Shelf.Bytes.SlTrim
namespace Go.Proofs.YtekmdbicobkffaaDoor.P
open Go.RowKit Go.Proofs.YtekmdbicobkffaaDoorW.PrintWords Go.Proofs.YtekmdbicobkffaaDoorW.PrintLast Go.Proofs.YtekmdbicobkffaaDoorW.PrintMore
set_option linter.unusedVariables false
set_option linter.unusedSimpArgs false
/-- May a character be in a name? -/
def nameI (c : Int) : Bool := (decide (97 ≤ c) && decide (c ≤ 122)) || (decide (65 ≤ c) && decide (c ≤ 90)) || (decide (48 ≤ c) && decide (c ≤ 57)) || (c == 45)
set_option maxHeartbeats 4000000 in
set_option maxRecDepth 100000 in
theorem inName_c (c : Int) (w : World) : Calls Tryd.prog 38 #[.int .i32 c] w fun e w' => e = .returned (.bool (nameI c)) ∧ w = w' := by
  unfold nameI
  obtain ⟨b1, h1⟩ : ∃ b, decide (97 ≤ c) = b := ⟨_, rfl⟩
  obtain ⟨b2, h2⟩ : ∃ b, decide (c ≤ 122) = b := ⟨_, rfl⟩
  obtain ⟨b3, h3⟩ : ∃ b, decide (65 ≤ c) = b := ⟨_, rfl⟩
  obtain ⟨b4, h4⟩ : ∃ b, decide (c ≤ 90) = b := ⟨_, rfl⟩
  obtain ⟨b5, h5⟩ : ∃ b, decide (48 ≤ c) = b := ⟨_, rfl⟩
  obtain ⟨b6, h6⟩ : ∃ b, decide (c ≤ 57) = b := ⟨_, rfl⟩
  rw [h1, h2, h3, h4, h5, h6]
  by_cases h : c = 45
  · subst h
    obtain rfl := h1.symm; obtain rfl := h2.symm; obtain rfl := h3.symm; obtain rfl := h4.symm; obtain rfl := h5.symm; obtain rfl := h6.symm
    go_enter Tryd.func38, Tryd.ntmps38
    go_wp2
    go_ret
    exact ⟨rfl, rfl⟩
  · have h7 : (c == 45) = false := beq_eq_false_iff_ne.mpr h
    rw [h7]
    cases b1 <;> cases b2 <;> cases b3 <;> cases b4 <;> cases b5 <;> cases b6 <;> first
      | (exfalso; simp only [decide_eq_true_eq, decide_eq_false_iff_not] at h1 h2 h3 h4 h5 h6; omega)
      | (clear h; go_enter Tryd.func38, Tryd.ntmps38; go_wp2; go_ret; exact ⟨rfl, rfl⟩)
theorem line1_c (c : Int) (w : World) : Calls Tryd.prog 37 #[.int .i32 c] w fun e w' => e = .returned (.bool (!nameI c)) ∧ w = w' := by
  have h := inName_c c w
  generalize nameI c = b at h ⊢
  cases b <;> (go_enter Tryd.func37, Tryd.ntmps37; go_wp2_with (go_at_call 38; refine h.mono ?_; rintro e w' ⟨rfl, rfl⟩); go_ret; exact ⟨rfl, rfl⟩)
theorem byte_of (l : List Int) (hb : ∀ x ∈ l, 0 ≤ x ∧ x < 256) (i : Nat) (h : i < (strOfNums l).size) (h2 : i < l.length) : ((strOfNums l)[i]'h).toNat = (l[i]'h2).toNat := by
  have := hb _ (List.getElem_mem h2)
  show ((strOfNums l).data[i]'h).toNat = _
  simp only [strOfNums, List.getElem_toArray, List.getElem_map, UInt8.toNat_ofNat']
  omega
theorem nameI_high {c : Int} (h : 128 ≤ c) : nameI c = false := by
  unfold nameI
  rw [decide_eq_false (show ¬ c ≤ 122 by omega), decide_eq_false (show ¬ c ≤ 90 by omega), decide_eq_false (show ¬ c ≤ 57 by omega), beq_eq_false_iff_ne.mpr (show c ≠ 45 by omega)]
  simp
theorem idx_names (l : List Int) (hb : ∀ x ∈ l, 0 ≤ x ∧ x < 256) (f : Nat) : ∀ pos : Nat, l.length ≤ pos + f → (0 ≤ Lib.idxFuncFrom (fun x => !nameI (x : Int)) true (strOfNums l) f pos ↔ ¬ (l.drop pos).all nameI = true) := by
  have hz := strOfNums_size l
  induction f with
  | zero =>
    intro pos h
    rw [List.drop_of_length_le (by omega)]
    simp [Lib.idxFuncFrom]
  | succ f ih =>
    intro pos h
    unfold Lib.idxFuncFrom
    by_cases hp : pos < l.length
    · have hp' : pos < (strOfNums l).size := by omega
      have hbyte := byte_of l hb pos hp' hp
      have hr := hb _ (List.getElem_mem hp)
      rw [if_pos hp', List.drop_eq_getElem_cons hp, List.all_cons]
      by_cases ha : (l[pos]'hp) < 128
      · rw [decode_ascii (strOfNums l) pos hp' (by omega), hbyte]
        simp only
        have e : (((l[pos]'hp).toNat : Nat) : Int) = l[pos]'hp := by omega
        rw [e]
        cases hn : nameI (l[pos]'hp)
        · simp
        · have := ih (pos + 1) (by omega)
          simpa using this
      · have hd := decode_high (strOfNums l) pos hp' (by omega)
        have hnd : nameI (((Utf8.decode (strOfNums l) pos).1 : Nat) : Int) = false := nameI_high (by omega)
        rw [hnd, nameI_high (show 128 ≤ l[pos]'hp by omega)]
        simp
    · rw [if_neg (by omega), List.drop_of_length_le (by omega)]
      simp
theorem all_drop0 (l : List Int) : (l.drop 0).all nameI = l.all nameI := by simp
theorem pred_names (w : World) : PredGrows Tryd.prog 37 #[] (fun x => !nameI (x : Int)) w := by
  intro W x hx hb
  refine (line1_c (x : Int) W).mono ?_
  rintro e w' ⟨rfl, rfl⟩
  exact ⟨rfl, Below.refl _ _⟩
theorem enters37 : ∀ args w, (callFunc 37 args).run Tryd.prog w = .ok (.enter 37 args) w := enters_of Tryd.func37 (by kernel_rfl) rfl
theorem contains_c (A : Option Addr) (c : Nat) (l : List Int) (w : World) (hr : Kd.C (Kd.int .u8) w A l.length l) (hc : l.length ≤ c) (h0 : 0 < l.length) (hb : ∀ x ∈ l, 0 ≤ x ∧ x < 256) (hT : TAB w) :
    Calls Tryd.prog 36 #[.slice A l.length c, .func (.func 37) #[] #[]] w fun e w' => e = .returned (.bool (!l.all nameI)) ∧ Below w.heap.size w w' := by
  have hz := strOfNums_size l
  obtain ⟨b, o, rfl, hcell⟩ := (bytesIn_of_C hr).at h0
  have hBA : BytesAt (strOfNums l) b o w := by
    intro j hj
    have hj' : j < l.length := by omega
    rw [hcell j hj']
    congr 2
    have := byte_of l hb j hj hj'
    have hr := hb _ (List.getElem_mem hj')
    rw [List.getD_eq_getElem?_getD, List.getElem?_eq_getElem hj']
    show l[j] = _
    have e : (strOfNums l).get! j = (strOfNums l)[j]'hj := getElem!_pos (strOfNums l).data j hj
    rw [e]
    omega
  have hi := Any7.bytes_indexFunc Tryd.lays7n55 37 #[] enters37 (fun x => !nameI (x : Int)) true (strOfNums l) b o c w (by omega) (by have := hr.2.1; omega) hBA hT.utf (pred_names w)
  have hn := idx_names l hb l.length 0 (by omega)
  rw [all_drop0] at hn
  have he : Lib.idxFunc (fun x => !nameI (x : Int)) true (strOfNums l) = Lib.idxFuncFrom (fun x => !nameI (x : Int)) true (strOfNums l) l.length 0 := by unfold Lib.idxFunc; rw [hz]
  rw [he] at hi
  rw [hz] at hi
  generalize Lib.idxFuncFrom (fun x => !nameI (x : Int)) true (strOfNums l) l.length 0 = r at hi hn
  have h54 : Calls Tryd.prog 54 #[.slice (some ⟨b, o, none⟩) l.length c, .func (.func 37) #[] #[]] w fun e w' => e = .returned (.int .i64 r) ∧ Below w.heap.size w w' := by
    clear hn hBA hcell hr he
    go_enter Tryd.func54, Tryd.ntmps54
    go_wp2_with (go_at_call 72; refine hi.mono ?_; rintro e w' ⟨rfl, hbel⟩)
    go_ret
    exact ⟨rfl, hbel⟩
  have hv : (!l.all nameI) = decide (0 ≤ r) := by
    cases hq : l.all nameI
    · rw [hq] at hn; rw [decide_eq_true (hn.mpr (by simp))]; rfl
    · rw [hq] at hn; rw [decide_eq_false (fun h => hn.mp h rfl)]; rfl
  rw [hv]
  clear hn hBA hcell hr he hv hi
  go_enter Tryd.func36, Tryd.ntmps36
  go_wp2_with (go_at_call 54; refine h54.mono ?_; rintro e w' ⟨rfl, hbel⟩)
  go_ret
  exact ⟨rfl, hbel⟩
end Go.Proofs.YtekmdbicobkffaaDoor.P
